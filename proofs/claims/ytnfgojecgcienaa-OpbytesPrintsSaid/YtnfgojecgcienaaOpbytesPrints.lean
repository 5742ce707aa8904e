/- OpbytesPrints: for every operation the law answers true. No condition. -/
import Derived.Test.YtnfgojecgcienaaOpAwake
import Derived.Test.YtnfgojecgcienaaOpRefPut
import Derived.Test.YtnfgojecgcienaaOpOpen
namespace Go.Proofs.Ytnfgojecgcienaa
open Go.RowKit Go.ChangeShapes Go.WideShapes Go.Joins
set_option linter.unusedVariables false

set_option maxRecDepth 100000 in
set_option maxHeartbeats 1000000 in
theorem OpbytesPrints_out {o : OpV} (ho : OpOk o) (w : World) (h : 1000 < o.cron.length) :
    Calls Try.prog 3 #[.agg (opCells o).toArray] w fun e w' => e = .returned (.bool true) ∧ Below w.heap.size w w' := by
  have hlm := ho.2.2.2
  unfold maxLen at hlm
  have hP := BlkAt.new w 23 (opCells o)
  have hbel := (Below.refl w.heap.size w).alloc (Nat.le_refl _) (.cells (opCells o).toArray 23)
  go_enter Try.func3, Try.ntmps3
  go_wp2_with fail
  refine (awake_any _).mono ?_
  rintro e w1 ⟨rfl, b1⟩
  have c9 := (hP.below b1).cell (op_cell9 ho.1)
  have hb1 := below_step hbel b1
  clear hP hbel b1
  go_wp2_with fail
  refine (awake_any _).mono ?_
  rintro e w2 ⟨rfl, b2⟩
  have hb2 := below_step hb1 b2
  go_wp2_with fail
  go_ret
  exact ⟨rfl, hb2⟩

set_option maxRecDepth 100000 in
set_option maxHeartbeats 2000000 in
theorem OpbytesPrints_no {k a1 a2 a3 a4 a5 a6 a7 a8 : Int} {s : List UInt8} (ho : OpOk ⟨k, [a1, a2, a3, a4, a5, a6, a7, a8], s⟩) (w : World) (h : s.length ≤ 1000) (hm : mayOp ⟨k, [a1, a2, a3, a4, a5, a6, a7, a8], s⟩ = false) :
    Calls Try.prog 3 #[.agg (opCells ⟨k, [a1, a2, a3, a4, a5, a6, a7, a8], s⟩).toArray] w fun e w' => e = .returned (.bool true) ∧ Below w.heap.size w w' := by
  have HM := Lib.hid hm
  clear hm
  have hP := BlkAt.new w 23 (opCells ⟨k, [a1, a2, a3, a4, a5, a6, a7, a8], s⟩)
  have hbel := (Below.refl w.heap.size w).alloc (Nat.le_refl _) (.cells (opCells ⟨k, [a1, a2, a3, a4, a5, a6, a7, a8], s⟩).toArray 23)
  go_enter Try.func3, Try.ntmps3
  go_wp2_with fail
  refine (awake_any _).mono ?_
  rintro e w1 ⟨rfl, b1⟩
  have hP1 := hP.below b1
  have hb1 := below_step hbel b1
  obtain ⟨h0, h1, h2, h3, h4, h5, h6, h7, h8, h9⟩ := op_conj hP1
  clear hP hbel b1
  go_wp2_with fail
  refine (print_no (o := ⟨k, [a1, a2, a3, a4, a5, a6, a7, a8], s⟩) ho HM.out _).mono ?_
  rintro e w2 ⟨rfl, b2⟩
  have hP2 := hP1.below b2
  have hb2 := below_step hb1 b2
  clear h0 h1 h2 h3 h4 h5 h6 h7 h8 h9 hP1 hb1 b2
  obtain ⟨h0, h1, h2, h3, h4, h5, h6, h7, h8, h9⟩ := op_conj hP2
  go_wp2_with fail
  refine (qmay_any (o := ⟨k, [a1, a2, a3, a4, a5, a6, a7, a8], s⟩) ho _).mono ?_
  rintro e w3 ⟨rfl, b3⟩
  rw [HM.out]
  have hb3 := below_step hb2 b3
  clear h0 h1 h2 h3 h4 h5 h6 h7 h8 h9 hP2 hb2 b3
  go_wp2_with fail
  go_ret
  exact ⟨rfl, hb3⟩

set_option maxRecDepth 100000 in
set_option maxHeartbeats 2000000 in
theorem OpbytesPrints_yes {k a1 a2 a3 a4 a5 a6 a7 a8 : Int} {s : List UInt8} (ho : OpOk ⟨k, [a1, a2, a3, a4, a5, a6, a7, a8], s⟩) (w : World) (h : s.length ≤ 256) (hm : mayOp ⟨k, [a1, a2, a3, a4, a5, a6, a7, a8], s⟩ = true) :
    Calls Try.prog 3 #[.agg (opCells ⟨k, [a1, a2, a3, a4, a5, a6, a7, a8], s⟩).toArray] w fun e w' => e = .returned (.bool true) ∧ Below w.heap.size w w' := by
  have HM := Lib.hid hm
  have HR := Lib.hid (read_enc ho hm)
  have hel := encOp_len ho.1
  simp only at hel
  clear hm
  have hP := BlkAt.new w 23 (opCells ⟨k, [a1, a2, a3, a4, a5, a6, a7, a8], s⟩)
  have hbel := (Below.refl w.heap.size w).alloc (Nat.le_refl _) (.cells (opCells ⟨k, [a1, a2, a3, a4, a5, a6, a7, a8], s⟩).toArray 23)
  go_enter Try.func3, Try.ntmps3
  go_wp2_with fail
  refine (awake_any _).mono ?_
  rintro e w1 ⟨rfl, b1⟩
  have hP1 := hP.below b1
  have hb1 := below_step hbel b1
  obtain ⟨h0, h1, h2, h3, h4, h5, h6, h7, h8, h9⟩ := op_conj hP1
  clear hP hbel b1
  go_wp2_with fail
  refine (print_yes (o := ⟨k, [a1, a2, a3, a4, a5, a6, a7, a8], s⟩) ho HM.out _).mono ?_
  rintro e w2 ⟨rfl, b2⟩
  have hP2 := hP1.below b2
  have hb2 := below_step hb1 b2
  clear h0 h1 h2 h3 h4 h5 h6 h7 h8 h9 hP1 hb1 b2
  obtain ⟨h0, h1, h2, h3, h4, h5, h6, h7, h8, h9⟩ := op_conj hP2
  go_wp2_with fail
  refine (qmay_any (o := ⟨k, [a1, a2, a3, a4, a5, a6, a7, a8], s⟩) ho _).mono ?_
  rintro e w3 ⟨rfl, b3⟩
  rw [HM.out]
  have hP3 := hP2.below b3
  have hb3 := below_step hb2 b3
  clear h0 h1 h2 h3 h4 h5 h6 h7 h8 h9 hP2 hb2 b3
  go_wp2_with fail
  refine (oread_any (encOp ⟨k, [a1, a2, a3, a4, a5, a6, a7, a8], s⟩) (by omega) _).mono ?_
  rintro e w4 ⟨rfl, b4⟩
  rw [HR.out, show rdErr ((⟨k, [a1, a2, a3, a4, a5, a6, a7, a8], s⟩ : OpV), true).2 = 0 from rfl, op_lit]
  have hP4 := hP3.below b4
  have hb4 := below_step hb3 b4
  clear hP3 hb3 b4
  go_upto_region 7 with (fail)
  have hX := BlkAt.new w4 23 (opCells ⟨k, [a1, a2, a3, a4, a5, a6, a7, a8], s⟩)
  have hP5 := hP4.alloc (.cells (opCells ⟨k, [a1, a2, a3, a4, a5, a6, a7, a8], s⟩).toArray 23)
  have hb5 := hb4.alloc hb4.size (.cells (opCells ⟨k, [a1, a2, a3, a4, a5, a6, a7, a8], s⟩).toArray 23)
  change Code.wp _ _ _ _ (w4.alloc (.cells (opCells ⟨k, [a1, a2, a3, a4, a5, a6, a7, a8], s⟩).toArray 23))
  generalize w4.alloc (.cells (opCells ⟨k, [a1, a2, a3, a4, a5, a6, a7, a8], s⟩).toArray 23) = w5 at *
  generalize w4.heap.size = X at *
  clear hP4 hb4
  obtain ⟨h0, h1, h2, h3, h4, h5, h6, h7, h8, h9⟩ := op_conj hP5
  go_wp2_with fail
  refine (qprint_any (o := ⟨k, [a1, a2, a3, a4, a5, a6, a7, a8], s⟩) ho (Nat.le_trans h (by omega)) _).mono ?_
  rintro e w6 ⟨rfl, b6⟩
  have hP6 := hP5.below b6
  have hX6 := hX.below b6
  have hb6 := below_step hb5 b6
  clear h0 h1 h2 h3 h4 h5 h6 h7 h8 h9 hP5 hb5 b6 hX
  obtain ⟨h0, h1, h2, h3, h4, h5, h6, h7, h8, h9⟩ := op_conj hP6
  go_wp2_with fail
  refine (put_any (o := ⟨k, [a1, a2, a3, a4, a5, a6, a7, a8], s⟩) ho (Nat.le_trans h (by omega)) _).mono ?_
  rintro e w7 ⟨rfl, b7⟩
  have hP7 := hP6.below b7
  have hX7 := hX6.below b7
  have hb7 := below_step hb6 b7
  clear h0 h1 h2 h3 h4 h5 h6 h7 h8 h9 hP6 hb6 b7 hX6
  obtain ⟨h0, h1, h2, h3, h4, h5, h6, h7, h8, h9⟩ := op_conj hP7
  obtain ⟨i0, i1, i2, i3, i4, i5, i6, i7, i8, i9⟩ := op_conj hX7
  go_wp2_with fail
  go_ret
  exact ⟨rfl, hb7⟩

theorem OpbytesPrints_walk {H : Type} {enc : TypeId × Value → H} {base : Nat} {d : DataW H} {p : List MemPlace} (v : Value) (w : World) (hv : Value.okWide Try.prog w .any base 23 v) (ht : DataW.Trod enc Try.prog w 0 (fun _ => true) true 23 v d p) :
    Calls Try.prog 3 #[v] w fun e w' => e = .returned (.bool true) ∧ Below w.heap.size w w' := by
  obtain ⟨o, ho, rfl⟩ := open_op hv ht
  by_cases h : 1000 < o.cron.length
  · exact OpbytesPrints_out ho w h
  · obtain ⟨k, v, s⟩ := o
    obtain ⟨a1, a2, a3, a4, a5, a6, a7, a8, rfl⟩ := list8 ho.1
    by_cases hm : mayOp ⟨k, [a1, a2, a3, a4, a5, a6, a7, a8], s⟩ = true
    · exact OpbytesPrints_yes ho w (mayOp_iff.1 hm).2.2 hm
    · exact OpbytesPrints_no ho w (by simpa using h) (by simpa using hm)


theorem OpbytesPrints_calls (H : Type) (enc : TypeId × Value → H) (W : World) (base : Nat) (args : Array Value) (ds gs : List (DataW H)) (before : List MemPlace)
    (hval : ∀ (j : Nat) t v, Try.f3.params[j]? = some t → args[j]? = some v → Value.okWide Try.prog W .any base t v)
    (hW : DataW.Whole enc Try.prog Try.f3.params.toList Rows.opbytesPrintsSpec.vars false W args.toList ds gs before) :
    Calls Try.prog 3 args W fun e W' => e = .returned (.bool true) ∧ Below W.heap.size W W' := by
  obtain ⟨p, q, hA, hV, rfl, hfz, hnd⟩ := hW
  rw [Try.params3] at hA hval
  obtain ⟨v0, vs0, d0, ds0, p0, q0, hargs, rfl, rfl, h0, r0⟩ := trodAll_cons hA
  obtain ⟨rfl, rfl, rfl⟩ := trodAll_nil r0
  obtain rfl : args = #[v0] := Array.toList_inj.1 hargs

  exact OpbytesPrints_walk v0 W (hval 0 23 v0 rfl rfl) h0

set_option maxRecDepth 100000 in
theorem OpbytesPrints_lifted (os : Os) (started : os.Started) (H : Type) (enc : TypeId × Value → H) :
    ReturnsInHanded {} Try.checked os 3 .any (Rows.opbytesPrintsSpec.pre6 enc Try.prog Try.f3 Rows.opbytesPrintsRow.domain false) (Rows.opbytesPrintsSpec.post enc Try.prog Try.f3 false true false false) := by
  refine returnsInHanded_of_change (C := Try.checked) own started (by kernel_rfl) Try.func3
    (ChangeSpec.witness6 (enc := enc) (C := Try.checked) false ⟨#[], #[.agg #[.int .i64 0, .int .i64 0, .int .i64 0, .int .i64 0, .int .i64 0, .int .i64 0, .int .i64 0, .int .i64 0, .int .i64 0, .string ByteArray.empty]], []⟩ 8 (by kernel_rfl) (by kernel_rfl) (by kernel_rfl) (by kernel_rfl)) ?_
  intro W base args ds gs before hval0 hW hcnd _
  have hval : ∀ (j : Nat) t v, Try.f3.params[j]? = some t → args[j]? = some v → Value.okWide Try.prog W .any base t v := hval0
  refine (OpbytesPrints_calls H enc W base args ds gs before hval hW).mono fun e W' ⟨he, bel⟩ => ?_
  exact ⟨_, he, law_post (ts := [23]) (by rw [Try.params3]) (by intro t ht; simp only [List.mem_cons, List.not_mem_nil, or_false] at ht; subst ht <;> exact ⟨by kernel_rfl, of_decide_eq_true (by kernel_rfl)⟩) hW rfl
    (fun ds h => by match ds, h with | [_], _ => rfl) (by kernel_rfl) bel⟩

theorem OpbytesPrints_over : Rows.opbytesPrintsRow.holds Try.pinned (OpenSpec.ofChange Rows.opbytesPrintsSpec) :=
  OpenClaim.holds_of_wide 3 Try.f3 rfl rfl rfl rfl rfl rfl rfl ⟨rfl, rfl, rfl, rfl, rfl⟩ rfl rfl rfl rfl rfl (by kernel_rfl) Try.func3 (by kernel_rfl)
    (of_decide_eq_true (by kernel_rfl)) (by unfold Func.isWrapper; first | (rw [if_pos (by decide +kernel)]; kernel_rfl) | (rw [if_neg (by decide +kernel)]; exact ⟨rfl, rfl⟩))
    (fun os started H enc _ => OpbytesPrints_lifted os started H enc)

/-- The statement. -/
theorem OpbytesPrints_proved : Rows.OpbytesPrintsSaid := OpbytesPrints_over

end Go.Proofs.Ytnfgojecgcienaa
