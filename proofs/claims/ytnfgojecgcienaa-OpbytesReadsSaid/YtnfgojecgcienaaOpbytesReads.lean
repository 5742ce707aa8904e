/- OpbytesReads: for every bytes the law answers true. No condition. -/
import Derived.Test.YtnfgojecgcienaaOpAwake
import Derived.Test.YtnfgojecgcienaaOpRefRead
namespace Go.Proofs.Ytnfgojecgcienaa
open Go.RowKit Go.ChangeShapes Go.WideShapes Go.Joins
open Go.ChangeMaps (open_string shut_string)
set_option linter.unusedVariables false

set_option maxRecDepth 100000 in
set_option maxHeartbeats 1000000 in
theorem OpbytesReads_out (l : List UInt8) (w : World) (hl : l.length ≤ maxLen) (h : 1000 < l.length) :
    Calls Try.prog 4 #[.string ⟨l.toArray⟩] w fun e w' => e = .returned (.bool true) ∧ Below w.heap.size w w' := by
  unfold maxLen at hl
  go_enter Try.func4, Try.ntmps4
  go_wp2_with fail
  refine (awake_any _).mono ?_
  rintro e w1 ⟨rfl, b1⟩
  go_wp2_with fail
  refine (awake_any _).mono ?_
  rintro e w2 ⟨rfl, b2⟩
  have hb2 := below_step b1 b2
  go_wp2_with fail
  go_ret
  exact ⟨rfl, hb2⟩

set_option maxRecDepth 100000 in
set_option maxHeartbeats 2000000 in
theorem OpbytesReads_in (l : List UInt8) (w : World) (hl : l.length ≤ 1000) :
    Calls Try.prog 4 #[.string ⟨l.toArray⟩] w fun e w' => e = .returned (.bool true) ∧ Below w.heap.size w w' := by
  have hok := readOp_ok l (by omega)
  have HB := Lib.hid (show ∀ o, readOp l = (o, true) → mayOp o = true ∧ l = encOp o from fun o h => read_back h)
  have HF := Lib.hid (show (readOp l).2 = false → (readOp l).1 = opZero from read_false)
  go_enter Try.func4, Try.ntmps4
  go_wp2_with fail
  refine (awake_any _).mono ?_
  rintro e w1 ⟨rfl, b1⟩
  go_wp2_with fail
  refine (oread_any l (by omega) _).mono ?_
  rintro e w2 ⟨rfl, b2⟩
  have hb2 := below_step b1 b2
  have HQ := Lib.hid (qoread_any l (by omega))
  generalize readOp l = R at *
  obtain ⟨⟨k, v, s⟩, ok⟩ := R
  obtain ⟨a1, a2, a3, a4, a5, a6, a7, a8, rfl⟩ := list8 hok.1
  simp only at hok HF HQ ⊢
  rw [op_lit]
  clear b1 b2
  go_upto_region 4 with (fail)
  have hP2 := BlkAt.new w2 23 (opCells ⟨k, [a1, a2, a3, a4, a5, a6, a7, a8], s⟩)
  have hb3 := hb2.alloc hb2.size (.cells (opCells ⟨k, [a1, a2, a3, a4, a5, a6, a7, a8], s⟩).toArray 23)
  change Code.wp _ _ _ _ (w2.alloc (.cells (opCells ⟨k, [a1, a2, a3, a4, a5, a6, a7, a8], s⟩).toArray 23))
  generalize w2.alloc (.cells (opCells ⟨k, [a1, a2, a3, a4, a5, a6, a7, a8], s⟩).toArray 23) = w3 at *
  generalize w2.heap.size = X at *
  clear hb2
  go_wp2_with fail
  refine (HQ.out _).mono ?_
  rintro e w4 ⟨rfl, b4⟩
  rw [op_lit]
  have hP4 := hP2.below b4
  have hb4 := below_step hb3 b4
  clear hP2 hb3 b4
  go_upto_region 5 with (fail)
  have hY := BlkAt.new w4 23 (opCells ⟨k, [a1, a2, a3, a4, a5, a6, a7, a8], s⟩)
  have hP5 := hP4.alloc (.cells (opCells ⟨k, [a1, a2, a3, a4, a5, a6, a7, a8], s⟩).toArray 23)
  have hb5 := hb4.alloc hb4.size (.cells (opCells ⟨k, [a1, a2, a3, a4, a5, a6, a7, a8], s⟩).toArray 23)
  change Code.wp _ _ _ _ (w4.alloc (.cells (opCells ⟨k, [a1, a2, a3, a4, a5, a6, a7, a8], s⟩).toArray 23))
  generalize w4.alloc (.cells (opCells ⟨k, [a1, a2, a3, a4, a5, a6, a7, a8], s⟩).toArray 23) = w5 at *
  generalize w4.heap.size = Y at *
  clear hP4 hb4
  obtain ⟨h0, h1, h2, h3, h4, h5, h6, h7, h8, h9⟩ := op_conj hP5
  obtain ⟨i0, i1, i2, i3, i4, i5, i6, i7, i8, i9⟩ := op_conj hY
  have hr1 : rdErr true = 0 := rfl
  have hr2 : rdErr false = 3 := rfl
  cases ok with
  | true =>
    obtain ⟨hm, hl2⟩ := HB.out _ rfl
    have HL := Lib.hid hl2
    clear hl2
    go_wp2_with fail
    refine (print_yes (o := ⟨k, [a1, a2, a3, a4, a5, a6, a7, a8], s⟩) hok hm _).mono ?_
    rintro e w6 ⟨rfl, b6⟩
    rw [← HL.out]
    have hb6 := below_step hb5 b6
    go_wp2_with fail
    go_ret
    exact ⟨rfl, hb6⟩
  | false =>
    have hz := HF.out rfl
    have hm : mayOp ⟨k, [a1, a2, a3, a4, a5, a6, a7, a8], s⟩ = true := by rw [hz]; decide
    have HM := Lib.hid hm
    clear hz hm
    go_wp2_with fail
    refine (print_yes (o := ⟨k, [a1, a2, a3, a4, a5, a6, a7, a8], s⟩) hok HM.out _).mono ?_
    rintro e w6 ⟨rfl, b6⟩
    have hb6 := below_step hb5 b6
    go_wp2_with fail
    go_ret
    exact ⟨rfl, hb6⟩

theorem OpbytesReads_walk (s : ByteArray) (w : World) (hs : s.size ≤ maxLen) :
    Calls Try.prog 4 #[.string s] w fun e w' => e = .returned (.bool true) ∧ Below w.heap.size w w' := by
  obtain ⟨l, rfl, hl⟩ := str_list s
  by_cases h : 1000 < l.length
  · exact OpbytesReads_out l w (by omega) h
  · exact OpbytesReads_in l w (by omega)


theorem OpbytesReads_calls (H : Type) (enc : TypeId × Value → H) (W : World) (base : Nat) (args : Array Value) (ds gs : List (DataW H)) (before : List MemPlace)
    (hval : ∀ (j : Nat) t v, Try.f4.params[j]? = some t → args[j]? = some v → Value.okWide Try.prog W .any base t v)
    (hW : DataW.Whole enc Try.prog Try.f4.params.toList Rows.opbytesReadsSpec.vars false W args.toList ds gs before) :
    Calls Try.prog 4 args W fun e W' => e = .returned (.bool true) ∧ Below W.heap.size W W' := by
  obtain ⟨p, q, hA, hV, rfl, hfz, hnd⟩ := hW
  rw [Try.params4] at hA hval
  obtain ⟨v0, vs0, d0, ds0, p0, q0, hargs, rfl, rfl, h0, r0⟩ := trodAll_cons hA
  obtain ⟨rfl, rfl, rfl⟩ := trodAll_nil r0
  obtain rfl : args = #[v0] := Array.toList_inj.1 hargs
  obtain ⟨x0, rfl, rfl, rfl, w0⟩ := open_string Try.underlying9 (hval 0 9 v0 rfl rfl) h0
  exact OpbytesReads_walk x0 W w0

set_option maxRecDepth 100000 in
theorem OpbytesReads_lifted (os : Os) (started : os.Started) (H : Type) (enc : TypeId × Value → H) :
    ReturnsInHanded {} Try.checked os 4 .any (Rows.opbytesReadsSpec.pre6 enc Try.prog Try.f4 Rows.opbytesReadsRow.domain false) (Rows.opbytesReadsSpec.post enc Try.prog Try.f4 false true false false) := by
  refine returnsInHanded_of_change (C := Try.checked) own started (by kernel_rfl) Try.func4
    (ChangeSpec.witness6 (enc := enc) (C := Try.checked) false ⟨#[], #[.string ByteArray.empty], []⟩ 8 (by kernel_rfl) (by kernel_rfl) (by kernel_rfl) (by kernel_rfl)) ?_
  intro W base args ds gs before hval0 hW hcnd _
  have hval : ∀ (j : Nat) t v, Try.f4.params[j]? = some t → args[j]? = some v → Value.okWide Try.prog W .any base t v := hval0
  refine (OpbytesReads_calls H enc W base args ds gs before hval hW).mono fun e W' ⟨he, bel⟩ => ?_
  exact ⟨_, he, law_post (ts := [9]) (by rw [Try.params4]) (by intro t ht; simp only [List.mem_cons, List.not_mem_nil, or_false] at ht; subst ht <;> exact ⟨by kernel_rfl, of_decide_eq_true (by kernel_rfl)⟩) hW rfl
    (fun ds h => by match ds, h with | [_], _ => rfl) (by kernel_rfl) bel⟩

theorem OpbytesReads_over : Rows.opbytesReadsRow.holds Try.pinned (OpenSpec.ofChange Rows.opbytesReadsSpec) :=
  OpenClaim.holds_of_wide 4 Try.f4 rfl rfl rfl rfl rfl rfl rfl ⟨rfl, rfl, rfl, rfl, rfl⟩ rfl rfl rfl rfl rfl (by kernel_rfl) Try.func4 (by kernel_rfl)
    (of_decide_eq_true (by kernel_rfl)) (by unfold Func.isWrapper; first | (rw [if_pos (by decide +kernel)]; kernel_rfl) | (rw [if_neg (by decide +kernel)]; exact ⟨rfl, rfl⟩))
    (fun os started H enc _ => OpbytesReads_lifted os started H enc)

/-- The statement. -/
theorem OpbytesReads_proved : Rows.OpbytesReadsSaid := OpbytesReads_over

end Go.Proofs.Ytnfgojecgcienaa
