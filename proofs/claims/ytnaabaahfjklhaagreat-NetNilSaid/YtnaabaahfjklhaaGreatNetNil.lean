/- NetNil: for every message and number the law answers true. No condition. -/
import Derived.Test.YtnaabaahfjklhaaGreatNetAwake
import Derived.Test.YtnaabaahfjklhaaGreatWireOpen
namespace Go.Proofs.YtnaabaahfjklhaaGreat
open Go.RowKit Go.ChangeShapes Go.WideShapes Go.Joins Go.Deep
set_option linter.unusedVariables false

set_option maxRecDepth 100000 in
set_option maxHeartbeats 2000000 in

theorem NetNil_go {w : World} {M : MsgV} {v : Value} (hv : M.At w v) (hok : MOk M) {i : Int} (hi : W64 i) :
    Calls Tryz.prog 8 #[v, .int .i64 i] w fun e w' => e = .returned (.bool true) ∧ Below w.heap.size w w' := by
  obtain ⟨cs, rfl, hlen, hone, hA⟩ := At.parts hv hok.op.1
  clear hv hone
  have hM := BlkAt.new w 40 cs
  have hb := (Below.refl w.heap.size w).alloc (Nat.le_refl _) (.cells cs.toArray 40)
  have hA1 := hA.below hb
  clear hA
  have hA := hA1
  clear hA1
  go_enter Tryz.func8, Tryz.ntmps8
  go_upto_region 2 with (fail)
  change Code.wp _ _ _ _ (w.alloc (.cells cs.toArray 40))
  change BlkAt (w.alloc (.cells cs.toArray 40)) _ _ _ at hM
  generalize w.alloc (.cells cs.toArray 40) = W at *
  obtain ⟨m, hm⟩ : ∃ m, m = w.heap.size := ⟨_, rfl⟩
  rw [← hm] at hM ⊢
  clear hm
  go_wp2_with fail
  refine (npeek_nil i _).mono ?_
  rintro en w1 ⟨u1, rfl, hF1, b1⟩
  obtain ⟨es, rfl, hl1, ho1, hF1⟩ := From.parts hF1 rfl
  clear hF1
  have hMq := hM.below b1
  clear hM
  have hM := hMq
  clear hMq
  have hAq := hA.below b1
  clear hA
  have hA := hAq
  clear hAq
  have hbq := below_step hb b1
  clear hb
  have hb := hbq
  clear hbq b1
  have hX := BlkAt.new w1 40 [.int .i64 0, .int .i64 0, .int .i64 0, .int .i64 0, .int .i64 0, .int .i64 0, .int .i64 0, .int .i64 0, .int .i64 0, .int .i64 0, .bool false, .int .i64 0, .int .i64 0, .int .i64 0, .int .i64 0, .int .i64 0, .int .i64 0, .int .i64 0, .int .i64 0, .int .i64 0, .string ⟨#[]⟩, .int .i64 0, .int .i64 0, .int .i64 0, .int .i64 0, .slice none 0 0, .slice none 0 0, .int .i64 0]
  have HL1 := Lib.hid (show es.length = ([.int .i64 0, .int .i64 0, .int .i64 0, .int .i64 0, .int .i64 0, .int .i64 0, .int .i64 0, .int .i64 0, .int .i64 0, .int .i64 0, .bool false, .int .i64 0, .int .i64 0, .int .i64 0, .int .i64 0, .int .i64 0, .int .i64 0, .int .i64 0, .int .i64 0, .int .i64 0, .string ⟨#[]⟩, .int .i64 0, .int .i64 0, .int .i64 0, .int .i64 0, .slice none 0 0, .slice none 0 0, .int .i64 0] : List Value).length by rw [hl1]; rfl)
  have b4 := (Below.refl w1.heap.size w1).alloc (Nat.le_refl _) (.cells #[.int .i64 0, .int .i64 0, .int .i64 0, .int .i64 0, .int .i64 0, .int .i64 0, .int .i64 0, .int .i64 0, .int .i64 0, .int .i64 0, .bool false, .int .i64 0, .int .i64 0, .int .i64 0, .int .i64 0, .int .i64 0, .int .i64 0, .int .i64 0, .int .i64 0, .int .i64 0, .string ⟨#[]⟩, .int .i64 0, .int .i64 0, .int .i64 0, .int .i64 0, .slice none 0 0, .slice none 0 0, .int .i64 0] 40)
  have G4 := grown_setCells w1.heap.size es 0 (w1.alloc (.cells #[.int .i64 0, .int .i64 0, .int .i64 0, .int .i64 0, .int .i64 0, .int .i64 0, .int .i64 0, .int .i64 0, .int .i64 0, .int .i64 0, .bool false, .int .i64 0, .int .i64 0, .int .i64 0, .int .i64 0, .int .i64 0, .int .i64 0, .int .i64 0, .int .i64 0, .int .i64 0, .string ⟨#[]⟩, .int .i64 0, .int .i64 0, .int .i64 0, .int .i64 0, .slice none 0 0, .slice none 0 0, .int .i64 0] 40))
  have b5 := b4.grown G4 b4.size (by intro j hj; cases hj; exact Nat.le_refl _)
  have hYn := hX.stored (vs := es) HL1.out
  have HT := Lib.hid (blk_there2 hX HL1.out)
  have hMn := hM.below b5
  clear hM
  have hM := hMn
  clear hMn
  have hAn := hA.below b5
  clear hA
  have hA := hAn
  clear hAn
  have hbn := below_step hb b5
  clear hb
  have hb := hbn
  clear hbn
  clear hX b4 G4 b5 HL1
  go_upto_region 3 with (first | (refine wpList_store_mid rfl 40 (.tmp 6) (.tmp 16) rfl w1.heap.size 0 es.toArray rfl rfl (by exact HT.out) (by rw [List.size_toArray, hl1]; exact msg_info) ho1 ?_; rw [List.toList_toArray]))
  change Code.wp _ _ _ _ ((w1.alloc (.cells #[.int .i64 0, .int .i64 0, .int .i64 0, .int .i64 0, .int .i64 0, .int .i64 0, .int .i64 0, .int .i64 0, .int .i64 0, .int .i64 0, .bool false, .int .i64 0, .int .i64 0, .int .i64 0, .int .i64 0, .int .i64 0, .int .i64 0, .int .i64 0, .int .i64 0, .int .i64 0, .string ⟨#[]⟩, .int .i64 0, .int .i64 0, .int .i64 0, .int .i64 0, .slice none 0 0, .slice none 0 0, .int .i64 0] 40)).setCells w1.heap.size 0 es)
  generalize (w1.alloc (.cells #[.int .i64 0, .int .i64 0, .int .i64 0, .int .i64 0, .int .i64 0, .int .i64 0, .int .i64 0, .int .i64 0, .int .i64 0, .int .i64 0, .bool false, .int .i64 0, .int .i64 0, .int .i64 0, .int .i64 0, .int .i64 0, .int .i64 0, .int .i64 0, .int .i64 0, .int .i64 0, .string ⟨#[]⟩, .int .i64 0, .int .i64 0, .int .i64 0, .int .i64 0, .slice none 0 0, .slice none 0 0, .int .i64 0] 40)).setCells w1.heap.size 0 es = W1 at *
  have hY := hYn
  clear hYn HT
  obtain ⟨y, hLL⟩ : ∃ q, q = w1.heap.size := ⟨_, rfl⟩
  rw [← hLL] at hY ⊢
  have HEy := Lib.hid hLL
  clear hLL
  clear hY
  go_wp2_with fail
  refine (ntake_nil i _).mono ?_
  rintro en w2 ⟨u2, rfl, hF2, b2⟩
  obtain ⟨fs, rfl, hl2, ho2, hF2⟩ := From.parts hF2 rfl
  clear hF2
  have hMq := hM.below b2
  clear hM
  have hM := hMq
  clear hMq
  have hAq := hA.below b2
  clear hA
  have hA := hAq
  clear hAq
  have hbq := below_step hb b2
  clear hb
  have hb := hbq
  clear hbq b2
  have hX := BlkAt.new w2 40 [.int .i64 0, .int .i64 0, .int .i64 0, .int .i64 0, .int .i64 0, .int .i64 0, .int .i64 0, .int .i64 0, .int .i64 0, .int .i64 0, .bool false, .int .i64 0, .int .i64 0, .int .i64 0, .int .i64 0, .int .i64 0, .int .i64 0, .int .i64 0, .int .i64 0, .int .i64 0, .string ⟨#[]⟩, .int .i64 0, .int .i64 0, .int .i64 0, .int .i64 0, .slice none 0 0, .slice none 0 0, .int .i64 0]
  have HL1 := Lib.hid (show fs.length = ([.int .i64 0, .int .i64 0, .int .i64 0, .int .i64 0, .int .i64 0, .int .i64 0, .int .i64 0, .int .i64 0, .int .i64 0, .int .i64 0, .bool false, .int .i64 0, .int .i64 0, .int .i64 0, .int .i64 0, .int .i64 0, .int .i64 0, .int .i64 0, .int .i64 0, .int .i64 0, .string ⟨#[]⟩, .int .i64 0, .int .i64 0, .int .i64 0, .int .i64 0, .slice none 0 0, .slice none 0 0, .int .i64 0] : List Value).length by rw [hl2]; rfl)
  have b4 := (Below.refl w2.heap.size w2).alloc (Nat.le_refl _) (.cells #[.int .i64 0, .int .i64 0, .int .i64 0, .int .i64 0, .int .i64 0, .int .i64 0, .int .i64 0, .int .i64 0, .int .i64 0, .int .i64 0, .bool false, .int .i64 0, .int .i64 0, .int .i64 0, .int .i64 0, .int .i64 0, .int .i64 0, .int .i64 0, .int .i64 0, .int .i64 0, .string ⟨#[]⟩, .int .i64 0, .int .i64 0, .int .i64 0, .int .i64 0, .slice none 0 0, .slice none 0 0, .int .i64 0] 40)
  have G4 := grown_setCells w2.heap.size fs 0 (w2.alloc (.cells #[.int .i64 0, .int .i64 0, .int .i64 0, .int .i64 0, .int .i64 0, .int .i64 0, .int .i64 0, .int .i64 0, .int .i64 0, .int .i64 0, .bool false, .int .i64 0, .int .i64 0, .int .i64 0, .int .i64 0, .int .i64 0, .int .i64 0, .int .i64 0, .int .i64 0, .int .i64 0, .string ⟨#[]⟩, .int .i64 0, .int .i64 0, .int .i64 0, .int .i64 0, .slice none 0 0, .slice none 0 0, .int .i64 0] 40))
  have b5 := b4.grown G4 b4.size (by intro j hj; cases hj; exact Nat.le_refl _)
  have hZn := hX.stored (vs := fs) HL1.out
  have HT := Lib.hid (blk_there2 hX HL1.out)
  have hMn := hM.below b5
  clear hM
  have hM := hMn
  clear hMn
  have hAn := hA.below b5
  clear hA
  have hA := hAn
  clear hAn
  have hbn := below_step hb b5
  clear hb
  have hb := hbn
  clear hbn
  clear hX b4 G4 b5 HL1
  go_upto_region 4 with (first | (refine wpList_store_mid rfl 40 (.tmp 8) (.tmp 22) rfl w2.heap.size 0 fs.toArray rfl rfl (by exact HT.out) (by rw [List.size_toArray, hl2]; exact msg_info) ho2 ?_; rw [List.toList_toArray]))
  change Code.wp _ _ _ _ ((w2.alloc (.cells #[.int .i64 0, .int .i64 0, .int .i64 0, .int .i64 0, .int .i64 0, .int .i64 0, .int .i64 0, .int .i64 0, .int .i64 0, .int .i64 0, .bool false, .int .i64 0, .int .i64 0, .int .i64 0, .int .i64 0, .int .i64 0, .int .i64 0, .int .i64 0, .int .i64 0, .int .i64 0, .string ⟨#[]⟩, .int .i64 0, .int .i64 0, .int .i64 0, .int .i64 0, .slice none 0 0, .slice none 0 0, .int .i64 0] 40)).setCells w2.heap.size 0 fs)
  generalize (w2.alloc (.cells #[.int .i64 0, .int .i64 0, .int .i64 0, .int .i64 0, .int .i64 0, .int .i64 0, .int .i64 0, .int .i64 0, .int .i64 0, .int .i64 0, .bool false, .int .i64 0, .int .i64 0, .int .i64 0, .int .i64 0, .int .i64 0, .int .i64 0, .int .i64 0, .int .i64 0, .int .i64 0, .string ⟨#[]⟩, .int .i64 0, .int .i64 0, .int .i64 0, .int .i64 0, .slice none 0 0, .slice none 0 0, .int .i64 0] 40)).setCells w2.heap.size 0 fs = W2 at *
  have hZ := hZn
  clear hZn HT
  obtain ⟨z, hLL⟩ : ∃ q, q = w2.heap.size := ⟨_, rfl⟩
  rw [← hLL] at hZ ⊢
  have HEz := Lib.hid hLL
  clear hLL
  clear hZ
  go_wp2_with fail
  refine (ncounts_nil _).mono ?_
  rintro en w3 ⟨rfl, rfl⟩
  go_wp2_with fail
  refine (awake_net _).mono ?_
  rintro en w4 ⟨rfl, b4⟩
  have hMq := hM.below b4
  clear hM
  have hM := hMq
  clear hMq
  have hAq := hA.below b4
  clear hA
  have hA := hAq
  clear hAq
  have hbq := below_step hb b4
  clear hb
  have hb := hbq
  clear hbq b4
  go_wp2_with (refine wpList_load_want (by rfl) 40 (.tmp 2) rfl m 0 rfl cs _ hM.range Tryz.underlying40 rfl (by rw [hlen]; exact msg_info) ?_; simp only [Act.put, List.setIfInBounds_toArray, List.set_cons_zero, List.set_cons_succ])
  refine (nsend_nil (by exact hA) hok.op.1).mono ?_
  rintro en w5 ⟨rfl, b5⟩
  have hMq := hM.below b5
  clear hM
  have hM := hMq
  clear hMq
  have hAq := hA.below b5
  clear hA
  have hA := hAq
  clear hAq
  have hbq := below_step hb b5
  clear hb
  have hb := hbq
  clear hbq b5
  clear hM hA
  go_wp2_with fail
  refine (nlen_nil _).mono ?_
  rintro en w6 ⟨rfl, rfl⟩
  go_wp2_with fail
  refine (ndouble_nil _ i).mono ?_
  rintro en w7 ⟨rfl, b7⟩
  have hb7 := below_step hb b7
  clear hb b7
  go_wp2_with fail
  refine (ncopy_nil _).mono ?_
  rintro en w8 ⟨rfl, rfl⟩
  go_wp2_with fail
  go_ret
  exact ⟨rfl, hb7⟩
set_option maxRecDepth 100000 in
theorem NetNil_walk {H : Type} {enc : TypeId × Value → H} {base : Nat} {d : DataW H} {p : List MemPlace} (v : Value) (i : Int) (w : World) (hv : Value.okWide Tryz.prog w .any base 40 v) (ht : DataW.Trod enc Tryz.prog w 0 (fun _ => true) true 40 v d p) (hi : W64 i) :
    Calls Tryz.prog 8 #[v, .int .i64 i] w fun e w' => e = .returned (.bool true) ∧ Below w.heap.size w w' := by
  obtain ⟨M, hok, hA⟩ := open_msg hv ht
  exact NetNil_go hA hok hi


set_option maxRecDepth 100000 in
theorem NetNil_calls (H : Type) (enc : TypeId × Value → H) (W : World) (base : Nat) (args : Array Value) (ds gs : List (DataW H)) (before : List MemPlace)
    (hval : ∀ (j : Nat) t v, Tryz.f8.params[j]? = some t → args[j]? = some v → Value.okWide Tryz.prog W .any base t v)
    (hW : DataW.Whole enc Tryz.prog Tryz.f8.params.toList Rows.netNilSpec.vars false W args.toList ds gs before) :
    Calls Tryz.prog 8 args W fun e W' => e = .returned (.bool true) ∧ Below W.heap.size W W' := by
  obtain ⟨p, q, hA, hV, rfl, hfz, hnd⟩ := hW
  rw [Tryz.params8] at hA hval
  obtain ⟨v0, vs0, d0, ds0, p0, q0, hargs, rfl, rfl, h0, r0⟩ := trodAll_cons hA
  obtain ⟨v1, vs1, d1, ds1, p1, q1, rfl, rfl, rfl, h1, r1⟩ := trodAll_cons r0
  obtain ⟨rfl, rfl, rfl⟩ := trodAll_nil r1
  obtain rfl : args = #[v0, v1] := Array.toList_inj.1 hargs
  obtain ⟨x1, rfl, rfl, rfl, w1⟩ := open_int Tryz.underlying3 (hval 1 3 v1 rfl rfl) h1
  exact NetNil_walk v0 x1 W (hval 0 40 v0 rfl rfl) h0 w1

set_option maxRecDepth 100000 in
theorem NetNil_lifted (os : Os) (started : os.Started) (H : Type) (enc : TypeId × Value → H) :
    ReturnsInHanded {} Tryz.checked os 8 .any (Rows.netNilSpec.pre6 enc Tryz.prog Tryz.f8 Rows.netNilRow.domain false) (Rows.netNilSpec.post enc Tryz.prog Tryz.f8 false true false false) := by
  refine returnsInHanded_of_change (C := Tryz.checked) own started (by kernel_rfl) Tryz.func8
    (ChangeSpec.witness6 (enc := enc) (C := Tryz.checked) false ⟨#[], #[.agg #[.int .i64 0, .int .i64 0, .int .i64 0, .int .i64 0, .int .i64 0, .int .i64 0, .int .i64 0, .int .i64 0, .int .i64 0, .int .i64 0, .bool false, .int .i64 0, .int .i64 0, .int .i64 0, .int .i64 0, .int .i64 0, .int .i64 0, .int .i64 0, .int .i64 0, .int .i64 0, .string ByteArray.empty, .int .i64 0, .int .i64 0, .int .i64 0, .int .i64 0, .slice none 0 0, .slice none 0 0, .int .i64 0], .int .i64 0], []⟩ 8 (by kernel_rfl) (by kernel_rfl) (by kernel_rfl) (by kernel_rfl)) ?_
  intro W base args ds gs before hval0 hW hcnd _
  have hval : ∀ (j : Nat) t v, Tryz.f8.params[j]? = some t → args[j]? = some v → Value.okWide Tryz.prog W .any base t v := hval0
  refine (NetNil_calls H enc W base args ds gs before hval hW).mono fun e W' ⟨he, bel⟩ => ?_
  exact ⟨_, he, law_post (ts := [40, 3]) (by rw [Tryz.params8]) (by intro t ht; simp only [List.mem_cons, List.not_mem_nil, or_false] at ht; rcases ht with rfl | rfl <;> exact ⟨by kernel_rfl, of_decide_eq_true (by kernel_rfl)⟩) hW rfl
    (fun ds h => by match ds, h with | [_, _], _ => rfl) (by kernel_rfl) bel⟩

theorem NetNil_over : Rows.netNilRow.holds Tryz.pinned (OpenSpec.ofChange Rows.netNilSpec) :=
  OpenClaim.holds_of_wide 8 Tryz.f8 rfl rfl rfl rfl rfl rfl rfl ⟨rfl, rfl, rfl, rfl, rfl⟩ rfl rfl rfl rfl rfl (by kernel_rfl) Tryz.func8 (by kernel_rfl)
    (of_decide_eq_true (by kernel_rfl)) (by unfold Func.isWrapper; first | (rw [if_pos (by decide +kernel)]; kernel_rfl) | (rw [if_neg (by decide +kernel)]; exact ⟨rfl, rfl⟩))
    (fun os started H enc _ => NetNil_lifted os started H enc)

/-- The statement. -/
theorem NetNil_proved : Rows.NetNilSaid := NetNil_over

end Go.Proofs.YtnaabaahfjklhaaGreat
