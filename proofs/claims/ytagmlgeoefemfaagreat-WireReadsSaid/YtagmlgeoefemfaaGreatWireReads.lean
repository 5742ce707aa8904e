/- WireReads: for every text the law answers true. No condition. -/
import Derived.Test.YtagmlgeoefemfaaGreatWireRefRead
import Derived.Test.YtagmlgeoefemfaaGreatWireFew
namespace Go.Proofs.YtagmlgeoefemfaaGreat
open Go.RowKit Go.ChangeShapes Go.WideShapes Go.Joins Go.Deep
open Go.ChangeMaps (open_string shut_string)
set_option linter.unusedVariables false

set_option maxRecDepth 100000 in
set_option maxHeartbeats 2000000 in

theorem WireReads_go {w : World} (l : List UInt8) (hll : l.length ≤ maxLen) :
    Calls Tryz.prog 4 #[.string ⟨l.toArray⟩] w fun e w' => e = .returned (.bool true) ∧ Below w.heap.size w w' := by
  unfold maxLen at hll
  go_enter Tryz.func4, Tryz.ntmps4
  go_wp2_with fail
  refine (awake_any _).mono ?_
  rintro en w1 ⟨rfl, hb⟩
  by_cases h : 2000 < l.length
  · have h' : (2000 : Int) < (l.length : Int) := by omega
    go_wp2_with fail
    refine (awake_any _).mono ?_
    rintro en w2 ⟨rfl, b2⟩
    have hb2 := below_step hb b2
    go_wp2_with fail
    go_ret
    exact ⟨rfl, hb2⟩
  · have h' : ¬ (2000 : Int) < (l.length : Int) := by omega
    obtain ⟨R, x, hr⟩ : ∃ R x, readM l = (R, x) := ⟨_, _, rfl⟩
    have HR := Lib.hid hr
    clear hr
    have hok := readM_ok HR.out
    have hop := hok.op.1
    go_wp2_with fail
    refine (wread_any HR.out).mono ?_
    rintro en w6 ⟨v, rfl, hF, b6⟩
    have hb6 := below_step hb b6
    obtain ⟨es, rfl, hlen2, hone2, hF2⟩ := From.parts hF hop
    have hA6 := hF2.at
    clear hF hF2 hb b6
    have hX := BlkAt.new w6 34 [.int .i64 0, .int .i64 0, .int .i64 0, .int .i64 0, .int .i64 0, .int .i64 0, .int .i64 0, .int .i64 0, .int .i64 0, .int .i64 0, .bool false, .int .i64 0, .int .i64 0, .int .i64 0, .int .i64 0, .int .i64 0, .int .i64 0, .int .i64 0, .int .i64 0, .int .i64 0, .string ⟨#[]⟩, .int .i64 0, .int .i64 0, .int .i64 0, .int .i64 0, .slice none 0 0, .slice none 0 0, .int .i64 0]
    have HL1 := Lib.hid (show es.length = ([.int .i64 0, .int .i64 0, .int .i64 0, .int .i64 0, .int .i64 0, .int .i64 0, .int .i64 0, .int .i64 0, .int .i64 0, .int .i64 0, .bool false, .int .i64 0, .int .i64 0, .int .i64 0, .int .i64 0, .int .i64 0, .int .i64 0, .int .i64 0, .int .i64 0, .int .i64 0, .string ⟨#[]⟩, .int .i64 0, .int .i64 0, .int .i64 0, .int .i64 0, .slice none 0 0, .slice none 0 0, .int .i64 0] : List Value).length by rw [hlen2]; rfl)
    have b4 := (Below.refl w6.heap.size w6).alloc (Nat.le_refl _) (.cells #[.int .i64 0, .int .i64 0, .int .i64 0, .int .i64 0, .int .i64 0, .int .i64 0, .int .i64 0, .int .i64 0, .int .i64 0, .int .i64 0, .bool false, .int .i64 0, .int .i64 0, .int .i64 0, .int .i64 0, .int .i64 0, .int .i64 0, .int .i64 0, .int .i64 0, .int .i64 0, .string ⟨#[]⟩, .int .i64 0, .int .i64 0, .int .i64 0, .int .i64 0, .slice none 0 0, .slice none 0 0, .int .i64 0] 34)
    have G4 := grown_setCells w6.heap.size es 0 (w6.alloc (.cells #[.int .i64 0, .int .i64 0, .int .i64 0, .int .i64 0, .int .i64 0, .int .i64 0, .int .i64 0, .int .i64 0, .int .i64 0, .int .i64 0, .bool false, .int .i64 0, .int .i64 0, .int .i64 0, .int .i64 0, .int .i64 0, .int .i64 0, .int .i64 0, .int .i64 0, .int .i64 0, .string ⟨#[]⟩, .int .i64 0, .int .i64 0, .int .i64 0, .int .i64 0, .slice none 0 0, .slice none 0 0, .int .i64 0] 34))
    have b5 := b4.grown G4 b4.size (by intro j hj; cases hj; exact Nat.le_refl _)
    have hY7n := hX.stored (vs := es) HL1.out
    have HT := Lib.hid (blk_there2 hX HL1.out)
    have hA6n := hA6.below b5
    clear hA6
    have hA6 := hA6n
    clear hA6n
    have hb6n := below_step hb6 b5
    clear hb6
    have hb6 := hb6n
    clear hb6n
    clear hX b4 G4 b5 HL1
    go_upto_region 4 with (first | (refine wpList_store_mid rfl 34 (.tmp 3) (.tmp 20) rfl w6.heap.size 0 es.toArray rfl rfl (by exact HT.out) (by rw [List.size_toArray, hlen2]; exact msg_info) hone2 ?_; rw [List.toList_toArray]))
    change Code.wp _ _ _ _ ((w6.alloc (.cells #[.int .i64 0, .int .i64 0, .int .i64 0, .int .i64 0, .int .i64 0, .int .i64 0, .int .i64 0, .int .i64 0, .int .i64 0, .int .i64 0, .bool false, .int .i64 0, .int .i64 0, .int .i64 0, .int .i64 0, .int .i64 0, .int .i64 0, .int .i64 0, .int .i64 0, .int .i64 0, .string ⟨#[]⟩, .int .i64 0, .int .i64 0, .int .i64 0, .int .i64 0, .slice none 0 0, .slice none 0 0, .int .i64 0] 34)).setCells w6.heap.size 0 es)
    generalize (w6.alloc (.cells #[.int .i64 0, .int .i64 0, .int .i64 0, .int .i64 0, .int .i64 0, .int .i64 0, .int .i64 0, .int .i64 0, .int .i64 0, .int .i64 0, .bool false, .int .i64 0, .int .i64 0, .int .i64 0, .int .i64 0, .int .i64 0, .int .i64 0, .int .i64 0, .int .i64 0, .int .i64 0, .string ⟨#[]⟩, .int .i64 0, .int .i64 0, .int .i64 0, .int .i64 0, .slice none 0 0, .slice none 0 0, .int .i64 0] 34)).setCells w6.heap.size 0 es = W7 at *
    have hY7 := hY7n
    clear hY7n HT
    obtain ⟨y, hLL⟩ : ∃ q, q = w6.heap.size := ⟨_, rfl⟩
    rw [← hLL] at hY7 ⊢
    have HEy := Lib.hid hLL
    clear hLL
    go_wp2_with fail
    refine (qwread_any HR.out (by omega)).mono ?_
    rintro en w8 ⟨v, rfl, hA8, b8⟩
    have hY8 := hY7.below b8
    have hA7 := hA6.below b8
    have hb8 := below_step hb6 b8
    clear hY7 hA6 hb6 b8
    obtain ⟨fs, rfl, hlen3, hone3, hA9⟩ := At.parts hA8 hop
    clear hA8
    have hX := BlkAt.new w8 34 [.int .i64 0, .int .i64 0, .int .i64 0, .int .i64 0, .int .i64 0, .int .i64 0, .int .i64 0, .int .i64 0, .int .i64 0, .int .i64 0, .bool false, .int .i64 0, .int .i64 0, .int .i64 0, .int .i64 0, .int .i64 0, .int .i64 0, .int .i64 0, .int .i64 0, .int .i64 0, .string ⟨#[]⟩, .int .i64 0, .int .i64 0, .int .i64 0, .int .i64 0, .slice none 0 0, .slice none 0 0, .int .i64 0]
    have HL1 := Lib.hid (show fs.length = ([.int .i64 0, .int .i64 0, .int .i64 0, .int .i64 0, .int .i64 0, .int .i64 0, .int .i64 0, .int .i64 0, .int .i64 0, .int .i64 0, .bool false, .int .i64 0, .int .i64 0, .int .i64 0, .int .i64 0, .int .i64 0, .int .i64 0, .int .i64 0, .int .i64 0, .int .i64 0, .string ⟨#[]⟩, .int .i64 0, .int .i64 0, .int .i64 0, .int .i64 0, .slice none 0 0, .slice none 0 0, .int .i64 0] : List Value).length by rw [hlen3]; rfl)
    have b4 := (Below.refl w8.heap.size w8).alloc (Nat.le_refl _) (.cells #[.int .i64 0, .int .i64 0, .int .i64 0, .int .i64 0, .int .i64 0, .int .i64 0, .int .i64 0, .int .i64 0, .int .i64 0, .int .i64 0, .bool false, .int .i64 0, .int .i64 0, .int .i64 0, .int .i64 0, .int .i64 0, .int .i64 0, .int .i64 0, .int .i64 0, .int .i64 0, .string ⟨#[]⟩, .int .i64 0, .int .i64 0, .int .i64 0, .int .i64 0, .slice none 0 0, .slice none 0 0, .int .i64 0] 34)
    have G4 := grown_setCells w8.heap.size fs 0 (w8.alloc (.cells #[.int .i64 0, .int .i64 0, .int .i64 0, .int .i64 0, .int .i64 0, .int .i64 0, .int .i64 0, .int .i64 0, .int .i64 0, .int .i64 0, .bool false, .int .i64 0, .int .i64 0, .int .i64 0, .int .i64 0, .int .i64 0, .int .i64 0, .int .i64 0, .int .i64 0, .int .i64 0, .string ⟨#[]⟩, .int .i64 0, .int .i64 0, .int .i64 0, .int .i64 0, .slice none 0 0, .slice none 0 0, .int .i64 0] 34))
    have b5 := b4.grown G4 b4.size (by intro j hj; cases hj; exact Nat.le_refl _)
    have hZ9n := hX.stored (vs := fs) HL1.out
    have HT := Lib.hid (blk_there2 hX HL1.out)
    have hY8n := hY8.below b5
    clear hY8
    have hY8 := hY8n
    clear hY8n
    have hA7n := hA7.below b5
    clear hA7
    have hA7 := hA7n
    clear hA7n
    have hA9n := hA9.below b5
    clear hA9
    have hA9 := hA9n
    clear hA9n
    have hb8n := below_step hb8 b5
    clear hb8
    have hb8 := hb8n
    clear hb8n
    clear hX b4 G4 b5 HL1
    go_upto_region 5 with (first | (refine wpList_store_mid rfl 34 (.tmp 5) (.tmp 25) rfl w8.heap.size 0 fs.toArray rfl rfl (by exact HT.out) (by rw [List.size_toArray, hlen3]; exact msg_info) hone3 ?_; rw [List.toList_toArray]))
    change Code.wp _ _ _ _ ((w8.alloc (.cells #[.int .i64 0, .int .i64 0, .int .i64 0, .int .i64 0, .int .i64 0, .int .i64 0, .int .i64 0, .int .i64 0, .int .i64 0, .int .i64 0, .bool false, .int .i64 0, .int .i64 0, .int .i64 0, .int .i64 0, .int .i64 0, .int .i64 0, .int .i64 0, .int .i64 0, .int .i64 0, .string ⟨#[]⟩, .int .i64 0, .int .i64 0, .int .i64 0, .int .i64 0, .slice none 0 0, .slice none 0 0, .int .i64 0] 34)).setCells w8.heap.size 0 fs)
    generalize (w8.alloc (.cells #[.int .i64 0, .int .i64 0, .int .i64 0, .int .i64 0, .int .i64 0, .int .i64 0, .int .i64 0, .int .i64 0, .int .i64 0, .int .i64 0, .bool false, .int .i64 0, .int .i64 0, .int .i64 0, .int .i64 0, .int .i64 0, .int .i64 0, .int .i64 0, .int .i64 0, .int .i64 0, .string ⟨#[]⟩, .int .i64 0, .int .i64 0, .int .i64 0, .int .i64 0, .slice none 0 0, .slice none 0 0, .int .i64 0] 34)).setCells w8.heap.size 0 fs = W9 at *
    have hZ9 := hZ9n
    clear hZ9n HT
    obtain ⟨z, hLL⟩ : ∃ q, q = w8.heap.size := ⟨_, rfl⟩
    rw [← hLL] at hZ9 ⊢
    have HEz := Lib.hid hLL
    clear hLL
    go_wp2_with (first | (refine wpList_load_mid rfl 34 (.tmp 3) rfl y 0 rfl es _ hY8.range Tryz.underlying34 rfl (by rw [hlen2]; exact msg_info) ?_; simp only [Act.put, List.setIfInBounds_toArray, List.set_cons_zero, List.set_cons_succ]) | (refine wpList_load_mid rfl 34 (.tmp 5) rfl z 0 rfl fs _ hZ9.range Tryz.underlying34 rfl (by rw [hlen3]; exact msg_info) ?_; simp only [Act.put, List.setIfInBounds_toArray, List.set_cons_zero, List.set_cons_succ]))
    refine (qwsame_any (by exact hA7) (by exact hA9) hop hop).mono ?_
    rintro en w10 ⟨rfl, b10⟩
    rw [decide_eq_true (rfl : R = R)]
    have hY10 := hY8.below b10
    have hA10 := hA7.below b10
    have hb10 := below_step hb8 b10
    clear hY8 hA7 hA9 hb8 b10 hZ9
    rcases readM_what HR.out with ⟨rfl, hm, hs, hl⟩ | ⟨hx, rfl⟩
    · have hsm := mayW_msmall hm
      have hs1 := hsm.chain
      have hs2 := hsm.cron
      have HP : Hid (printM R = (l, 0)) := Lib.hid (by
        rw [printM, if_pos hm, ← hs, if_neg (by omega)])
      clear hs hm hsm
      go_wp2_with (refine wpList_load_mid rfl 34 (.tmp 3) rfl y 0 rfl es _ hY10.range Tryz.underlying34 rfl (by rw [hlen2]; exact msg_info) ?_; simp only [Act.put, List.setIfInBounds_toArray, List.set_cons_zero, List.set_cons_succ])
      refine (wprint_any (by exact hA10) hok (by omega) (by omega) HP.out).mono ?_
      rintro en w11 ⟨rfl, b11⟩
      have hb11 := below_step hb10 b11
      go_wp2_with fail
      go_ret
      exact ⟨rfl, hb11⟩
    · have hxz : (x != 0) = true := by simpa using hx
      have hx0 : (x == 0) = false := by simpa using hx
      have HP : Hid (printM msgZero = ([], 1)) := Lib.hid (by rw [printM, if_neg (by rw [mayW_zero]; simp)])
      go_wp2_with (refine wpList_load_mid rfl 34 (.tmp 3) rfl y 0 rfl es _ hY10.range Tryz.underlying34 rfl (by rw [hlen2]; exact msg_info) ?_; simp only [Act.put, List.setIfInBounds_toArray, List.set_cons_zero, List.set_cons_succ])
      refine (wprint_any (by exact hA10) hok (by decide) (by decide) HP.out).mono ?_
      rintro en w11 ⟨rfl, b11⟩
      have hb11 := below_step hb10 b11
      go_wp2_with fail
      go_ret
      exact ⟨rfl, hb11⟩
theorem WireReads_walk (s : ByteArray) (w : World) (hs : s.size ≤ maxLen) :
    Calls Tryz.prog 4 #[.string s] w fun e w' => e = .returned (.bool true) ∧ Below w.heap.size w w' := by
  obtain ⟨l, rfl, hl⟩ := str_list s
  exact WireReads_go l (by omega)


set_option maxRecDepth 100000 in
theorem WireReads_calls (H : Type) (enc : TypeId × Value → H) (W : World) (base : Nat) (args : Array Value) (ds gs : List (DataW H)) (before : List MemPlace)
    (hval : ∀ (j : Nat) t v, Tryz.f4.params[j]? = some t → args[j]? = some v → Value.okWide Tryz.prog W .any base t v)
    (hW : DataW.Whole enc Tryz.prog Tryz.f4.params.toList Rows.wireReadsSpec.vars false W args.toList ds gs before) :
    Calls Tryz.prog 4 args W fun e W' => e = .returned (.bool true) ∧ Below W.heap.size W W' := by
  obtain ⟨p, q, hA, hV, rfl, hfz, hnd⟩ := hW
  rw [Tryz.params4] at hA hval
  obtain ⟨v0, vs0, d0, ds0, p0, q0, hargs, rfl, rfl, h0, r0⟩ := trodAll_cons hA
  obtain ⟨rfl, rfl, rfl⟩ := trodAll_nil r0
  obtain rfl : args = #[v0] := Array.toList_inj.1 hargs
  obtain ⟨x0, rfl, rfl, rfl, w0⟩ := open_string Tryz.underlying9 (hval 0 9 v0 rfl rfl) h0
  exact WireReads_walk x0 W w0

set_option maxRecDepth 100000 in
theorem WireReads_lifted (os : Os) (started : os.Started) (H : Type) (enc : TypeId × Value → H) :
    ReturnsInHanded {} Tryz.checked os 4 .any (Rows.wireReadsSpec.pre6 enc Tryz.prog Tryz.f4 Rows.wireReadsRow.domain false) (Rows.wireReadsSpec.post enc Tryz.prog Tryz.f4 false true false false) := by
  refine returnsInHanded_of_change (C := Tryz.checked) own started (by kernel_rfl) Tryz.func4
    (ChangeSpec.witness6 (enc := enc) (C := Tryz.checked) false ⟨#[], #[.string ByteArray.empty], []⟩ 8 (by kernel_rfl) (by kernel_rfl) (by kernel_rfl) (by kernel_rfl)) ?_
  intro W base args ds gs before hval0 hW hcnd _
  have hval : ∀ (j : Nat) t v, Tryz.f4.params[j]? = some t → args[j]? = some v → Value.okWide Tryz.prog W .any base t v := hval0
  refine (WireReads_calls H enc W base args ds gs before hval hW).mono fun e W' ⟨he, bel⟩ => ?_
  exact ⟨_, he, law_post (ts := [9]) (by rw [Tryz.params4]) (by intro t ht; simp only [List.mem_cons, List.not_mem_nil, or_false] at ht; subst ht <;> exact ⟨by kernel_rfl, of_decide_eq_true (by kernel_rfl)⟩) hW rfl
    (fun ds h => by match ds, h with | [_], _ => rfl) (by kernel_rfl) bel⟩

theorem WireReads_over : Rows.wireReadsRow.holds Tryz.pinned (OpenSpec.ofChange Rows.wireReadsSpec) :=
  OpenClaim.holds_of_wide 4 Tryz.f4 rfl rfl rfl rfl rfl rfl rfl ⟨rfl, rfl, rfl, rfl, rfl⟩ rfl rfl rfl rfl rfl (by kernel_rfl) Tryz.func4 (by kernel_rfl)
    (of_decide_eq_true (by kernel_rfl)) (by unfold Func.isWrapper; first | (rw [if_pos (by decide +kernel)]; kernel_rfl) | (rw [if_neg (by decide +kernel)]; exact ⟨rfl, rfl⟩))
    (fun os started H enc _ => WireReads_lifted os started H enc)

/-- The statement. -/
theorem WireReads_proved : Rows.WireReadsSaid := WireReads_over

end Go.Proofs.YtagmlgeoefemfaaGreat
