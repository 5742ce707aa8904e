/- WireOnly: for every text the law answers true. No condition. -/
import Derived.Test.YtagmlgeoefemfaaWireRefMay
import Derived.Test.YtagmlgeoefemfaaWireOk
namespace Go.Proofs.Ytagmlgeoefemfaa
open Go.RowKit Go.ChangeShapes Go.WideShapes Go.Joins Go.Deep
open Go.ChangeMaps (open_string shut_string)
set_option linter.unusedVariables false

set_option maxRecDepth 100000 in
set_option maxHeartbeats 2000000 in

theorem WireOnly_go {w : World} (l : List UInt8) (hll : l.length ≤ maxLen) :
    Calls Try.prog 5 #[.string ⟨l.toArray⟩] w fun e w' => e = .returned (.bool true) ∧ Below w.heap.size w w' := by
  unfold maxLen at hll
  go_enter Try.func5, Try.ntmps5
  go_wp2_with fail
  refine (awake_any _).mono ?_
  rintro en w1 ⟨rfl, hb⟩
  by_cases h : 2000 < l.length
  · have h' : (2000 : Int) < (l.length : Int) := by omega
    go_wp2_with fail
    refine (awake_any _).mono ?_
    rintro en w2 ⟨rfl, b2⟩
    have hb2 := below_step hb b2
    go_wp2_with fail
    go_ret
    exact ⟨rfl, hb2⟩
  · have h' : ¬ (2000 : Int) < (l.length : Int) := by omega
    obtain ⟨R, x, hr⟩ : ∃ R x, readM l = (R, x) := ⟨_, _, rfl⟩
    have HR := Lib.hid hr
    clear hr
    go_wp2_with fail
    refine (wread_any HR.out).mono ?_
    rintro en w6 ⟨v, rfl, hF, b6⟩
    have hb6 := below_step hb b6
    have hop := (readM_ok HR.out).op.1
    obtain ⟨es, rfl, hlen2, hone2, hF2⟩ := From.parts hF hop
    have hA6 := hF2.at
    clear hF hF2 hb b6
    have hX := BlkAt.new w6 34 [.int .i64 0, .int .i64 0, .int .i64 0, .int .i64 0, .int .i64 0, .int .i64 0, .int .i64 0, .int .i64 0, .int .i64 0, .int .i64 0, .bool false, .int .i64 0, .int .i64 0, .int .i64 0, .int .i64 0, .int .i64 0, .int .i64 0, .int .i64 0, .int .i64 0, .int .i64 0, .string ⟨#[]⟩, .int .i64 0, .int .i64 0, .int .i64 0, .int .i64 0, .slice none 0 0, .slice none 0 0, .int .i64 0]
    have HL1 := Lib.hid (show es.length = ([.int .i64 0, .int .i64 0, .int .i64 0, .int .i64 0, .int .i64 0, .int .i64 0, .int .i64 0, .int .i64 0, .int .i64 0, .int .i64 0, .bool false, .int .i64 0, .int .i64 0, .int .i64 0, .int .i64 0, .int .i64 0, .int .i64 0, .int .i64 0, .int .i64 0, .int .i64 0, .string ⟨#[]⟩, .int .i64 0, .int .i64 0, .int .i64 0, .int .i64 0, .slice none 0 0, .slice none 0 0, .int .i64 0] : List Value).length by rw [hlen2]; rfl)
    have b4 := (Below.refl w6.heap.size w6).alloc (Nat.le_refl _) (.cells #[.int .i64 0, .int .i64 0, .int .i64 0, .int .i64 0, .int .i64 0, .int .i64 0, .int .i64 0, .int .i64 0, .int .i64 0, .int .i64 0, .bool false, .int .i64 0, .int .i64 0, .int .i64 0, .int .i64 0, .int .i64 0, .int .i64 0, .int .i64 0, .int .i64 0, .int .i64 0, .string ⟨#[]⟩, .int .i64 0, .int .i64 0, .int .i64 0, .int .i64 0, .slice none 0 0, .slice none 0 0, .int .i64 0] 34)
    have G4 := grown_setCells w6.heap.size es 0 (w6.alloc (.cells #[.int .i64 0, .int .i64 0, .int .i64 0, .int .i64 0, .int .i64 0, .int .i64 0, .int .i64 0, .int .i64 0, .int .i64 0, .int .i64 0, .bool false, .int .i64 0, .int .i64 0, .int .i64 0, .int .i64 0, .int .i64 0, .int .i64 0, .int .i64 0, .int .i64 0, .int .i64 0, .string ⟨#[]⟩, .int .i64 0, .int .i64 0, .int .i64 0, .int .i64 0, .slice none 0 0, .slice none 0 0, .int .i64 0] 34))
    have b5 := b4.grown G4 b4.size (by intro j hj; cases hj; exact Nat.le_refl _)
    have hY7n := hX.stored (vs := es) HL1.out
    have HT := Lib.hid (blk_there2 hX HL1.out)
    have hA6n := hA6.below b5
    clear hA6
    have hA6 := hA6n
    clear hA6n
    have hb6n := below_step hb6 b5
    clear hb6
    have hb6 := hb6n
    clear hb6n
    clear hX b4 G4 b5 HL1
    go_upto_region 4 with (first | (refine wpList_store_mid rfl 34 (.tmp 3) (.tmp 16) rfl w6.heap.size 0 es.toArray rfl rfl (by exact HT.out) (by rw [List.size_toArray, hlen2]; exact msg_info) hone2 ?_; rw [List.toList_toArray]))
    change Code.wp _ _ _ _ ((w6.alloc (.cells #[.int .i64 0, .int .i64 0, .int .i64 0, .int .i64 0, .int .i64 0, .int .i64 0, .int .i64 0, .int .i64 0, .int .i64 0, .int .i64 0, .bool false, .int .i64 0, .int .i64 0, .int .i64 0, .int .i64 0, .int .i64 0, .int .i64 0, .int .i64 0, .int .i64 0, .int .i64 0, .string ⟨#[]⟩, .int .i64 0, .int .i64 0, .int .i64 0, .int .i64 0, .slice none 0 0, .slice none 0 0, .int .i64 0] 34)).setCells w6.heap.size 0 es)
    generalize (w6.alloc (.cells #[.int .i64 0, .int .i64 0, .int .i64 0, .int .i64 0, .int .i64 0, .int .i64 0, .int .i64 0, .int .i64 0, .int .i64 0, .int .i64 0, .bool false, .int .i64 0, .int .i64 0, .int .i64 0, .int .i64 0, .int .i64 0, .int .i64 0, .int .i64 0, .int .i64 0, .int .i64 0, .string ⟨#[]⟩, .int .i64 0, .int .i64 0, .int .i64 0, .int .i64 0, .slice none 0 0, .slice none 0 0, .int .i64 0] 34)).setCells w6.heap.size 0 es = W7 at *
    have hY7 := hY7n
    clear hY7n HT
    obtain ⟨y, hLL⟩ : ∃ q, q = w6.heap.size := ⟨_, rfl⟩
    rw [← hLL] at hY7 ⊢
    have HEy := Lib.hid hLL
    clear hLL
    rcases readM_what HR.out with ⟨rfl, hm, _⟩ | ⟨hx, rfl⟩
    · have HM := Lib.hid hm
      clear hm
      go_wp2_with (first | (refine wpList_load_want (by rfl) 34 (.tmp 3) rfl y 0 rfl es _ hY7.range Try.underlying34 rfl (by rw [hlen2]; exact msg_info) ?_; simp only [Act.put, List.setIfInBounds_toArray, List.set_cons_zero, List.set_cons_succ]) | fail)
      refine (qwmay_any (by exact hA6) (readM_ok HR.out) HM.out).mono ?_
      rintro en w8 ⟨rfl, b8⟩
      have hb8 := below_step hb6 b8
      go_wp2_with fail
      go_ret
      exact ⟨rfl, hb8⟩
    · have hxz : (x != 0) = true := by simpa using hx
      have hx0 : (x == 0) = false := by simpa using hx
      have hZ := (MsgV.From.zero 0 W7).at
      have hz : ∀ w, (zeroValue 34).run Try.prog w = .ok (.agg (msgCells msgZero (.slice none 0 0) (.slice none 0 0)).toArray) w := fun w => by kernel_rfl
      generalize msgCells msgZero (.slice none 0 0) (.slice none 0 0) = zs at *
      go_wp2_with (first | (refine wpList_load_want (by rfl) 34 (.tmp 3) rfl y 0 rfl es _ hY7.range Try.underlying34 rfl (by rw [hlen2]; exact msg_info) ?_; simp only [Act.put, List.setIfInBounds_toArray, List.set_cons_zero, List.set_cons_succ]) | fail)
      refine (wsame_any (by exact hA6) (by exact hZ) rfl rfl).mono ?_
      rintro en w8 ⟨rfl, b8⟩
      rw [decide_eq_true (rfl : msgZero = msgZero)]
      have hb8 := below_step hb6 b8
      go_wp2_with fail
      go_ret
      exact ⟨rfl, hb8⟩
theorem WireOnly_walk (s : ByteArray) (w : World) (hs : s.size ≤ maxLen) :
    Calls Try.prog 5 #[.string s] w fun e w' => e = .returned (.bool true) ∧ Below w.heap.size w w' := by
  obtain ⟨l, rfl, hl⟩ := str_list s
  exact WireOnly_go l (by omega)


set_option maxRecDepth 100000 in
theorem WireOnly_calls (H : Type) (enc : TypeId × Value → H) (W : World) (base : Nat) (args : Array Value) (ds gs : List (DataW H)) (before : List MemPlace)
    (hval : ∀ (j : Nat) t v, Try.f5.params[j]? = some t → args[j]? = some v → Value.okWide Try.prog W .any base t v)
    (hW : DataW.Whole enc Try.prog Try.f5.params.toList Rows.wireOnlySpec.vars false W args.toList ds gs before) :
    Calls Try.prog 5 args W fun e W' => e = .returned (.bool true) ∧ Below W.heap.size W W' := by
  obtain ⟨p, q, hA, hV, rfl, hfz, hnd⟩ := hW
  rw [Try.params5] at hA hval
  obtain ⟨v0, vs0, d0, ds0, p0, q0, hargs, rfl, rfl, h0, r0⟩ := trodAll_cons hA
  obtain ⟨rfl, rfl, rfl⟩ := trodAll_nil r0
  obtain rfl : args = #[v0] := Array.toList_inj.1 hargs
  obtain ⟨x0, rfl, rfl, rfl, w0⟩ := open_string Try.underlying9 (hval 0 9 v0 rfl rfl) h0
  exact WireOnly_walk x0 W w0

set_option maxRecDepth 100000 in
theorem WireOnly_lifted (os : Os) (started : os.Started) (H : Type) (enc : TypeId × Value → H) :
    ReturnsInHanded {} Try.checked os 5 .any (Rows.wireOnlySpec.pre6 enc Try.prog Try.f5 Rows.wireOnlyRow.domain false) (Rows.wireOnlySpec.post enc Try.prog Try.f5 false true false false) := by
  refine returnsInHanded_of_change (C := Try.checked) own started (by kernel_rfl) Try.func5
    (ChangeSpec.witness6 (enc := enc) (C := Try.checked) false ⟨#[], #[.string ByteArray.empty], []⟩ 8 (by kernel_rfl) (by kernel_rfl) (by kernel_rfl) (by kernel_rfl)) ?_
  intro W base args ds gs before hval0 hW hcnd _
  have hval : ∀ (j : Nat) t v, Try.f5.params[j]? = some t → args[j]? = some v → Value.okWide Try.prog W .any base t v := hval0
  refine (WireOnly_calls H enc W base args ds gs before hval hW).mono fun e W' ⟨he, bel⟩ => ?_
  exact ⟨_, he, law_post (ts := [9]) (by rw [Try.params5]) (by intro t ht; simp only [List.mem_cons, List.not_mem_nil, or_false] at ht; subst ht <;> exact ⟨by kernel_rfl, of_decide_eq_true (by kernel_rfl)⟩) hW rfl
    (fun ds h => by match ds, h with | [_], _ => rfl) (by kernel_rfl) bel⟩

theorem WireOnly_over : Rows.wireOnlyRow.holds Try.pinned (OpenSpec.ofChange Rows.wireOnlySpec) :=
  OpenClaim.holds_of_wide 5 Try.f5 rfl rfl rfl rfl rfl rfl rfl ⟨rfl, rfl, rfl, rfl, rfl⟩ rfl rfl rfl rfl rfl (by kernel_rfl) Try.func5 (by kernel_rfl)
    (of_decide_eq_true (by kernel_rfl)) (by unfold Func.isWrapper; first | (rw [if_pos (by decide +kernel)]; kernel_rfl) | (rw [if_neg (by decide +kernel)]; exact ⟨rfl, rfl⟩))
    (fun os started H enc _ => WireOnly_lifted os started H enc)

/-- The statement. -/
theorem WireOnly_proved : Rows.WireOnlySaid := WireOnly_over

end Go.Proofs.Ytagmlgeoefemfaa
