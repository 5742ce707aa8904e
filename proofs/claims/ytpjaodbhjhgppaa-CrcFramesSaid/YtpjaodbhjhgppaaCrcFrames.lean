/- CrcFrames: for every text, place and byte the law answers true. No condition. -/
import Derived.Test.YtpjaodbhjhgppaaCrcAwake
import Derived.Test.YtpjaodbhjhgppaaBytes
import Derived.Deep.DeepCutAuto
namespace Go.Proofs.Ytpjaodbhjhgppaa
open Go.RowKit Go.ChangeShapes Go.WideShapes Go.Joins
open Go.ChangeMaps (open_string shut_string)
set_option linter.unusedVariables false

theorem wholeOf_frame (l : List UInt8) : wholeOf (frame l) = l := by
  rw [wholeOf, if_pos (whole_frame l), frame_take]

set_option maxRecDepth 100000 in
set_option maxHeartbeats 1000000 in
theorem CrcFrames_in (l : List UInt8) (at_ : Int) (c : UInt8) (w : World) (hl : l.length ≤ 1000) (ha : W64 at_) :
    Calls Try.prog 5 #[.string ⟨l.toArray⟩, .int .i64 at_, .int .u8 (c.toNat : Int)] w fun e w' => e = .returned (.bool true) ∧ Below w.heap.size w w' := by
  have HW := Lib.hid (whole_frame l)
  have HO := Lib.hid (wholeOf_frame l)
  have hfl : (frame l).length ≤ 1000000 := by rw [frame_len]; omega
  go_enter Try.func5, Try.ntmps5
  go_wp2_with fail
  refine (awake_any _).mono ?_
  rintro e w1 ⟨rfl, b1⟩
  go_wp2_with fail
  refine (frame_any l (by omega) _).mono ?_
  rintro e w2 ⟨rfl, b2⟩
  have hb2 := b1.trans (b2.mono b1.size)
  go_wp2_with fail
  refine (whole_any (frame l) hfl _).mono ?_
  rintro e w3 ⟨rfl, b3⟩
  rw [HW.out, HO.out]
  have hb3 := hb2.trans (b3.mono hb2.size)
  go_wp2_with fail
  refine (qframe_any l (by omega) _).mono ?_
  rintro e w4 ⟨rfl, b4⟩
  have hb4 := hb3.trans (b4.mono hb3.size)
  go_wp2_with fail
  refine (qsum_any l (by omega) _).mono ?_
  rintro e w' ⟨rfl, rfl⟩
  clear b1 b2 b3 b4 hb2 hb3
  obtain ⟨cap, zs, hcv⟩ := bytes_of (frame l) w4
  have hB := ByAt.made' (frame l) zs 5 w4
  have hb5 := below_drewN (hb4.alloc hb4.size (.cells (bcells (frame l ++ zs)).toArray 5 ((frame l).length + zs.length, (frame l).length + zs.length + 1))) 1
  have hBw : w.heap.size ≤ w4.heap.size := hb4.size
  obtain ⟨j, hj, hjlt⟩ := place_mod at_ (frame l).length (by rw [frame_len]; omega) (by omega)
  have HJ := Lib.hid hj
  clear hj hb4
  have hfl1 : 0 < (frame l).length := by rw [frame_len]; omega
  go_upto_region 8 with (fail)
  change Below w.heap.size w (w4.alloc _).drew at hb5
  generalize (w4.alloc (.cells (bcells (frame l ++ zs)).toArray 5 ((frame l).length + zs.length, (frame l).length + zs.length + 1))).drew = W5 at *
  generalize w4.heap.size = B at *
  clear hcv
  obtain ⟨d, hd⟩ : ∃ d, (frame l)[j]? = some d := ⟨_, List.getElem?_eq_getElem hjlt⟩
  have hc := hB.cell hd
  have hf := hB.free hjlt
  have hcv := hB.turned hjlt d c cap
  have HD := Lib.hid hd
  clear hd hB
  have hj := HJ.out
  have hjl : (j : Int) < (frame l).length := by omega
  have hz := hb5.setCell (p := ⟨B, j, none⟩) hBw (.int .u8 (bits .xor .u8 (d.toNat : Int) (c.toNat : Int)))
  have HG : Hid (whole ((frame l).set j (d ^^^ c)) = decide ((c.toNat : Int) = 0)) := by
    obtain ⟨_, hd⟩ := List.getElem?_eq_some_iff.1 HD.out
    by_cases h0 : c = 0
    · subst h0
      have : (frame l).set j (d ^^^ 0) = frame l := by rw [UInt8.xor_zero, ← hd]; simp
      exact Lib.hid (by rw [this, HW.out]; rfl)
    · have hne : d ^^^ c ≠ (frame l)[j] := by rw [hd]; exact xor_ne h0
      exact Lib.hid (by rw [whole_set l hjlt hne, decide_eq_false (fun h => h0 (byte_zero.2 h))])
  have hgl : ((frame l).set j (d ^^^ c)).length ≤ 1000000 := by rw [List.length_set]; exact hfl
  generalize (frame l).set j (d ^^^ c) = G at *
  go_wp2_with fail
  refine (whole_any G hgl _).mono ?_
  rintro e w6 ⟨rfl, b6⟩
  rw [HG.out]
  have hb6 := hz.trans (b6.mono hz.size)
  clear hcv hc hf b6 hz hb5 hj
  go_wp2_with fail
  have HB := Lib.hid (show (decide (c.toNat = 0) == ((c.toNat : Int) == 0)) = true by by_cases h : c.toNat = 0 <;> simp [h])
  go_ret
  exact ⟨ret_bool HB.out, hb6⟩

set_option maxRecDepth 100000 in
set_option maxHeartbeats 1000000 in
theorem CrcFrames_out (l : List UInt8) (at_ : Int) (c : UInt8) (w : World) (hl : l.length ≤ maxLen) (h : 1000 < l.length) :
    Calls Try.prog 5 #[.string ⟨l.toArray⟩, .int .i64 at_, .int .u8 (c.toNat : Int)] w fun e w' => e = .returned (.bool true) ∧ Below w.heap.size w w' := by
  unfold maxLen at hl
  go_enter Try.func5, Try.ntmps5
  go_wp2_with fail
  refine (awake_any _).mono ?_
  rintro e w1 ⟨rfl, b1⟩
  go_wp2_with fail
  refine (awake_any _).mono ?_
  rintro e w2 ⟨rfl, b2⟩
  have hb2 := b1.trans (b2.mono b1.size)
  go_wp2_with fail
  go_ret
  exact ⟨rfl, hb2⟩

theorem CrcFrames_walk (s : ByteArray) (at_ c : Int) (w : World) (hs : s.size ≤ maxLen) (ha : W64 at_) (hc : (Lit.int .u8 c).wf = true) :
    Calls Try.prog 5 #[.string s, .int .i64 at_, .int .u8 c] w fun e w' => e = .returned (.bool true) ∧ Below w.heap.size w w' := by
  obtain ⟨l, rfl, hl⟩ := str_list s
  obtain ⟨c, rfl⟩ := u8_byte hc
  by_cases h : 1000 < l.length
  · exact CrcFrames_out l at_ c w (by omega) h
  · exact CrcFrames_in l at_ c w (by omega) ha


theorem CrcFrames_calls (H : Type) (enc : TypeId × Value → H) (W : World) (base : Nat) (args : Array Value) (ds gs : List (DataW H)) (before : List MemPlace)
    (hval : ∀ (j : Nat) t v, Try.f5.params[j]? = some t → args[j]? = some v → Value.okWide Try.prog W .any base t v)
    (hW : DataW.Whole enc Try.prog Try.f5.params.toList Rows.crcFramesSpec.vars false W args.toList ds gs before) :
    Calls Try.prog 5 args W fun e W' => e = .returned (.bool true) ∧ Below W.heap.size W W' := by
  obtain ⟨p, q, hA, hV, rfl, hfz, hnd⟩ := hW
  rw [Try.params5] at hA hval
  obtain ⟨v0, vs0, d0, ds0, p0, q0, hargs, rfl, rfl, h0, r0⟩ := trodAll_cons hA
  obtain ⟨v1, vs1, d1, ds1, p1, q1, rfl, rfl, rfl, h1, r1⟩ := trodAll_cons r0
  obtain ⟨v2, vs2, d2, ds2, p2, q2, rfl, rfl, rfl, h2, r2⟩ := trodAll_cons r1
  obtain ⟨rfl, rfl, rfl⟩ := trodAll_nil r2
  obtain rfl : args = #[v0, v1, v2] := Array.toList_inj.1 hargs
  obtain ⟨x0, rfl, rfl, rfl, w0⟩ := open_string Try.underlying9 (hval 0 9 v0 rfl rfl) h0
  obtain ⟨x1, rfl, rfl, rfl, w1⟩ := open_int Try.underlying3 (hval 1 3 v1 rfl rfl) h1
  obtain ⟨x2, rfl, rfl, rfl, w2⟩ := open_int Try.underlying5 (hval 2 5 v2 rfl rfl) h2
  exact CrcFrames_walk x0 x1 x2 W w0 w1 w2

set_option maxRecDepth 100000 in
theorem CrcFrames_lifted (os : Os) (started : os.Started) (H : Type) (enc : TypeId × Value → H) :
    ReturnsInHanded {} Try.checked os 5 .any (Rows.crcFramesSpec.pre6 enc Try.prog Try.f5 Rows.crcFramesRow.domain false) (Rows.crcFramesSpec.post enc Try.prog Try.f5 false true false false) := by
  refine returnsInHanded_of_change (C := Try.checked) own started (by kernel_rfl) Try.func5
    (ChangeSpec.witness6 (enc := enc) (C := Try.checked) false ⟨#[], #[.string ByteArray.empty, .int .i64 0, .int .u8 0], []⟩ 8 (by kernel_rfl) (by kernel_rfl) (by kernel_rfl) (by kernel_rfl)) ?_
  intro W base args ds gs before hval0 hW hcnd _
  have hval : ∀ (j : Nat) t v, Try.f5.params[j]? = some t → args[j]? = some v → Value.okWide Try.prog W .any base t v := hval0
  refine (CrcFrames_calls H enc W base args ds gs before hval hW).mono fun e W' ⟨he, bel⟩ => ?_
  exact ⟨_, he, law_post (ts := [9, 3, 5]) (by rw [Try.params5]) (by intro t ht; simp only [List.mem_cons, List.not_mem_nil, or_false] at ht; rcases ht with rfl | rfl | rfl <;> exact ⟨by kernel_rfl, of_decide_eq_true (by kernel_rfl)⟩) hW rfl
    (fun ds h => by match ds, h with | [_, _, _], _ => rfl) (by kernel_rfl) bel⟩

theorem CrcFrames_over : Rows.crcFramesRow.holds Try.pinned (OpenSpec.ofChange Rows.crcFramesSpec) :=
  OpenClaim.holds_of_wide 5 Try.f5 rfl rfl rfl rfl rfl rfl rfl ⟨rfl, rfl, rfl, rfl, rfl⟩ rfl rfl rfl rfl rfl (by kernel_rfl) Try.func5 (by kernel_rfl)
    (of_decide_eq_true (by kernel_rfl)) (by unfold Func.isWrapper; first | (rw [if_pos (by decide +kernel)]; kernel_rfl) | (rw [if_neg (by decide +kernel)]; exact ⟨rfl, rfl⟩))
    (fun os started H enc _ => CrcFrames_lifted os started H enc)

/-- The statement. -/
theorem CrcFrames_proved : Rows.CrcFramesSaid := CrcFrames_over

end Go.Proofs.Ytpjaodbhjhgppaa
