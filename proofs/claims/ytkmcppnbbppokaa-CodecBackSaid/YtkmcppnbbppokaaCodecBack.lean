/- CodecBack: for every number, number with a sign, two texts and a cut the law answers true. No condition. -/
import Derived.Test.YtkmcppnbbppokaaCodecWrites
import Derived.Test.YtkmcppnbbppokaaCodecLaws
namespace Go.Proofs.Ytkmcppnbbppokaa
open Go.RowKit Go.ChangeShapes Go.WideShapes Go.Joins
open Go.ChangeMaps (open_string shut_string)
set_option linter.unusedVariables false

theorem rdU_err (l : List UInt8) (e : Int) (h : e ≠ 0) : rdU l e = (0, l, e) := by rw [rdU, if_neg h]
theorem rdS_err (l : List UInt8) (e : Int) (m : Int) (h : e ≠ 0) : rdS l e m = ([], l, e) := by rw [rdS, if_pos h]

theorem rdU_len (l : List UInt8) (e : Int) : (rdU l e).2.1.length ≤ l.length := by
  rw [rdU]
  split
  · simp
  · exact Nat.le_refl _

/-- What the three reads of a document that was cut come to. -/
theorem back_cut (n : Nat) (i : Int) (l : List UInt8) (hn : F64 n) (hz : F64 (zig i)) (hl : l.length ≤ 1000000) {j : Nat} (hj : j < (threeOf n i l).length) :
    (rdS (rdU (rdU ((threeOf n i l).take j) 0).2.1 (rdU ((threeOf n i l).take j) 0).2.2).2.1 (rdU (rdU ((threeOf n i l).take j) 0).2.1 (rdU ((threeOf n i l).take j) 0).2.2).2.2 l.length).2.2 = 4 := by
  have hlen : (threeOf n i l).length = (enc n).length + ((enc (zig i)).length + (encS l).length) := by simp [threeOf]
  by_cases h1 : j < (enc n).length
  · have e1 : (threeOf n i l).take j = (enc n).take j := by rw [threeOf, List.take_append_of_le_length (by omega)]
    rw [e1, rdU_cut n hn h1]
    simp only
    rw [rdU_err _ 4 (by omega)]
    simp only
    rw [rdS_err _ 4 _ (by omega)]
  · obtain ⟨k, rfl⟩ : ∃ k, j = (enc n).length + k := ⟨j - (enc n).length, by omega⟩
    have e1 : (threeOf n i l).take ((enc n).length + k) = enc n ++ (enc (zig i) ++ encS l).take k := by
      rw [threeOf, List.take_length_add_append]
    rw [e1, rdU_enc n hn]
    simp only
    by_cases h2 : k < (enc (zig i)).length
    · rw [List.take_append_of_le_length (by omega), rdU_cut _ hz h2]
      simp only
      rw [rdS_err _ 4 _ (by omega)]
    · obtain ⟨m, rfl⟩ : ∃ m, k = (enc (zig i)).length + m := ⟨k - (enc (zig i)).length, by omega⟩
      rw [List.take_length_add_append, rdU_enc _ hz]
      simp only
      exact rdS_cut l hl (by omega)

theorem cut_mod (cut : Int) (n : Nat) (h0 : 0 < n) (h1 : n < 9223372036854775808) : ∃ j : Nat, wrap64 ((IntKind.u64.wrap cut).tmod (n : Int)) = j ∧ j < n := by
  have h : 0 ≤ IntKind.u64.wrap cut := by
    simp only [IntKind.wrap_u64]
    omega
  rw [Int.tmod_eq_emod_of_nonneg h]
  have h2 := Int.emod_nonneg (IntKind.u64.wrap cut) (show (n : Int) ≠ 0 by omega)
  have h3 := Int.emod_lt_of_pos (IntKind.u64.wrap cut) (show (0 : Int) < n by omega)
  rw [IntWalk.wrap64_in _ ⟨by omega, by omega⟩]
  exact ⟨((IntKind.u64.wrap cut) % n).toNat, by omega, by omega⟩

set_option maxRecDepth 10000 in
set_option maxHeartbeats 1000000 in
theorem CodecBack_in (n : Nat) (i : Int) (l more : List UInt8) (cut : Int) (w : World) (hn : F64 n) (hi : W64 i) (hc : W64 cut) (hl : l.length ≤ 1000) (hm : more.length ≤ 1000) :
    Calls Try.prog 5 #[.int .u64 n, .int .i64 i, .string ⟨l.toArray⟩, .string ⟨more.toArray⟩, .int .i64 cut] w fun e w' => e = .returned (.bool true) ∧ Below w.heap.size w w' := by
  have hz : F64 (zig i) := zig_fit hi
  have x1 := (enc_len n).2
  have x2 := (enc_len (zig i)).2
  have x0 := (enc_len n).1
  have x3 : (encS l).length ≤ 1010 := by
    have := (enc_len l.length).2
    simp only [encS, List.length_append]
    omega
  go_enter Try.func5, Try.ntmps5
  go_wp2_with fail
  refine (awake_any _).mono ?_
  rintro e w1 ⟨rfl, b1⟩
  go_wp2_with fail
  refine (cuint_any n hn _).mono ?_
  rintro e w2 ⟨rfl, b2⟩
  have hb2 := b1.trans (b2.mono b1.size)
  go_wp2_with fail
  refine (cint_any i hi _).mono ?_
  rintro e w3 ⟨rfl, b3⟩
  have hb3 := hb2.trans (b3.mono hb2.size)
  go_wp2_with fail
  refine (cstr_any l (by omega) _).mono ?_
  rintro e w4 ⟨rfl, b4⟩
  have hb4 := hb3.trans (b4.mono hb3.size)
  clear b1 b2 b3 b4 hb2 hb3
  go_wp2_with fail
  have HT := Lib.hid (show (⟨(enc n).toArray⟩ : ByteArray) ++ ⟨(enc (zig i)).toArray⟩ ++ ⟨(encS l).toArray⟩ = ⟨(threeOf n i l).toArray⟩ by simp [threeOf, ← ByteArray.mk_append_mk, ByteArray.append_assoc])
  have HM := Lib.hid (show (⟨(threeOf n i l).toArray⟩ : ByteArray) ++ ⟨more.toArray⟩ = ⟨(threeOf n i l ++ more).toArray⟩ by simp [← ByteArray.mk_append_mk])
  have H1 := Lib.hid (show rdU (threeOf n i l ++ more) 0 = (n, enc (zig i) ++ (encS l ++ more), 0) by simp only [threeOf, List.append_assoc]; exact rdU_enc n hn _)
  have H2 := Lib.hid (show rdU (enc (zig i) ++ (encS l ++ more)) 0 = (zig i, encS l ++ more, 0) from rdU_enc _ hz _)
  have H3 := Lib.hid (show rdS (encS l ++ more) 0 l.length = (l, more, 0) from rdS_enc l more (by omega) _ (by omega))
  have HZ := Lib.hid (zag_zig i)
  have HL := Lib.hid (show leftOf more 0 = more.length by rw [leftOf, if_pos rfl])
  have hlen : 0 < (threeOf n i l).length ∧ (threeOf n i l).length ≤ 1030 := by simp only [threeOf, List.length_append]; omega
  obtain ⟨j, hj, hjlt⟩ := cut_mod cut (threeOf n i l).length (by omega) (by omega)
  have j0 : 0 ≤ wrap64 ((IntKind.u64.wrap cut).tmod ((threeOf n i l).length : Int)) := by rw [hj]; omega
  have j1 : wrap64 ((IntKind.u64.wrap cut).tmod ((threeOf n i l).length : Int)) ≤ (threeOf n i l).length := by rw [hj]; omega
  have HJ := Lib.hid (show (⟨(threeOf n i l).toArray⟩ : ByteArray).extract 0 (wrap64 ((IntKind.u64.wrap cut).tmod ((threeOf n i l).length : Int))).toNat = ⟨((threeOf n i l).take j).toArray⟩ by
    rw [hj, ByteArray.extract_mk]
    simp)
  have HC := Lib.hid (back_cut n i l hn hz (by omega) hjlt)
  have y1 : (threeOf n i l ++ more).length ≤ 1000000 := by simp only [List.length_append]; omega
  have y2 : (enc (zig i) ++ (encS l ++ more)).length ≤ 1000000 := by simp only [List.length_append]; omega
  have y3 : (encS l ++ more).length ≤ 1000000 := by simp only [List.length_append]; omega
  simp only [HT.out, HM.out]
  clear hj HT HM
  generalize threeOf n i l = T at *
  refine (read_any _ _).mono ?_
  rintro e w5 ⟨b, rfl, hR, hb, b5⟩
  have hb5 := hb4.trans (b5.mono hb4.size)
  have hbw : w.heap.size ≤ b := Nat.le_trans hb4.size hb
  clear b5 hb hb4
  go_wp2_with fail
  refine (ruint_any (by exact hR) y1).mono ?_
  rintro e w6 ⟨rfl, hR6, g6⟩
  rw [H1.out] at hR6
  rw [H1.out]
  have hb6 := grown_below hb5 g6 hbw
  clear hR g6 hb5
  go_wp2_with fail
  refine (rint_any (by exact hR6) y2).mono ?_
  rintro e w7 ⟨rfl, hR7, g7⟩
  rw [H2.out] at hR7
  rw [H2.out]
  simp only [HZ.out]
  have hb7 := grown_below hb6 g7 hbw
  clear hR6 g7 hb6
  go_wp2_with fail
  refine (rstr_any (by exact hR7) y3 (W64.mk (by omega) (by omega))).mono ?_
  rintro e w8 ⟨rfl, hR8, g8⟩
  rw [H3.out] at hR8
  rw [H3.out]
  have hb8 := grown_below hb7 g8 hbw
  clear hR7 g8 hb7
  go_wp2_with fail
  refine (err_any (by exact hR8)).mono ?_
  rintro e w' ⟨rfl, rfl⟩
  go_wp2_with fail
  refine (left_any (by exact hR8)).mono ?_
  rintro e w' ⟨rfl, rfl⟩
  rw [HL.out]
  clear hR8
  go_wp2_with fail
  simp only [HJ.out]
  have z1 : (T.take j).length ≤ 1000000 := by rw [List.length_take]; omega
  refine (read_any _ _).mono ?_
  rintro e w9 ⟨c, rfl, hR, hb, b9⟩
  have hb9 := hb8.trans (b9.mono hb8.size)
  have hcw : w.heap.size ≤ c := Nat.le_trans hb8.size hb
  clear b9 hb hb8 j0 j1
  go_wp2_with fail
  refine (ruint_any (by exact hR) z1).mono ?_
  rintro e w10 ⟨rfl, hR10, g10⟩
  have hb10 := grown_below hb9 g10 hcw
  clear hR g10 hb9
  have z2 : (rdU (T.take j) 0).2.1.length ≤ 1000000 := Nat.le_trans (rdU_len _ _) z1
  generalize rdU (T.take j) 0 = A at *
  go_wp2_with fail
  refine (rint_any (by exact hR10) z2).mono ?_
  rintro e w11 ⟨rfl, hR11, g11⟩
  have hb11 := grown_below hb10 g11 hcw
  clear hR10 g11 hb10
  have z3 : (rdU A.2.1 A.2.2).2.1.length ≤ 1000000 := Nat.le_trans (rdU_len _ _) z2
  generalize rdU A.2.1 A.2.2 = B at *
  go_wp2_with fail
  refine (rstr_any (by exact hR11) z3 (W64.mk (by omega) (by omega))).mono ?_
  rintro e w12 ⟨rfl, hR12, g12⟩
  have hb12 := grown_below hb11 g12 hcw
  rw [HC.out] at hR12
  clear hR11 g12 hb11
  go_wp2_with fail
  refine (err_any (by exact hR12)).mono ?_
  rintro e w' ⟨rfl, rfl⟩
  go_wp2_with fail
  go_ret
  exact ⟨rfl, hb12⟩

set_option maxRecDepth 100000 in
set_option maxHeartbeats 1000000 in
theorem CodecBack_out (n : Nat) (i : Int) (l more : List UInt8) (cut : Int) (w : World) (hl : l.length ≤ maxLen) (hm : more.length ≤ maxLen) (h : 1000 < l.length ∨ 1000 < more.length) :
    Calls Try.prog 5 #[.int .u64 n, .int .i64 i, .string ⟨l.toArray⟩, .string ⟨more.toArray⟩, .int .i64 cut] w fun e w' => e = .returned (.bool true) ∧ Below w.heap.size w w' := by
  unfold maxLen at hl hm
  by_cases h1 : 1000 < l.length
  · clear h
    go_enter Try.func5, Try.ntmps5
    go_wp2_with fail
    refine (awake_any _).mono ?_
    rintro e w1 ⟨rfl, b1⟩
    go_wp2_with fail
    refine (awake_any _).mono ?_
    rintro e w2 ⟨rfl, b2⟩
    have hb2 := b1.trans (b2.mono b1.size)
    go_wp2_with fail
    go_ret
    exact ⟨rfl, hb2⟩
  · have h2 : 1000 < more.length := by omega
    clear h
    go_enter Try.func5, Try.ntmps5
    go_wp2_with fail
    refine (awake_any _).mono ?_
    rintro e w1 ⟨rfl, b1⟩
    go_wp2_with fail
    refine (awake_any _).mono ?_
    rintro e w2 ⟨rfl, b2⟩
    have hb2 := b1.trans (b2.mono b1.size)
    go_wp2_with fail
    go_ret
    exact ⟨rfl, hb2⟩

theorem CodecBack_walk (n i : Int) (s more : ByteArray) (cut : Int) (w : World) (hn : (Lit.int .u64 n).wf = true) (hi : W64 i) (hs : s.size ≤ maxLen) (hm : more.size ≤ maxLen) (hc : W64 cut) :
    Calls Try.prog 5 #[.int .u64 n, .int .i64 i, .string s, .string more, .int .i64 cut] w fun e w' => e = .returned (.bool true) ∧ Below w.heap.size w w' := by
  obtain ⟨m, rfl, hm'⟩ := u64_nat hn
  obtain ⟨l, rfl, hl⟩ := str_list s
  obtain ⟨k, rfl, hk⟩ := str_list more
  by_cases h : 1000 < l.length ∨ 1000 < k.length
  · exact CodecBack_out m i l k cut w (by omega) (by omega) h
  · exact CodecBack_in m i l k cut w hm' hi hc (by omega) (by omega)


theorem CodecBack_calls (H : Type) (enc : TypeId × Value → H) (W : World) (base : Nat) (args : Array Value) (ds gs : List (DataW H)) (before : List MemPlace)
    (hval : ∀ (j : Nat) t v, Try.f5.params[j]? = some t → args[j]? = some v → Value.okWide Try.prog W .any base t v)
    (hW : DataW.Whole enc Try.prog Try.f5.params.toList Rows.codecBackSpec.vars false W args.toList ds gs before) :
    Calls Try.prog 5 args W fun e W' => e = .returned (.bool true) ∧ Below W.heap.size W W' := by
  obtain ⟨p, q, hA, hV, rfl, hfz, hnd⟩ := hW
  rw [Try.params5] at hA hval
  obtain ⟨v0, vs0, d0, ds0, p0, q0, hargs, rfl, rfl, h0, r0⟩ := trodAll_cons hA
  obtain ⟨v1, vs1, d1, ds1, p1, q1, rfl, rfl, rfl, h1, r1⟩ := trodAll_cons r0
  obtain ⟨v2, vs2, d2, ds2, p2, q2, rfl, rfl, rfl, h2, r2⟩ := trodAll_cons r1
  obtain ⟨v3, vs3, d3, ds3, p3, q3, rfl, rfl, rfl, h3, r3⟩ := trodAll_cons r2
  obtain ⟨v4, vs4, d4, ds4, p4, q4, rfl, rfl, rfl, h4, r4⟩ := trodAll_cons r3
  obtain ⟨rfl, rfl, rfl⟩ := trodAll_nil r4
  obtain rfl : args = #[v0, v1, v2, v3, v4] := Array.toList_inj.1 hargs
  obtain ⟨x0, rfl, rfl, rfl, w0⟩ := open_int Try.underlying22 (hval 0 22 v0 rfl rfl) h0
  obtain ⟨x1, rfl, rfl, rfl, w1⟩ := open_int Try.underlying3 (hval 1 3 v1 rfl rfl) h1
  obtain ⟨x2, rfl, rfl, rfl, w2⟩ := open_string Try.underlying9 (hval 2 9 v2 rfl rfl) h2
  obtain ⟨x3, rfl, rfl, rfl, w3⟩ := open_string Try.underlying9 (hval 3 9 v3 rfl rfl) h3
  obtain ⟨x4, rfl, rfl, rfl, w4⟩ := open_int Try.underlying3 (hval 4 3 v4 rfl rfl) h4
  exact CodecBack_walk x0 x1 x2 x3 x4 W w0 w1 w2 w3 w4

set_option maxRecDepth 100000 in
theorem CodecBack_lifted (os : Os) (started : os.Started) (H : Type) (enc : TypeId × Value → H) :
    ReturnsInHanded {} Try.checked os 5 .any (Rows.codecBackSpec.pre6 enc Try.prog Try.f5 Rows.codecBackRow.domain false) (Rows.codecBackSpec.post enc Try.prog Try.f5 false true false false) := by
  refine returnsInHanded_of_change (C := Try.checked) own started (by kernel_rfl) Try.func5
    (ChangeSpec.witness6 (enc := enc) (C := Try.checked) false ⟨#[], #[.int .u64 0, .int .i64 0, .string ByteArray.empty, .string ByteArray.empty, .int .i64 0], []⟩ 8 (by kernel_rfl) (by kernel_rfl) (by kernel_rfl) (by kernel_rfl)) ?_
  intro W base args ds gs before hval0 hW hcnd _
  have hval : ∀ (j : Nat) t v, Try.f5.params[j]? = some t → args[j]? = some v → Value.okWide Try.prog W .any base t v := hval0
  refine (CodecBack_calls H enc W base args ds gs before hval hW).mono fun e W' ⟨he, bel⟩ => ?_
  exact ⟨_, he, law_post (ts := [22, 3, 9, 9, 3]) (by rw [Try.params5]) (by intro t ht; simp only [List.mem_cons, List.not_mem_nil, or_false] at ht; rcases ht with rfl | rfl | rfl | rfl | rfl <;> exact ⟨by kernel_rfl, of_decide_eq_true (by kernel_rfl)⟩) hW rfl
    (fun ds h => by match ds, h with | [_, _, _, _, _], _ => rfl) (by kernel_rfl) bel⟩

theorem CodecBack_over : Rows.codecBackRow.holds Try.pinned (OpenSpec.ofChange Rows.codecBackSpec) :=
  OpenClaim.holds_of_wide 5 Try.f5 rfl rfl rfl rfl rfl rfl rfl ⟨rfl, rfl, rfl, rfl, rfl⟩ rfl rfl rfl rfl rfl (by kernel_rfl) Try.func5 (by kernel_rfl)
    (of_decide_eq_true (by kernel_rfl)) (by unfold Func.isWrapper; first | (rw [if_pos (by decide +kernel)]; kernel_rfl) | (rw [if_neg (by decide +kernel)]; exact ⟨rfl, rfl⟩))
    (fun os started H enc _ => CodecBack_lifted os started H enc)

/-- The statement. -/
theorem CodecBack_proved : Rows.CodecBackSaid := CodecBack_over

end Go.Proofs.Ytkmcppnbbppokaa
