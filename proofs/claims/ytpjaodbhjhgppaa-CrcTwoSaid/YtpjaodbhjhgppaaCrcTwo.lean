/- CrcTwo: for every two texts, place and byte the law answers true. No condition. -/
import Derived.Test.YtpjaodbhjhgppaaCrcAwake
import Derived.Test.YtpjaodbhjhgppaaBytes
import Derived.Deep.DeepCutAuto
namespace Go.Proofs.Ytpjaodbhjhgppaa
open Go.RowKit Go.ChangeShapes Go.WideShapes Go.Joins
open Go.ChangeMaps (open_string shut_string)
set_option linter.unusedVariables false

set_option maxRecDepth 100000 in
set_option maxHeartbeats 1000000 in
theorem CrcTwo_in (p l : List UInt8) (at_ : Int) (c : UInt8) (w : World) (hp : p.length ≤ 1000) (hl : l.length ≤ 1000) (h0 : 0 < l.length) (hc : ¬ c = 0) (ha : W64 at_) :
    Calls Try.prog 7 #[.string ⟨p.toArray⟩, .string ⟨l.toArray⟩, .int .i64 at_, .int .u8 (c.toNat : Int)] w fun e w' => e = .returned (.bool true) ∧ Below w.heap.size w w' := by
  have HC := Lib.hid hc
  have hcz : ((c.toNat : Int) == 0) = false := by
    rw [beq_eq_false_iff_ne]
    exact fun h => hc (byte_zero.2 h)
  have hl0 : ((l.length : Int) == 0) = false := by rw [beq_eq_false_iff_ne]; omega
  go_enter Try.func7, Try.ntmps7
  go_wp2_with fail
  refine (awake_any _).mono ?_
  rintro e w1 ⟨rfl, b1⟩
  go_wp2_with fail
  refine (new_any _).mono ?_
  rintro e w2 ⟨rfl, hX, b2⟩
  have hb2 := b1.trans (b2.mono b1.size)
  have hxw : w.heap.size ≤ w1.heap.size := b1.size
  generalize w1.heap.size = x at *
  clear b1 b2
  go_wp2_with fail
  refine (new_any _).mono ?_
  rintro e w3 ⟨rfl, hY, b3⟩
  have hb3 := hb2.trans (b3.mono hb2.size)
  have hyw : w.heap.size ≤ w2.heap.size := hb2.size
  have hxy : x ≠ w2.heap.size := by have := hX.lt; omega
  have hX3 := hX.below b3
  generalize w2.heap.size = y at *
  clear hb2 b3 hX
  go_wp2_with fail
  refine (sum_any (by exact .inl ⟨rfl, _, hX3⟩) p (by omega)).mono ?_
  rintro e w4 ⟨rfl, hX4, g4⟩
  have hY4 := hY.grown g4 hxy.symm
  have hb4 := grown_below hb3 g4 hxw
  clear hX3 hY hb3 g4
  obtain ⟨cap, zs, hcv⟩ := bytes_of l w4
  have hB := ByAt.made' l zs 5 w4
  have hbel := (Below.refl w4.heap.size w4).alloc (Nat.le_refl _) (.cells (bcells (l ++ zs)).toArray 5 (l.length + zs.length, l.length + zs.length + 1))
  have hb5 := below_drewN (hb4.alloc hb4.size (.cells (bcells (l ++ zs)).toArray 5 (l.length + zs.length, l.length + zs.length + 1))) 1
  have hX5 := (hX4.below hbel).drew
  have hY5 := (hY4.below hbel).drew
  have hBx : w4.heap.size ≠ x := by have := hX4.lt; omega
  have hBy : w4.heap.size ≠ y := by have := hY4.lt; omega
  have hBw : w.heap.size ≤ w4.heap.size := hb4.size
  obtain ⟨j, hj, hjlt⟩ := place_mod at_ l.length h0 (by omega)
  have HJ := Lib.hid hj
  clear hj hb4 hX4 hY4 hbel
  go_upto_region 6 with (fail)
  change Below w.heap.size w (w4.alloc _).drew at hb5
  generalize (w4.alloc (.cells (bcells (l ++ zs)).toArray 5 (l.length + zs.length, l.length + zs.length + 1))).drew = W5 at *
  generalize w4.heap.size = B at *
  clear hcv
  obtain ⟨d, hd⟩ : ∃ d, l[j]? = some d := ⟨_, List.getElem?_eq_getElem hjlt⟩
  have hc := hB.cell hd
  have hf := hB.free hjlt
  have hS := hB.set hjlt (d ^^^ c)
  rw [← xor_bytes] at hS
  have hj := HJ.out
  have hjl : (j : Int) < l.length := by omega
  have hz := hb5.setCell (p := ⟨B, j, none⟩) hBw (.int .u8 (bits .xor .u8 (d.toNat : Int) (c.toNat : Int)))
  have hX6 := hX5.grown (grown_setCell W5 B j (.int .u8 (bits .xor .u8 (d.toNat : Int) (c.toNat : Int)))) hBx.symm
  have hY6 := hY5.grown (grown_setCell W5 B j (.int .u8 (bits .xor .u8 (d.toNat : Int) (c.toNat : Int)))) hBy.symm
  have HNE : Hid (crcOf (l.set j (d ^^^ c)) ≠ crcOf l) := by
    obtain ⟨_, hd⟩ := List.getElem?_eq_some_iff.1 hd
    have hne : d ^^^ c ≠ l[j] := by rw [hd]; exact xor_ne HC.out
    exact Lib.hid (crcOf_set l hjlt hne)
  have hgl : (l.set j (d ^^^ c)).length ≤ 1000000 := by rw [List.length_set]; omega
  have hgl2 := Lib.hid (show (l.set j (d ^^^ c)).length = l.length by rw [List.length_set])
  clear hX5 hY5 hB hb5 hd
  go_upto_region 7 with (fail)
  generalize W5.setCell ⟨B, j, none⟩ (.int .u8 (bits .xor .u8 (d.toNat : Int) (c.toNat : Int))) = W6 at *
  generalize l.set j (d ^^^ c) = G at *
  clear hc hf hj HJ
  go_wp2_with fail
  refine (sum_any (by exact .inr ⟨rfl, hX6⟩) l (by omega)).mono ?_
  rintro e w7 ⟨rfl, hX7, g7⟩
  have hY7 := hY6.grown g7 hxy.symm
  have hS7 := hS.grown g7 hBx
  have hb7 := grown_below hz g7 hxw
  clear hX6 hY6 hS hz g7
  go_wp2_with fail
  refine (sum_any (by exact .inl ⟨rfl, _, hY7⟩) l (by omega)).mono ?_
  rintro e w8 ⟨rfl, hY8, g8⟩
  have hX8 := hX7.grown g8 hxy
  have hS8 := hS7.grown g8 hBy
  have hb8 := grown_below hb7 g8 hyw
  clear hX7 hY7 hS7 hb7 g8
  have hcv := hS8.text cap
  rw [hgl2.out] at hcv
  go_wp2_with fail
  refine (sum_any (by exact .inr ⟨rfl, hX8⟩) G hgl).mono ?_
  rintro e w9 ⟨rfl, hX9, g9⟩
  have hY9 := hY8.grown g9 hxy.symm
  have hb9 := grown_below hb8 g9 hxw
  clear hX8 hY8 hS8 hb8 g9 hcv
  go_wp2_with fail
  refine (sum_any (by exact .inr ⟨rfl, hY9⟩) l (by omega)).mono ?_
  rintro e w10 ⟨rfl, hY10, g10⟩
  have hX10 := hX9.grown g10 hxy
  have hb10 := grown_below hb9 g10 hyw
  clear hX9 hY9 hb9 g10
  have hne := HNE.out
  have hn1 : ((crcOf G : Int) != (crcOf l : Int)) = true := by rw [bne_iff_ne]; omega
  have hn2 : ((crcOf G : Int) == (crcOf l : Int)) = false := by rw [beq_eq_false_iff_ne]; omega
  go_wp2_with fail
  refine (made_any (by exact hX10)).mono ?_
  rintro e w' ⟨rfl, rfl⟩
  go_wp2_with fail
  refine (made_any (by exact hY10)).mono ?_
  rintro e w' ⟨rfl, rfl⟩
  go_wp2_with fail
  go_ret
  exact ⟨rfl, hb10⟩

set_option maxRecDepth 100000 in
set_option maxHeartbeats 1000000 in
theorem CrcTwo_out (p l : List UInt8) (at_ : Int) (c : UInt8) (w : World) (hp : p.length ≤ maxLen) (hl : l.length ≤ maxLen) (h : 1000 < p.length ∨ l.length = 0 ∨ 1000 < l.length ∨ c = 0) :
    Calls Try.prog 7 #[.string ⟨p.toArray⟩, .string ⟨l.toArray⟩, .int .i64 at_, .int .u8 (c.toNat : Int)] w fun e w' => e = .returned (.bool true) ∧ Below w.heap.size w w' := by
  unfold maxLen at hp hl
  by_cases h1 : 1000 < p.length
  · clear h
    go_enter Try.func7, Try.ntmps7
    go_wp2_with fail
    refine (awake_any _).mono ?_
    rintro e w1 ⟨rfl, b1⟩
    go_wp2_with fail
    refine (awake_any _).mono ?_
    rintro e w2 ⟨rfl, b2⟩
    have hb2 := b1.trans (b2.mono b1.size)
    go_wp2_with fail
    go_ret
    exact ⟨rfl, hb2⟩
  · by_cases h2 : l.length = 0
    · clear h
      have h2 : ((l.length : Int) == 0) = true := by rw [beq_iff_eq]; omega
      go_enter Try.func7, Try.ntmps7
      go_wp2_with fail
      refine (awake_any _).mono ?_
      rintro e w1 ⟨rfl, b1⟩
      go_wp2_with fail
      refine (awake_any _).mono ?_
      rintro e w2 ⟨rfl, b2⟩
      have hb2 := b1.trans (b2.mono b1.size)
      go_wp2_with fail
      go_ret
      exact ⟨rfl, hb2⟩
    · have H2 := Lib.hid h2
      have h2 : ((l.length : Int) == 0) = false := by rw [beq_eq_false_iff_ne]; omega
      by_cases h3 : 1000 < l.length
      · clear h
        go_enter Try.func7, Try.ntmps7
        go_wp2_with fail
        refine (awake_any _).mono ?_
        rintro e w1 ⟨rfl, b1⟩
        go_wp2_with fail
        refine (awake_any _).mono ?_
        rintro e w2 ⟨rfl, b2⟩
        have hb2 := b1.trans (b2.mono b1.size)
        go_wp2_with fail
        go_ret
        exact ⟨rfl, hb2⟩
      · have h4 : ((c.toNat : Int) == 0) = true := by
          rcases h with h | h | h | h
          · omega
          · exact absurd h H2.out
          · omega
          · rw [h]; rfl
        clear h
        go_enter Try.func7, Try.ntmps7
        go_wp2_with fail
        refine (awake_any _).mono ?_
        rintro e w1 ⟨rfl, b1⟩
        go_wp2_with fail
        refine (awake_any _).mono ?_
        rintro e w2 ⟨rfl, b2⟩
        have hb2 := b1.trans (b2.mono b1.size)
        go_wp2_with fail
        go_ret
        exact ⟨rfl, hb2⟩

theorem CrcTwo_walk (q s : ByteArray) (at_ c : Int) (w : World) (hq : q.size ≤ maxLen) (hs : s.size ≤ maxLen) (ha : W64 at_) (hc : (Lit.int .u8 c).wf = true) :
    Calls Try.prog 7 #[.string q, .string s, .int .i64 at_, .int .u8 c] w fun e w' => e = .returned (.bool true) ∧ Below w.heap.size w w' := by
  obtain ⟨p, rfl, hp⟩ := str_list q
  obtain ⟨l, rfl, hl⟩ := str_list s
  obtain ⟨c, rfl⟩ := u8_byte hc
  by_cases h : 1000 < p.length ∨ l.length = 0 ∨ 1000 < l.length ∨ c = 0
  · exact CrcTwo_out p l at_ c w (by omega) (by omega) h
  · exact CrcTwo_in p l at_ c w (by omega) (by omega) (by omega) (fun e => h (.inr (.inr (.inr e)))) ha


theorem CrcTwo_calls (H : Type) (enc : TypeId × Value → H) (W : World) (base : Nat) (args : Array Value) (ds gs : List (DataW H)) (before : List MemPlace)
    (hval : ∀ (j : Nat) t v, Try.f7.params[j]? = some t → args[j]? = some v → Value.okWide Try.prog W .any base t v)
    (hW : DataW.Whole enc Try.prog Try.f7.params.toList Rows.crcTwoSpec.vars false W args.toList ds gs before) :
    Calls Try.prog 7 args W fun e W' => e = .returned (.bool true) ∧ Below W.heap.size W W' := by
  obtain ⟨p, q, hA, hV, rfl, hfz, hnd⟩ := hW
  rw [Try.params7] at hA hval
  obtain ⟨v0, vs0, d0, ds0, p0, q0, hargs, rfl, rfl, h0, r0⟩ := trodAll_cons hA
  obtain ⟨v1, vs1, d1, ds1, p1, q1, rfl, rfl, rfl, h1, r1⟩ := trodAll_cons r0
  obtain ⟨v2, vs2, d2, ds2, p2, q2, rfl, rfl, rfl, h2, r2⟩ := trodAll_cons r1
  obtain ⟨v3, vs3, d3, ds3, p3, q3, rfl, rfl, rfl, h3, r3⟩ := trodAll_cons r2
  obtain ⟨rfl, rfl, rfl⟩ := trodAll_nil r3
  obtain rfl : args = #[v0, v1, v2, v3] := Array.toList_inj.1 hargs
  obtain ⟨x0, rfl, rfl, rfl, w0⟩ := open_string Try.underlying9 (hval 0 9 v0 rfl rfl) h0
  obtain ⟨x1, rfl, rfl, rfl, w1⟩ := open_string Try.underlying9 (hval 1 9 v1 rfl rfl) h1
  obtain ⟨x2, rfl, rfl, rfl, w2⟩ := open_int Try.underlying3 (hval 2 3 v2 rfl rfl) h2
  obtain ⟨x3, rfl, rfl, rfl, w3⟩ := open_int Try.underlying5 (hval 3 5 v3 rfl rfl) h3
  exact CrcTwo_walk x0 x1 x2 x3 W w0 w1 w2 w3

set_option maxRecDepth 100000 in
theorem CrcTwo_lifted (os : Os) (started : os.Started) (H : Type) (enc : TypeId × Value → H) :
    ReturnsInHanded {} Try.checked os 7 .any (Rows.crcTwoSpec.pre6 enc Try.prog Try.f7 Rows.crcTwoRow.domain false) (Rows.crcTwoSpec.post enc Try.prog Try.f7 false true false false) := by
  refine returnsInHanded_of_change (C := Try.checked) own started (by kernel_rfl) Try.func7
    (ChangeSpec.witness6 (enc := enc) (C := Try.checked) false ⟨#[], #[.string ByteArray.empty, .string ByteArray.empty, .int .i64 0, .int .u8 0], []⟩ 8 (by kernel_rfl) (by kernel_rfl) (by kernel_rfl) (by kernel_rfl)) ?_
  intro W base args ds gs before hval0 hW hcnd _
  have hval : ∀ (j : Nat) t v, Try.f7.params[j]? = some t → args[j]? = some v → Value.okWide Try.prog W .any base t v := hval0
  refine (CrcTwo_calls H enc W base args ds gs before hval hW).mono fun e W' ⟨he, bel⟩ => ?_
  exact ⟨_, he, law_post (ts := [9, 9, 3, 5]) (by rw [Try.params7]) (by intro t ht; simp only [List.mem_cons, List.not_mem_nil, or_false] at ht; rcases ht with rfl | rfl | rfl | rfl <;> exact ⟨by kernel_rfl, of_decide_eq_true (by kernel_rfl)⟩) hW rfl
    (fun ds h => by match ds, h with | [_, _, _, _], _ => rfl) (by kernel_rfl) bel⟩

theorem CrcTwo_over : Rows.crcTwoRow.holds Try.pinned (OpenSpec.ofChange Rows.crcTwoSpec) :=
  OpenClaim.holds_of_wide 7 Try.f7 rfl rfl rfl rfl rfl rfl rfl ⟨rfl, rfl, rfl, rfl, rfl⟩ rfl rfl rfl rfl rfl (by kernel_rfl) Try.func7 (by kernel_rfl)
    (of_decide_eq_true (by kernel_rfl)) (by unfold Func.isWrapper; first | (rw [if_pos (by decide +kernel)]; kernel_rfl) | (rw [if_neg (by decide +kernel)]; exact ⟨rfl, rfl⟩))
    (fun os started H enc _ => CrcTwo_lifted os started H enc)

/-- The statement. -/
theorem CrcTwo_proved : Rows.CrcTwoSaid := CrcTwo_over

end Go.Proofs.Ytpjaodbhjhgppaa
