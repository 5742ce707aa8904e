/- CodecOne: for every bytes and two numbers the law answers true. No condition. -/
import Derived.Test.YtkmcppnbbppokaaCodecWrites
import Derived.Test.YtkmcppnbbppokaaCodecLaws
namespace Go.Proofs.Ytkmcppnbbppokaa
open Go.RowKit Go.ChangeShapes Go.WideShapes Go.Joins
open Go.ChangeMaps (open_string shut_string)
set_option linter.unusedVariables false

set_option maxRecDepth 10000 in
set_option maxHeartbeats 1000000 in
/-- The law's last line. -/
theorem CodecOne_walk' (l : List UInt8) (p q : Nat) (w : World) (hl : l.length ≤ maxLen) (hp : F64 p) (hq : F64 q) :
    Calls Try.prog 6 #[.string ⟨l.toArray⟩, .int .u64 p, .int .u64 q] w fun e w' => e = .returned (.bool true) ∧ Below w.heap.size w w' := by
  unfold maxLen at hl
  by_cases h100 : 100 < l.length
  · go_enter Try.func6, Try.ntmps6
    go_wp2_with fail
    refine (awake_any _).mono ?_
    rintro e w1 ⟨rfl, b1⟩
    go_wp2_with fail
    refine (awake_any _).mono ?_
    rintro e w2 ⟨rfl, b2⟩
    have hb2 := b1.trans (b2.mono b1.size)
    go_wp2_with fail
    go_ret
    exact ⟨rfl, hb2⟩
  · have h100 : l.length ≤ 100 := by omega
    go_enter Try.func6, Try.ntmps6
    go_wp2_with fail
    refine (awake_any _).mono ?_
    rintro e w1 ⟨rfl, b1⟩
    go_wp2_with fail
    refine (read_any _ _).mono ?_
    rintro e w2 ⟨b, rfl, hR, hb, b2⟩
    have hb2 := b1.trans (b2.mono b1.size)
    have hbw : w.heap.size ≤ b := Nat.le_trans b1.size hb
    clear b1 b2 hb
    go_wp2_with fail
    refine (ruint_any (by exact hR) (by omega)).mono ?_
    rintro e w3 ⟨rfl, hR3, hg3⟩
    have hb3 := grown_below hb2 hg3 hbw
    clear hR hg3 hb2 hbw
    have hfacts := num_facts l
    have hcan : (num l).2.2 = 0 → enc (num l).1 = l.take (num l).2.1 := fun h => num_canon (by rw [← h])
    rw [rdU, if_pos rfl] at hR3
    rw [rdU, if_pos rfl]
    generalize num l = N at *
    obtain ⟨n, long, er⟩ := N
    simp only at hfacts hcan hR3 ⊢
    obtain ⟨hlong, hfit, _⟩ := hfacts
    have hne : p ≠ q → (enc p == enc q) = false ∧ ((p : Int) == (q : Int)) = false ∧ (p == q) = false := fun h => ⟨by simpa using fun e => h (enc_inj hp hq e), by simp; omega, by simpa using h⟩
    have HNE := Lib.hid hne
    clear hne
    by_cases h0 : er = 0
    · subst h0
      have hbe : (enc n == ((⟨l.toArray⟩ : ByteArray).extract 0 (l.length - (l.length - long))).toList) = true := by
        rw [hcan rfl, ByteArray.extract_mk, ByteArray.toList_mk]
        simp
        congr 1
        omega
      clear hcan
      go_wp2_with fail
      refine (err_any (by exact hR3)).mono ?_
      rintro e w' ⟨rfl, rfl⟩
      go_wp2_with fail
      refine (cuint_any n hfit _).mono ?_
      rintro e w4 ⟨rfl, b4⟩
      have hR4 := hR3.below b4
      have hb4 := hb3.trans (b4.mono hb3.size)
      clear hR3 b4 hb3
      go_wp2_with fail
      refine (left_any (by exact hR4)).mono ?_
      rintro e w' ⟨rfl, rfl⟩
      have HL := Lib.hid (show leftOf (l.drop long) ((0 : Nat) : Int) = (l.length : Int) - long by rw [leftOf, if_pos (by rfl), List.length_drop]; omega)
      rw [HL.out]
      go_wp2_with fail
      refine (cuint_any p hp _).mono ?_
      rintro e w5 ⟨rfl, b5⟩
      have hb5 := hb4.trans (b5.mono hb4.size)
      clear b5 hb4
      go_wp2_with fail
      refine (cuint_any q hq _).mono ?_
      rintro e w6 ⟨rfl, b6⟩
      have hb6 := hb5.trans (b6.mono hb5.size)
      clear b6 hb5
      by_cases hpq : p = q
      · subst hpq
        go_wp2_with fail
        refine (ruint_nil _).mono ?_
        rintro e w' ⟨rfl, rfl⟩
        go_wp2_with fail
        refine (rstr_nil _ _).mono ?_
        rintro e w' ⟨rfl, rfl⟩
        go_wp2_with fail
        refine (err_nil _).mono ?_
        rintro e w' ⟨rfl, rfl⟩
        go_wp2_with fail
        refine (left_nil _).mono ?_
        rintro e w' ⟨rfl, rfl⟩
        go_wp2_with fail
        go_ret
        exact ⟨rfl, hb6⟩
      · obtain ⟨x1, x2, x3⟩ := HNE.out hpq
        clear hpq
        go_wp2_with fail
        refine (ruint_nil _).mono ?_
        rintro e w' ⟨rfl, rfl⟩
        go_wp2_with fail
        refine (rstr_nil _ _).mono ?_
        rintro e w' ⟨rfl, rfl⟩
        go_wp2_with fail
        refine (err_nil _).mono ?_
        rintro e w' ⟨rfl, rfl⟩
        go_wp2_with fail
        refine (left_nil _).mono ?_
        rintro e w' ⟨rfl, rfl⟩
        go_wp2_with fail
        go_ret
        exact ⟨rfl, hb6⟩
    · have h0' : ((er : Int) == 0) = false := by simp; omega
      clear hcan
      have hb4 := hb3
      clear hb3
      go_wp2_with fail
      refine (err_any (by exact hR3)).mono ?_
      rintro e w' ⟨rfl, rfl⟩
      go_wp2_with fail
      refine (cuint_any p hp _).mono ?_
      rintro e w5 ⟨rfl, b5⟩
      have hb5 := hb4.trans (b5.mono hb4.size)
      clear b5 hb4
      go_wp2_with fail
      refine (cuint_any q hq _).mono ?_
      rintro e w6 ⟨rfl, b6⟩
      have hb6 := hb5.trans (b6.mono hb5.size)
      clear b6 hb5
      by_cases hpq : p = q
      · subst hpq
        go_wp2_with fail
        refine (ruint_nil _).mono ?_
        rintro e w' ⟨rfl, rfl⟩
        go_wp2_with fail
        refine (rstr_nil _ _).mono ?_
        rintro e w' ⟨rfl, rfl⟩
        go_wp2_with fail
        refine (err_nil _).mono ?_
        rintro e w' ⟨rfl, rfl⟩
        go_wp2_with fail
        refine (left_nil _).mono ?_
        rintro e w' ⟨rfl, rfl⟩
        go_wp2_with fail
        go_ret
        exact ⟨rfl, hb6⟩
      · obtain ⟨x1, x2, x3⟩ := HNE.out hpq
        clear hpq
        go_wp2_with fail
        refine (ruint_nil _).mono ?_
        rintro e w' ⟨rfl, rfl⟩
        go_wp2_with fail
        refine (rstr_nil _ _).mono ?_
        rintro e w' ⟨rfl, rfl⟩
        go_wp2_with fail
        refine (err_nil _).mono ?_
        rintro e w' ⟨rfl, rfl⟩
        go_wp2_with fail
        refine (left_nil _).mono ?_
        rintro e w' ⟨rfl, rfl⟩
        go_wp2_with fail
        go_ret
        exact ⟨rfl, hb6⟩

theorem CodecOne_walk (s : ByteArray) (n m : Int) (w : World) (hs : s.size ≤ maxLen) (hn : (Lit.int .u64 n).wf = true) (hm : (Lit.int .u64 m).wf = true) :
    Calls Try.prog 6 #[.string s, .int .u64 n, .int .u64 m] w fun e w' => e = .returned (.bool true) ∧ Below w.heap.size w w' := by
  obtain ⟨a, rfl, ha⟩ := u64_nat hn
  obtain ⟨b, rfl, hb⟩ := u64_nat hm
  obtain ⟨l, rfl, hl⟩ := str_list s
  exact CodecOne_walk' l a b w (by omega) ha hb


theorem CodecOne_calls (H : Type) (enc : TypeId × Value → H) (W : World) (base : Nat) (args : Array Value) (ds gs : List (DataW H)) (before : List MemPlace)
    (hval : ∀ (j : Nat) t v, Try.f6.params[j]? = some t → args[j]? = some v → Value.okWide Try.prog W .any base t v)
    (hW : DataW.Whole enc Try.prog Try.f6.params.toList Rows.codecOneSpec.vars false W args.toList ds gs before) :
    Calls Try.prog 6 args W fun e W' => e = .returned (.bool true) ∧ Below W.heap.size W W' := by
  obtain ⟨p, q, hA, hV, rfl, hfz, hnd⟩ := hW
  rw [Try.params6] at hA hval
  obtain ⟨v0, vs0, d0, ds0, p0, q0, hargs, rfl, rfl, h0, r0⟩ := trodAll_cons hA
  obtain ⟨v1, vs1, d1, ds1, p1, q1, rfl, rfl, rfl, h1, r1⟩ := trodAll_cons r0
  obtain ⟨v2, vs2, d2, ds2, p2, q2, rfl, rfl, rfl, h2, r2⟩ := trodAll_cons r1
  obtain ⟨rfl, rfl, rfl⟩ := trodAll_nil r2
  obtain rfl : args = #[v0, v1, v2] := Array.toList_inj.1 hargs
  obtain ⟨x0, rfl, rfl, rfl, w0⟩ := open_string Try.underlying9 (hval 0 9 v0 rfl rfl) h0
  obtain ⟨x1, rfl, rfl, rfl, w1⟩ := open_int Try.underlying22 (hval 1 22 v1 rfl rfl) h1
  obtain ⟨x2, rfl, rfl, rfl, w2⟩ := open_int Try.underlying22 (hval 2 22 v2 rfl rfl) h2
  exact CodecOne_walk x0 x1 x2 W w0 w1 w2

set_option maxRecDepth 100000 in
theorem CodecOne_lifted (os : Os) (started : os.Started) (H : Type) (enc : TypeId × Value → H) :
    ReturnsInHanded {} Try.checked os 6 .any (Rows.codecOneSpec.pre6 enc Try.prog Try.f6 Rows.codecOneRow.domain false) (Rows.codecOneSpec.post enc Try.prog Try.f6 false true false false) := by
  refine returnsInHanded_of_change (C := Try.checked) own started (by kernel_rfl) Try.func6
    (ChangeSpec.witness6 (enc := enc) (C := Try.checked) false ⟨#[], #[.string ByteArray.empty, .int .u64 0, .int .u64 0], []⟩ 8 (by kernel_rfl) (by kernel_rfl) (by kernel_rfl) (by kernel_rfl)) ?_
  intro W base args ds gs before hval0 hW hcnd _
  have hval : ∀ (j : Nat) t v, Try.f6.params[j]? = some t → args[j]? = some v → Value.okWide Try.prog W .any base t v := hval0
  refine (CodecOne_calls H enc W base args ds gs before hval hW).mono fun e W' ⟨he, bel⟩ => ?_
  exact ⟨_, he, law_post (ts := [9, 22, 22]) (by rw [Try.params6]) (by intro t ht; simp only [List.mem_cons, List.not_mem_nil, or_false] at ht; rcases ht with rfl | rfl | rfl <;> exact ⟨by kernel_rfl, of_decide_eq_true (by kernel_rfl)⟩) hW rfl
    (fun ds h => by match ds, h with | [_, _, _], _ => rfl) (by kernel_rfl) bel⟩

theorem CodecOne_over : Rows.codecOneRow.holds Try.pinned (OpenSpec.ofChange Rows.codecOneSpec) :=
  OpenClaim.holds_of_wide 6 Try.f6 rfl rfl rfl rfl rfl rfl rfl ⟨rfl, rfl, rfl, rfl, rfl⟩ rfl rfl rfl rfl rfl (by kernel_rfl) Try.func6 (by kernel_rfl)
    (of_decide_eq_true (by kernel_rfl)) (by unfold Func.isWrapper; first | (rw [if_pos (by decide +kernel)]; kernel_rfl) | (rw [if_neg (by decide +kernel)]; exact ⟨rfl, rfl⟩))
    (fun os started H enc _ => CodecOne_lifted os started H enc)

/-- The statement. -/
theorem CodecOne_proved : Rows.CodecOneSaid := CodecOne_over

end Go.Proofs.Ytkmcppnbbppokaa
