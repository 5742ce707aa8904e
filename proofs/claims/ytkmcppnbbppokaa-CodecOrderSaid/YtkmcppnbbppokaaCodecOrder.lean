/- CodecOrder: for every two numbers and number with a sign the law answers true. No condition. -/
import Derived.Test.YtkmcppnbbppokaaCodecWrites
namespace Go.Proofs.Ytkmcppnbbppokaa
open Go.RowKit Go.ChangeShapes Go.WideShapes Go.Joins
open Go.ChangeMaps (open_string shut_string)
set_option linter.unusedVariables false

theorem ret_bool {x y : Bool} (h : x = y) : Ending.returned (.bool x) = .returned (.bool y) := by rw [h]

theorem ord1 {z : Nat} (h : ¬ z = 1) : (!((z : Int) == 1)) = true := by simp; omega
theorem ord2 {z : Nat} (h : ¬ z = 1) : (((z : Int) == 1) == false) = true := by simp; omega
theorem ord3 {z : Nat} (h : z = 1) : ((z : Int) == 1) = true := by simp [h]
theorem ord4 {z : Nat} {i : Int} (h : z = 1) (g : i < 64) : (((z : Int) == 1) == decide (i < 64)) = true := by simp [h, g]
theorem ord5 {z : Nat} {i : Int} (h : ¬ z = 1) (g : 64 ≤ i) : (((z : Int) == 1) == decide (i < 64)) = true := by
  have : ¬ i < 64 := by omega
  simp [this]
  omega

theorem encF_mono : ∀ (k a b : Nat), a ≤ b → (encF k a).length ≤ (encF k b).length
  | 0, a, b, _ => by simp [encF]
  | k + 1, a, b, h => by
    by_cases ha : a < 128
    · rw [encF_small ha]
      exact (encF_len _ b).1
    · rw [encF_big (by omega), encF_big (by omega)]
      simp only [List.length_cons]
      have := encF_mono k (a / 128) (b / 128) (by omega)
      omega
theorem enc_one (n : Nat) : (enc n).length = 1 ↔ n < 128 := by
  constructor
  · intro h
    by_cases hn : n < 128
    · exact hn
    · rw [enc, encF_big (by omega)] at h
      simp only [List.length_cons] at h
      have := (encF_len 8 (n / 128)).1
      omega
  · intro h
    rw [enc, encF_small h]
    rfl
theorem enc_lt {a b : Nat} (h : (enc a).length < (enc b).length) : a < b := by
  by_cases hab : a < b
  · exact hab
  · have := encF_mono 9 b a (by omega)
    unfold enc at h
    omega

set_option maxRecDepth 10000 in
set_option maxHeartbeats 1000000 in
theorem CodecOrder_walk' (n m : Nat) (i : Int) (w : World) (hn : F64 n) (hm : F64 m) (hi : W64 i) :
    Calls Try.prog 8 #[.int .u64 n, .int .u64 m, .int .i64 i] w fun e w' => e = .returned (.bool true) ∧ Below w.heap.size w w' := by
  have x1 := (enc_len n).2
  have x2 := (enc_len m).2
  have x3 := (enc_len (zig i)).2
  have y1 : (enc n).length < (enc m).length → n < m := enc_lt
  have y2 : (enc m).length < (enc n).length → m < n := enc_lt
  have y3 : (enc (zig i)).length = 1 ↔ (-64 ≤ i ∧ i < 64) := by
    rw [enc_one]
    unfold zig
    split <;> omega
  have Y1 := Lib.hid y1
  have Y2 := Lib.hid y2
  have Y3 := Lib.hid y3
  clear y1 y2 y3
  go_enter Try.func8, Try.ntmps8
  go_wp2_with fail
  refine (awake_any _).mono ?_
  rintro e w1 ⟨rfl, b1⟩
  go_wp2_with fail
  refine (cuint_any n hn _).mono ?_
  rintro e w2 ⟨rfl, b2⟩
  go_wp2_with fail
  refine (cuint_any m hm _).mono ?_
  rintro e w3 ⟨rfl, b3⟩
  have hb2 := b1.trans (b2.mono b1.size)
  have hb3 := hb2.trans (b3.mono hb2.size)
  clear b1 b2 b3 hb2
  by_cases h1 : (enc n).length < (enc m).length
  · have g1 : decide (n < m) = true := decide_eq_true (Y1.out h1)
    have d1 : decide ((enc m).length ≤ (enc n).length) = false := decide_eq_false (by omega)
    have d2 : decide ((enc n).length ≤ (enc m).length) = true := decide_eq_true (by omega)
    clear h1
    go_wp2_with fail
    refine (cint_any i hi _).mono ?_
    rintro e w4 ⟨rfl, b4⟩
    have hb4 := hb3.trans (b4.mono hb3.size)
    clear b4 hb3
    have h64 : i < -64 ∨ (-64 ≤ i ∧ i < 64) ∨ 64 ≤ i := by omega
    rcases h64 with g | ⟨g1, g2⟩ | g
    · have HZ := Lib.hid (ord1 (mt Y3.out.1 (by omega)))
      have HZ2 := Lib.hid (ord2 (mt Y3.out.1 (by omega)))
      go_wp2_with fail
      go_ret
      first | exact ⟨rfl, hb4⟩ | exact ⟨ret_bool HZ.out, hb4⟩ | exact ⟨ret_bool HZ2.out, hb4⟩
    · have HZ := Lib.hid (ord3 (Y3.out.2 ⟨g1, g2⟩))
      have HZ2 := Lib.hid (ord4 (Y3.out.2 ⟨g1, g2⟩) g2)
      go_wp2_with fail
      go_ret
      first | exact ⟨rfl, hb4⟩ | exact ⟨ret_bool HZ.out, hb4⟩ | exact ⟨ret_bool HZ2.out, hb4⟩
    · have HZ := Lib.hid (ord1 (mt Y3.out.1 (by omega)))
      have HZ2 := Lib.hid (ord5 (mt Y3.out.1 (by omega)) g)
      go_wp2_with fail
      go_ret
      first | exact ⟨rfl, hb4⟩ | exact ⟨ret_bool HZ.out, hb4⟩ | exact ⟨ret_bool HZ2.out, hb4⟩
  · have d1 : decide ((enc m).length ≤ (enc n).length) = true := decide_eq_true (by omega)
    by_cases h2 : (enc m).length < (enc n).length
    · have g2 : decide (m < n) = true := decide_eq_true (Y2.out h2)
      have d2 : decide ((enc n).length ≤ (enc m).length) = false := decide_eq_false (by omega)
      clear h1 h2
      go_wp2_with fail
      refine (cint_any i hi _).mono ?_
      rintro e w4 ⟨rfl, b4⟩
      have hb4 := hb3.trans (b4.mono hb3.size)
      clear b4 hb3
      have h64 : i < -64 ∨ (-64 ≤ i ∧ i < 64) ∨ 64 ≤ i := by omega
      rcases h64 with g | ⟨g1, g2⟩ | g
      · have HZ := Lib.hid (ord1 (mt Y3.out.1 (by omega)))
        have HZ2 := Lib.hid (ord2 (mt Y3.out.1 (by omega)))
        go_wp2_with fail
        go_ret
        first | exact ⟨rfl, hb4⟩ | exact ⟨ret_bool HZ.out, hb4⟩ | exact ⟨ret_bool HZ2.out, hb4⟩
      · have HZ := Lib.hid (ord3 (Y3.out.2 ⟨g1, g2⟩))
        have HZ2 := Lib.hid (ord4 (Y3.out.2 ⟨g1, g2⟩) g2)
        go_wp2_with fail
        go_ret
        first | exact ⟨rfl, hb4⟩ | exact ⟨ret_bool HZ.out, hb4⟩ | exact ⟨ret_bool HZ2.out, hb4⟩
      · have HZ := Lib.hid (ord1 (mt Y3.out.1 (by omega)))
        have HZ2 := Lib.hid (ord5 (mt Y3.out.1 (by omega)) g)
        go_wp2_with fail
        go_ret
        first | exact ⟨rfl, hb4⟩ | exact ⟨ret_bool HZ.out, hb4⟩ | exact ⟨ret_bool HZ2.out, hb4⟩
    · have d2 : decide ((enc n).length ≤ (enc m).length) = true := decide_eq_true (by omega)
      clear h1 h2
      go_wp2_with fail
      refine (cint_any i hi _).mono ?_
      rintro e w4 ⟨rfl, b4⟩
      have hb4 := hb3.trans (b4.mono hb3.size)
      clear b4 hb3
      have h64 : i < -64 ∨ (-64 ≤ i ∧ i < 64) ∨ 64 ≤ i := by omega
      rcases h64 with g | ⟨g1, g2⟩ | g
      · have HZ := Lib.hid (ord1 (mt Y3.out.1 (by omega)))
        have HZ2 := Lib.hid (ord2 (mt Y3.out.1 (by omega)))
        go_wp2_with fail
        go_ret
        first | exact ⟨rfl, hb4⟩ | exact ⟨ret_bool HZ.out, hb4⟩ | exact ⟨ret_bool HZ2.out, hb4⟩
      · have HZ := Lib.hid (ord3 (Y3.out.2 ⟨g1, g2⟩))
        have HZ2 := Lib.hid (ord4 (Y3.out.2 ⟨g1, g2⟩) g2)
        go_wp2_with fail
        go_ret
        first | exact ⟨rfl, hb4⟩ | exact ⟨ret_bool HZ.out, hb4⟩ | exact ⟨ret_bool HZ2.out, hb4⟩
      · have HZ := Lib.hid (ord1 (mt Y3.out.1 (by omega)))
        have HZ2 := Lib.hid (ord5 (mt Y3.out.1 (by omega)) g)
        go_wp2_with fail
        go_ret
        first | exact ⟨rfl, hb4⟩ | exact ⟨ret_bool HZ.out, hb4⟩ | exact ⟨ret_bool HZ2.out, hb4⟩

theorem CodecOrder_walk (n m i : Int) (w : World) (hn : (Lit.int .u64 n).wf = true) (hm : (Lit.int .u64 m).wf = true) (hi : W64 i) :
    Calls Try.prog 8 #[.int .u64 n, .int .u64 m, .int .i64 i] w fun e w' => e = .returned (.bool true) ∧ Below w.heap.size w w' := by
  obtain ⟨a, rfl, ha⟩ := u64_nat hn
  obtain ⟨b, rfl, hb⟩ := u64_nat hm
  exact CodecOrder_walk' a b i w ha hb hi


theorem CodecOrder_calls (H : Type) (enc : TypeId × Value → H) (W : World) (base : Nat) (args : Array Value) (ds gs : List (DataW H)) (before : List MemPlace)
    (hval : ∀ (j : Nat) t v, Try.f8.params[j]? = some t → args[j]? = some v → Value.okWide Try.prog W .any base t v)
    (hW : DataW.Whole enc Try.prog Try.f8.params.toList Rows.codecOrderSpec.vars false W args.toList ds gs before) :
    Calls Try.prog 8 args W fun e W' => e = .returned (.bool true) ∧ Below W.heap.size W W' := by
  obtain ⟨p, q, hA, hV, rfl, hfz, hnd⟩ := hW
  rw [Try.params8] at hA hval
  obtain ⟨v0, vs0, d0, ds0, p0, q0, hargs, rfl, rfl, h0, r0⟩ := trodAll_cons hA
  obtain ⟨v1, vs1, d1, ds1, p1, q1, rfl, rfl, rfl, h1, r1⟩ := trodAll_cons r0
  obtain ⟨v2, vs2, d2, ds2, p2, q2, rfl, rfl, rfl, h2, r2⟩ := trodAll_cons r1
  obtain ⟨rfl, rfl, rfl⟩ := trodAll_nil r2
  obtain rfl : args = #[v0, v1, v2] := Array.toList_inj.1 hargs
  obtain ⟨x0, rfl, rfl, rfl, w0⟩ := open_int Try.underlying22 (hval 0 22 v0 rfl rfl) h0
  obtain ⟨x1, rfl, rfl, rfl, w1⟩ := open_int Try.underlying22 (hval 1 22 v1 rfl rfl) h1
  obtain ⟨x2, rfl, rfl, rfl, w2⟩ := open_int Try.underlying3 (hval 2 3 v2 rfl rfl) h2
  exact CodecOrder_walk x0 x1 x2 W w0 w1 w2

set_option maxRecDepth 100000 in
theorem CodecOrder_lifted (os : Os) (started : os.Started) (H : Type) (enc : TypeId × Value → H) :
    ReturnsInHanded {} Try.checked os 8 .any (Rows.codecOrderSpec.pre6 enc Try.prog Try.f8 Rows.codecOrderRow.domain false) (Rows.codecOrderSpec.post enc Try.prog Try.f8 false true false false) := by
  refine returnsInHanded_of_change (C := Try.checked) own started (by kernel_rfl) Try.func8
    (ChangeSpec.witness6 (enc := enc) (C := Try.checked) false ⟨#[], #[.int .u64 0, .int .u64 0, .int .i64 0], []⟩ 8 (by kernel_rfl) (by kernel_rfl) (by kernel_rfl) (by kernel_rfl)) ?_
  intro W base args ds gs before hval0 hW hcnd _
  have hval : ∀ (j : Nat) t v, Try.f8.params[j]? = some t → args[j]? = some v → Value.okWide Try.prog W .any base t v := hval0
  refine (CodecOrder_calls H enc W base args ds gs before hval hW).mono fun e W' ⟨he, bel⟩ => ?_
  exact ⟨_, he, law_post (ts := [22, 22, 3]) (by rw [Try.params8]) (by intro t ht; simp only [List.mem_cons, List.not_mem_nil, or_false] at ht; rcases ht with rfl | rfl | rfl <;> exact ⟨by kernel_rfl, of_decide_eq_true (by kernel_rfl)⟩) hW rfl
    (fun ds h => by match ds, h with | [_, _, _], _ => rfl) (by kernel_rfl) bel⟩

theorem CodecOrder_over : Rows.codecOrderRow.holds Try.pinned (OpenSpec.ofChange Rows.codecOrderSpec) :=
  OpenClaim.holds_of_wide 8 Try.f8 rfl rfl rfl rfl rfl rfl rfl ⟨rfl, rfl, rfl, rfl, rfl⟩ rfl rfl rfl rfl rfl (by kernel_rfl) Try.func8 (by kernel_rfl)
    (of_decide_eq_true (by kernel_rfl)) (by unfold Func.isWrapper; first | (rw [if_pos (by decide +kernel)]; kernel_rfl) | (rw [if_neg (by decide +kernel)]; exact ⟨rfl, rfl⟩))
    (fun os started H enc _ => CodecOrder_lifted os started H enc)

/-- The statement. -/
theorem CodecOrder_proved : Rows.CodecOrderSaid := CodecOrder_over

end Go.Proofs.Ytkmcppnbbppokaa
