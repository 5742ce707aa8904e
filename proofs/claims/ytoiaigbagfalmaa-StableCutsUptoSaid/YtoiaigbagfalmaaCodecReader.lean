/- The contracts of the reader's methods: what each reads, and what is left. -/
import Derived.Test.YtoiaigbagfalmaaCodecNum
namespace Go.Proofs.Ytoiaigbagfalmaa
open Go.RowKit Go.ChangeShapes Go.WideShapes Go.Joins
set_option linter.unusedVariables false

theorem scan_facts : ∀ (l : List UInt8) (i acc : Nat), i ≤ 9 → acc < 128 ^ i → (scan l i acc).2.1 ≤ i + l.length ∧ (scan l i acc).1 < 18446744073709551616 ∧
    ((scan l i acc).2.2 = 0 ∧ i < (scan l i acc).2.1 ∨ (scan l i acc).2.2 ≠ 0 ∧ (scan l i acc).2.2 ≤ 4 ∧ (scan l i acc).1 = 0 ∧ (scan l i acc).2.1 = 0)
  | [], i, acc, hi, ha => by simp [scan]
  | c :: r, i, acc, hi, ha => by
    have hp : (128 : Nat) ^ i ≤ 9223372036854775808 := Nat.le_trans (Nat.pow_le_pow_right (by omega) hi) (by decide)
    unfold scan
    split
    · simp
    · rename_i h1
      split
      · rename_i h2
        have hv : acc + c.toNat % 128 * 128 ^ i < 18446744073709551616 := by
          by_cases h : i = 9
          · have h3 : c.toNat % 128 ≤ 1 := by omega
            have := Nat.mul_le_mul h3 hp
            omega
          · have h3 := acc_next (c := c.toNat) ha (by omega)
            have hp8 : (128 : Nat) ^ (i + 1) ≤ 9223372036854775808 := Nat.le_trans (Nat.pow_le_pow_right (by omega) (show i + 1 ≤ 9 by omega)) (by decide)
            omega
        refine ⟨by simp, hv, .inl ⟨rfl, by simp⟩⟩
      · rename_i h2
        have h9 : i ≠ 9 := by
          rintro rfl
          omega
        have := scan_facts r (i + 1) (acc + c.toNat % 128 * 128 ^ i) (by omega) (acc_next ha (by omega))
        refine ⟨by simp only [List.length_cons]; omega, this.2.1, ?_⟩
        rcases this.2.2 with h | h
        · exact .inl ⟨h.1, by omega⟩
        · exact .inr h

theorem num_facts (l : List UInt8) : (num l).2.1 ≤ l.length ∧ F64 (num l).1 ∧ ((num l).2.2 = 0 ∧ 0 < (num l).2.1 ∨ (num l).2.2 ≠ 0 ∧ (num l).2.2 ≤ 4 ∧ (num l).1 = 0 ∧ (num l).2.1 = 0) := by
  have := scan_facts l 0 0 (by omega) (by decide)
  simpa [num, F64] using this

/-- What Uint reads: the number, what is left, the error. -/
def rdU (l : List UInt8) (e : Int) : Nat × List UInt8 × Int := if e = 0 then ((num l).1, l.drop (num l).2.1, ((num l).2.2 : Int)) else (0, l, e)

/-- A number without a sign, as one with. -/
def zag (n : Nat) : Int := if n % 2 = 0 then (n / 2 : Nat) else -((n / 2 : Nat) : Int) - 1

theorem xor_neg_one (x : Nat) (hx : x < 9223372036854775808) : bits .xor .i64 (x : Int) (-1) = -(x : Int) - 1 := by
  show IntKind.i64.wrap ((BitVec.ofInt 64 (x : Int) ^^^ BitVec.ofInt 64 (-1)).toNat : Int) = _
  have e : BitVec.ofInt 64 (-1) = BitVec.allOnes 64 := by decide
  rw [e, BitVec.xor_allOnes, BitVec.toNat_not, ofInt_u64 x (by omega), IntKind.wrap_i64]
  omega
theorem xor_zero_i64 (x : Nat) (hx : x < 9223372036854775808) : bits .xor .i64 (x : Int) 0 = (x : Int) := by
  show IntKind.i64.wrap ((BitVec.ofInt 64 (x : Int) ^^^ BitVec.ofInt 64 0).toNat : Int) = _
  have e : BitVec.ofInt 64 0 = 0#64 := by decide
  rw [e, BitVec.xor_zero, ofInt_u64 x (by omega), IntKind.wrap_i64]
  omega

theorem zag_code (n : Nat) (hn : F64 n) : bits .xor .i64 (wrap64 ((n : Int) / 2)) (wrap64 (-wrap64 (bits .and .u64 (n : Int) 1))) = zag n := by
  unfold F64 at hn
  have e1 : bits .and .u64 (n : Int) 1 = ((n % 2 : Nat) : Int) := by
    have := u64_and_nat n 1 hn (by omega)
    rw [show ((1 : Nat) : Int) = 1 from rfl] at this
    rw [this, Nat.and_one_is_mod]
  have e2 : wrap64 ((n : Int) / 2) = ((n / 2 : Nat) : Int) := by
    rw [IntWalk.wrap64_in _ ⟨by omega, by omega⟩]
    omega
  rw [e1, e2, IntWalk.wrap64_in ((n % 2 : Nat) : Int) ⟨by omega, by omega⟩]
  unfold zag
  split
  · rename_i h
    rw [h, show wrap64 (-((0 : Nat) : Int)) = 0 by rw [IntWalk.wrap64_in _ ⟨by omega, by omega⟩]; rfl]
    exact xor_zero_i64 (n / 2) (by omega)
  · rename_i h
    have h1 : n % 2 = 1 := by omega
    rw [h1, show wrap64 (-((1 : Nat) : Int)) = -1 by rw [IntWalk.wrap64_in _ ⟨by omega, by omega⟩]; rfl]
    exact xor_neg_one (n / 2) (by omega)

/-- What Byte reads. -/
def rdB (l : List UInt8) (e : Int) : Nat × List UInt8 × Int := if e = 0 then (match l with | [] => (0, [], 4) | c :: r => (c.toNat, r, 0)) else (0, l, e)

/-- What is wrong with a text that says to have n bytes, of which 'have' are there. -/
def strErr (n er have_ : Nat) (most : Int) : Int := if er ≠ 0 then er else if most < 0 ∨ most < n then 15 else if have_ < n then 4 else 0
/-- What Str reads: the text, what is left, the error. -/
def rdS (l : List UInt8) (e most : Int) : List UInt8 × List UInt8 × Int :=
  if e ≠ 0 then ([], l, e)
  else if strErr (num l).1 (num l).2.2 (l.length - (num l).2.1) most ≠ 0 then ([], l, strErr (num l).1 (num l).2.2 (l.length - (num l).2.1) most)
  else ((l.drop (num l).2.1).take (num l).1, l.drop ((num l).2.1 + (num l).1), 0)

set_option maxRecDepth 10000 in
set_option maxHeartbeats 1000000 in
theorem rstr_bad {w : World} {b : Nat} {l : List UInt8} {most : Int} (h : RdAt w b l 0) (hl : l.length ≤ 1000000) (hm : W64 most) (hbad : strErr (num l).1 (num l).2.2 (l.length - (num l).2.1) most ≠ 0) :
    Calls Try.prog 30 #[.pointer (some ⟨b, 0, none⟩), .int .i64 most] w fun en w' => en = .returned (.string ⟨([] : List UInt8).toArray⟩) ∧ RdAt w' b l (strErr (num l).1 (num l).2.2 (l.length - (num l).2.1) most) ∧ w.grownBy w' (some b) := by
  obtain ⟨hlong, hfit, hf3⟩ := num_facts l
  have hc := h.cell0
  have HX := Lib.hid h
  have HMB := Lib.hid hm.bd
  have HNA := Lib.hid (number_any l hl)
  clear hm
  generalize num l = N at *
  obtain ⟨n, long, er⟩ := N
  simp only at hlong hfit hf3 hbad HNA ⊢
  have HF := Lib.hid hfit
  clear hfit
  by_cases h1 : er = 0
  · subst h1
    have hpos : 0 < long := by omega
    clear hf3
    by_cases h2 : most < 0
    · have HE := Lib.hid (show strErr n 0 (l.length - long) most = 15 by simp [strErr, h2])
      clear hbad
      by_cases h3 : n = 0
      · subst h3
        go_enter Try.func30, Try.ntmps30
        (go_wp2_with fail; refine (err_any (by exact h)).mono ?_; rintro en w' ⟨rfl, rfl⟩; clear h; go_wp2_with fail; refine (HNA.out _).mono ?_; rintro en w' ⟨rfl, rfl⟩; go_wp2_with fail; refine (fail_any (by exact HX.out)).mono ?_; rintro en w1 ⟨rfl, hR, hg⟩; go_wp2_with fail; go_ret; rw [HE.out]; exact ⟨rfl, hR, hg⟩)
      · have h3 : (0 : Int) < n := by omega
        go_enter Try.func30, Try.ntmps30
        (go_wp2_with fail; refine (err_any (by exact h)).mono ?_; rintro en w' ⟨rfl, rfl⟩; clear h; go_wp2_with fail; refine (HNA.out _).mono ?_; rintro en w' ⟨rfl, rfl⟩; go_wp2_with fail; refine (fail_any (by exact HX.out)).mono ?_; rintro en w1 ⟨rfl, hR, hg⟩; go_wp2_with fail; go_ret; rw [HE.out]; exact ⟨rfl, hR, hg⟩)
    · have h2 : 0 ≤ most := by omega
      have hmw : IntKind.u64.wrap most = most := by rw [IntKind.wrap_u64]; have := HMB.out; omega
      by_cases h3 : most < n
      · have HE := Lib.hid (show strErr n 0 (l.length - long) most = 15 by simp [strErr, h3])
        clear hbad
        go_enter Try.func30, Try.ntmps30
        (go_wp2_with fail; refine (err_any (by exact h)).mono ?_; rintro en w' ⟨rfl, rfl⟩; clear h; go_wp2_with fail; refine (HNA.out _).mono ?_; rintro en w' ⟨rfl, rfl⟩; go_wp2_with fail; refine (fail_any (by exact HX.out)).mono ?_; rintro en w1 ⟨rfl, hR, hg⟩; go_wp2_with fail; go_ret; rw [HE.out]; exact ⟨rfl, hR, hg⟩)
      · have h4 : l.length - long < n := by
          by_cases h4 : l.length - long < n
          · exact h4
          · exact absurd (by simp [strErr, h3, h4]; omega) hbad
        have HE := Lib.hid (show strErr n 0 (l.length - long) most = 4 by simp [strErr, h3, h4]; omega)
        have h3 : (n : Int) ≤ most := by omega
        have h4 : (l.length : Int) - long < n := by omega
        clear hbad
        go_enter Try.func30, Try.ntmps30
        (go_wp2_with fail; refine (err_any (by exact h)).mono ?_; rintro en w' ⟨rfl, rfl⟩; clear h; go_wp2_with fail; refine (HNA.out _).mono ?_; rintro en w' ⟨rfl, rfl⟩; go_wp2_with fail; refine (fail_any (by exact HX.out)).mono ?_; rintro en w1 ⟨rfl, hR, hg⟩; go_wp2_with fail; go_ret; rw [HE.out]; exact ⟨rfl, hR, hg⟩)
  · have HE := Lib.hid (show strErr n er (l.length - long) most = er by simp [strErr, h1])
    have h1 : ((er : Int) == 0) = false := by simp; omega
    clear hbad
    go_enter Try.func30, Try.ntmps30
    (go_wp2_with fail; refine (err_any (by exact h)).mono ?_; rintro en w' ⟨rfl, rfl⟩; clear h; go_wp2_with fail; refine (HNA.out _).mono ?_; rintro en w' ⟨rfl, rfl⟩; go_wp2_with fail; refine (fail_any (by exact HX.out)).mono ?_; rintro en w1 ⟨rfl, hR, hg⟩; go_wp2_with fail; go_ret; rw [HE.out]; exact ⟨rfl, hR, hg⟩)

set_option maxRecDepth 10000 in
set_option maxHeartbeats 1000000 in
theorem rstr_good {w : World} {b : Nat} {l : List UInt8} {most : Int} (h : RdAt w b l 0) (hl : l.length ≤ 1000000) (hm : W64 most) (hgood : strErr (num l).1 (num l).2.2 (l.length - (num l).2.1) most = 0) :
    Calls Try.prog 30 #[.pointer (some ⟨b, 0, none⟩), .int .i64 most] w fun en w' => en = .returned (.string ⟨((l.drop (num l).2.1).take (num l).1).toArray⟩) ∧ RdAt w' b (l.drop ((num l).2.1 + (num l).1)) 0 ∧ w.grownBy w' (some b) := by
  obtain ⟨hlong, hfit, hf3⟩ := num_facts l
  have hc := h.cell0
  have hf0 := h.free 0
  have HX := Lib.hid h
  have HMB := Lib.hid hm.bd
  have HNA := Lib.hid (number_any l hl)
  clear hm
  generalize num l = N at *
  obtain ⟨n, long, er⟩ := N
  simp only at hlong hfit hf3 hgood HNA ⊢
  have HF := Lib.hid hfit
  clear hfit
  have h1 : er = 0 := by
    by_cases h1 : er = 0
    · exact h1
    · rw [strErr, if_pos h1] at hgood; omega
  subst h1
  have h2 : 0 ≤ most := by
    by_cases h2 : most < 0
    · rw [strErr, if_neg (by omega), if_pos (.inl h2)] at hgood; omega
    · omega
  have h3 : (n : Int) ≤ most := by
    by_cases h3 : most < n
    · rw [strErr, if_neg (by omega), if_pos (.inr h3)] at hgood; omega
    · omega
  have h4 : n ≤ l.length - long := by
    by_cases h4 : l.length - long < n
    · rw [strErr, if_neg (by omega), if_neg (by omega), if_pos h4] at hgood; omega
    · omega
  have h5 : (n : Int) ≤ (l.length : Int) - long := by omega
  have h6 : long + n ≤ l.length := by omega
  have hmw : IntKind.u64.wrap most = most := by rw [IntKind.wrap_u64]; have := HMB.out; omega
  have HE1 := Lib.hid (extract_mid l long n)
  have HE2 := Lib.hid (extract_drop l h6)
  clear hf3 hgood
  go_enter Try.func30, Try.ntmps30
  go_wp2_with fail
  refine (err_any (by exact h)).mono ?_
  rintro en w' ⟨rfl, rfl⟩
  clear h
  go_wp2_with fail
  refine (HNA.out _).mono ?_
  rintro en w' ⟨rfl, rfl⟩
  go_wp2_with fail
  go_ret
  rw [HE2.out]
  exact ⟨by rw [← HE1.out]; rfl, HX.out.set0 _, grown_setCell _ _ _ _⟩

set_option maxRecDepth 10000 in
set_option maxHeartbeats 1000000 in
theorem rstr_err {w : World} {b : Nat} {l : List UInt8} {e most : Int} (h : RdAt w b l e) (h0 : e ≠ 0) :
    Calls Try.prog 30 #[.pointer (some ⟨b, 0, none⟩), .int .i64 most] w fun en w' => en = .returned (.string ⟨([] : List UInt8).toArray⟩) ∧ RdAt w' b l e ∧ w.grownBy w' (some b) := by
  have h0 : (e == 0) = false := by simpa using h0
  go_enter Try.func30, Try.ntmps30
  go_wp2_with fail
  refine (err_any (by exact h)).mono ?_
  rintro en w' ⟨rfl, rfl⟩
  go_wp2_with fail
  go_ret
  exact ⟨rfl, h, World.grownBy.refl _ _⟩

theorem rstr_any {w : World} {b : Nat} {l : List UInt8} {e most : Int} (h : RdAt w b l e) (hl : l.length ≤ 1000000) (hm : W64 most) :
    Calls Try.prog 30 #[.pointer (some ⟨b, 0, none⟩), .int .i64 most] w fun en w' => en = .returned (.string ⟨(rdS l e most).1.toArray⟩) ∧ RdAt w' b (rdS l e most).2.1 (rdS l e most).2.2 ∧ w.grownBy w' (some b) := by
  unfold rdS
  by_cases h0 : e = 0
  · subst h0
    rw [if_neg (by omega)]
    by_cases hb : strErr (num l).1 (num l).2.2 (l.length - (num l).2.1) most = 0
    · rw [if_neg (by omega)]
      exact rstr_good h hl hm hb
    · rw [if_pos hb]
      exact rstr_bad h hl hm hb
  · rw [if_pos h0]
    exact rstr_err h h0

set_option maxRecDepth 10000 in
set_option maxHeartbeats 400000 in
theorem rstr_nil (most : Int) (w : World) : Calls Try.prog 30 #[.pointer none, .int .i64 most] w fun en w' => en = .returned (.string ⟨([] : List UInt8).toArray⟩) ∧ w = w' := by
  go_enter Try.func30, Try.ntmps30
  go_wp2_with fail
  refine (err_nil _).mono ?_
  rintro en w' ⟨rfl, rfl⟩
  go_wp2_with fail
  go_ret
  exact ⟨rfl, rfl⟩
end Go.Proofs.Ytoiaigbagfalmaa
