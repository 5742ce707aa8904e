/- Operations as bytes, in plain Lean: what is printed is read as it was; bytes that are an operation are those that it is printed in. -/
import Derived.Test.YtnfgojecgcienaaOpTake
import Derived.Test.YtnfgojecgcienaaOpRead
namespace Go.Proofs.Ytnfgojecgcienaa
set_option linter.unusedVariables false

theorem zig_zag (n : Nat) (h : F64 n) : zig (zag n) = n := by
  unfold F64 at h
  unfold zag zig
  split <;> split <;> omega

theorem rdI_enc : ∀ (v : List Int) (t : List UInt8), (∀ x ∈ v, W64 x) → rdI v.length (encI v ++ t) 0 = (v, t, 0)
  | [], t, h => rfl
  | x :: v, t, h => by
    have hx := h x (by simp)
    have e : encI (x :: v) ++ t = enc (zig x) ++ (encI v ++ t) := by simp [encI]
    rw [List.length_cons, rdI, e, rdU_enc _ (zig_fit hx)]
    simp only
    rw [rdI_enc v t (fun y hy => h y (by simp [hy])), zag_zig]

theorem raw_enc {o : OpV} (ho : OpOk o) (hm : mayOp o = true) (t : List UInt8) : rawOp (encOp o ++ t) 0 = (o, t, 0) := by
  obtain ⟨h1, h2, h3⟩ := mayOp_iff.1 hm
  have e1 : rdB (encOp o ++ t) 0 = ((UInt8.ofNat (o.kind % 256).toNat).toNat, encI o.v ++ (encS o.cron ++ t), 0) := by
    rw [encOp]
    simp only [List.cons_append, List.append_assoc]
    rfl
  have e2 : rdI 8 (encI o.v ++ (encS o.cron ++ t)) 0 = (o.v, encS o.cron ++ t, 0) := by
    have := rdI_enc o.v (encS o.cron ++ t) ho.2.2.1
    rwa [ho.1] at this
  have e3 := rdS_enc o.cron t (by omega) 256 (by omega)
  have e4 : (((UInt8.ofNat (o.kind % 256).toNat).toNat : Nat) : Int) = o.kind := by
    rw [UInt8.toNat_ofNat']
    omega
  unfold rawOp
  simp only [e1, e2, e3, e4]

theorem take_enc {o : OpV} (ho : OpOk o) (hm : mayOp o = true) (t : List UInt8) : takeOp (encOp o ++ t) 0 = (o, t, 0) := by
  unfold takeOp
  simp only [raw_enc ho hm, hm, if_true]
theorem read_enc {o : OpV} (ho : OpOk o) (hm : mayOp o = true) : readOp (encOp o) = (o, true) := by
  have := take_enc ho hm []
  rw [List.append_nil] at this
  unfold readOp
  simp only [this, and_self, if_true]
theorem read_more {o : OpV} (ho : OpOk o) (hm : mayOp o = true) {t : List UInt8} (ht : t ≠ []) : readOp (encOp o ++ t) = (opZero, false) := by
  unfold readOp
  simp only [take_enc ho hm, ht, and_false, if_false]

theorem rdU_back {l l' : List UInt8} {e : Int} {n : Nat} (h : rdU l e = (n, l', 0)) : e = 0 ∧ F64 n ∧ l = enc n ++ l' := by
  by_cases h0 : e = 0
  · subst h0
    rw [rdU, if_pos rfl] at h
    simp only [Prod.mk.injEq] at h
    obtain ⟨h1, h2, h3⟩ := h
    have hf := (num_facts l).2.1
    have h3 : (num l).2.2 = 0 := by omega
    have hc := num_canon (l := l) (n := n) (long := (num l).2.1) (by rw [← h1, ← h3])
    refine ⟨rfl, h1 ▸ hf, ?_⟩
    rw [hc, ← h2, List.take_append_drop]
  · rw [rdU, if_neg h0] at h
    simp only [Prod.mk.injEq] at h
    exact absurd h.2.2 h0
theorem rdB_back {l l' : List UInt8} {e : Int} {n : Nat} (h : rdB l e = (n, l', 0)) : e = 0 ∧ l = UInt8.ofNat n :: l' := by
  rw [rdB.eq_def] at h
  by_cases h0 : e = 0
  · subst h0
    cases l with
    | nil => simp at h
    | cons c r =>
      simp only [if_pos, Prod.mk.injEq] at h
      obtain ⟨rfl, rfl, _⟩ := h
      exact ⟨rfl, by simp⟩
  · rw [if_neg h0] at h
    simp only [Prod.mk.injEq] at h
    exact absurd h.2.2 h0
theorem rdS_back {l l' s : List UInt8} {e m : Int} (h : rdS l e m = (s, l', 0)) : e = 0 ∧ l = encS s ++ l' ∧ (s.length : Int) ≤ m := by
  by_cases h0 : e = 0
  · subst h0
    rw [rdS, if_neg (by omega)] at h
    by_cases hb : strErr (num l).1 (num l).2.2 (l.length - (num l).2.1) m = 0
    · rw [if_neg (by omega)] at h
      simp only [Prod.mk.injEq, and_true] at h
      obtain ⟨h1, h2⟩ := h
      have hf := num_facts l
      have h3 : (num l).2.2 = 0 := by
        by_cases hq : (num l).2.2 = 0
        · exact hq
        · rw [strErr, if_pos hq] at hb; omega
      have h4 : 0 ≤ m ∧ ((num l).1 : Int) ≤ m := by
        by_cases hq : m < 0 ∨ m < (num l).1
        · rw [strErr, if_neg (by omega), if_pos hq] at hb; omega
        · omega
      have h5 : (num l).1 ≤ l.length - (num l).2.1 := by
        by_cases hq : l.length - (num l).2.1 < (num l).1
        · rw [strErr, if_neg (by omega), if_neg (by omega), if_pos hq] at hb; omega
        · omega
      have hl : s.length = (num l).1 := by
        rw [← h1, List.length_take, List.length_drop]
        omega
      have hc := num_canon (l := l) (n := s.length) (long := (num l).2.1) (by rw [hl, ← h3])
      refine ⟨rfl, ?_, by omega⟩
      rw [encS, hc, ← h1, ← h2, List.append_assoc, ← List.drop_drop, List.take_append_drop, List.take_append_drop]
    · rw [if_pos (by omega)] at h
      simp only [Prod.mk.injEq] at h
      exact absurd h.2.2 hb
  · rw [rdS, if_pos h0] at h
    simp only [Prod.mk.injEq] at h
    exact absurd h.2.2 h0
theorem rdI_back : ∀ (k : Nat) {l l' : List UInt8} {e : Int} {v : List Int}, rdI k l e = (v, l', 0) → e = 0 ∧ l = encI v ++ l'
  | 0, l, l', e, v, h => by
    simp only [rdI, Prod.mk.injEq] at h
    obtain ⟨rfl, rfl, rfl⟩ := h
    exact ⟨rfl, rfl⟩
  | k + 1, l, l', e, v, h => by
    rw [rdI] at h
    simp only [Prod.mk.injEq] at h
    obtain ⟨hv, hr⟩ := h
    generalize hU : rdU l e = R at *
    obtain ⟨n, l1, e1⟩ := R
    simp only at hv hr
    obtain ⟨rfl, h1⟩ := rdI_back k (v := (rdI k l1 e1).1) (l' := l') (by rw [← hr])
    obtain ⟨rfl, hf, h2⟩ := rdU_back hU
    refine ⟨rfl, ?_⟩
    rw [h2, ← hv]
    have : encI (zag n :: (rdI k l1 0).1) = enc n ++ encI (rdI k l1 0).1 := by
      rw [show encI (zag n :: (rdI k l1 0).1) = enc (zig (zag n)) ++ encI (rdI k l1 0).1 from rfl, zig_zag n hf]
    rw [this, List.append_assoc, ← h1]

theorem raw_back {l l' : List UInt8} {e : Int} {o : OpV} (h : rawOp l e = (o, l', 0)) : e = 0 ∧ l = encOp o ++ l' := by
  unfold rawOp at h
  generalize hB : rdB l e = B at h
  obtain ⟨k, l1, e1⟩ := B
  simp only at h
  generalize hI : rdI 8 l1 e1 = I at h
  obtain ⟨v, l2, e2⟩ := I
  simp only at h
  generalize hS : rdS l2 e2 256 = S at h
  obtain ⟨s, l3, e3⟩ := S
  simp only [Prod.mk.injEq] at h
  obtain ⟨rfl, rfl, rfl⟩ := h
  obtain ⟨rfl, h3, _⟩ := rdS_back hS
  obtain ⟨rfl, h2⟩ := rdI_back 8 hI
  obtain ⟨rfl, h1⟩ := rdB_back hB
  have hk := rdB_fit l 0
  rw [hB] at hk
  simp only at hk
  refine ⟨rfl, ?_⟩
  rw [h1, h2, h3]
  simp only [encOp, List.cons_append, List.append_assoc]
  rw [show ((k : Int) % 256).toNat = k by omega]

theorem take_back {l l' : List UInt8} {e : Int} {o : OpV} (h : takeOp l e = (o, l', 0)) : e = 0 ∧ mayOp o = true ∧ l = encOp o ++ l' := by
  unfold takeOp at h
  generalize hR : rawOp l e = R at h
  obtain ⟨r, l1, e1⟩ := R
  simp only [Prod.mk.injEq] at h
  obtain ⟨h1, rfl, h3⟩ := h
  by_cases hm : mayOp r = true
  · rw [if_pos hm] at h3
    subst h3
    rw [if_pos hm, if_pos rfl] at h1
    subst h1
    obtain ⟨h4, h5⟩ := raw_back hR
    exact ⟨h4, hm, h5⟩
  · rw [if_neg hm] at h3
    unfold fst_ at h3
    split at h3 <;> omega
theorem read_back {l : List UInt8} {o : OpV} (h : readOp l = (o, true)) : mayOp o = true ∧ l = encOp o := by
  unfold readOp at h
  generalize hR : takeOp l 0 = R at h
  obtain ⟨r, l1, e1⟩ := R
  simp only at h
  by_cases hc : e1 = 0 ∧ l1 = []
  · rw [if_pos hc] at h
    simp only [Prod.mk.injEq, and_true] at h
    subst h
    obtain ⟨rfl, rfl⟩ := hc
    obtain ⟨_, h1, h2⟩ := take_back hR
    exact ⟨h1, by simpa using h2⟩
  · rw [if_neg hc] at h
    simp at h
theorem read_false {l : List UInt8} (h : (readOp l).2 = false) : (readOp l).1 = opZero := by
  unfold readOp at *
  simp only at *
  split at h
  · simp at h
  · rename_i hc
    rw [if_neg hc]
theorem readOp_ok (l : List UInt8) (hl : l.length ≤ 1000000) : OpOk (readOp l).1 := by
  have := (takeOp_ok l 0 hl).1
  unfold readOp
  simp only
  split
  · exact this
  · exact opZero_ok

/-- Unlike operations have unlike bytes; none is another one's beginning. -/
theorem enc_prefix {a b : OpV} (ha : OpOk a) (hb : OpOk b) (hma : mayOp a = true) (hmb : mayOp b = true) {t : List UInt8} (h : encOp b = encOp a ++ t) : a = b ∧ t = [] := by
  have h1 := take_enc ha hma t
  have h2 := take_enc hb hmb []
  rw [List.append_nil, h, h1] at h2
  simp only [Prod.mk.injEq, and_true] at h2
  exact h2
end Go.Proofs.Ytnfgojecgcienaa
