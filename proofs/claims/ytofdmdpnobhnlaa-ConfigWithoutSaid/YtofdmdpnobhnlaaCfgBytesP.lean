/- Chains as bytes, in plain Lean: what is printed is read as it was; bytes that are a chain are those that it is printed in. -/
import Derived.Test.YtofdmdpnobhnlaaCfgPlain
import Derived.Test.YtofdmdpnobhnlaaRdLaws
namespace Go.Proofs.Ytofdmdpnobhnlaa
open Go.RowKit
set_option linter.unusedVariables false

/-- A number's 64 bits. -/
def u64 (x : Int) : Nat := (IntKind.u64.wrap x).toNat
theorem u64_wrap (x : Int) : IntKind.u64.wrap x = (u64 x : Int) := by
  unfold u64
  have : 0 ≤ IntKind.u64.wrap x := by
    simp only [IntKind.wrap_u64]
    omega
  omega
theorem u64_fit (x : Int) : F64 (u64 x) := by
  unfold u64 F64
  simp only [IntKind.wrap_u64]
  omega
theorem u64_small {x : Int} (h0 : 0 ≤ x) (h1 : x ≤ 1099511627776) : u64 x = x.toNat := by
  unfold u64
  simp only [IntKind.wrap_u64]
  omega
theorem u64_cast (n : Nat) (h : n ≤ 1099511627776) : u64 (n : Int) = n := by
  rw [u64_small (by omega) (by omega)]
  omega

def encU (l : List Int) : List UInt8 := l.flatMap fun x => enc (u64 x)
theorem encU_len (l : List Int) : (encU l).length ≤ 10 * l.length := by
  induction l with
  | nil => simp [encU]
  | cons x l ih =>
    have h := (enc_len (u64 x)).2
    have e : encU (x :: l) = enc (u64 x) ++ encU l := rfl
    rw [e, List.length_append, List.length_cons]
    omega
theorem encU_two (x y : Int) : encU [x, y] = enc (u64 x) ++ enc (u64 y) := by simp [encU]
def flagB (b : Bool) : UInt8 := if b = true then 1 else 0
def encSeat (s : SeatV) : List UInt8 := encU [s.node, s.life] ++ [flagB s.sync]
def encSeats (L : List SeatV) : List UInt8 := L.flatMap encSeat
/-- A chain's bytes. -/
def encConf (c : ConfV) : List UInt8 := encU [c.epoch, (c.chain.length : Int)] ++ encSeats c.chain
theorem encSeats_snoc (L : List SeatV) (s : SeatV) : encSeats (L ++ [s]) = encSeats L ++ encSeat s := by simp [encSeats]
theorem encSeat_len (s : SeatV) : (encSeat s).length ≤ 21 := by
  have := encU_len [s.node, s.life]
  simp only [encSeat, List.length_append, List.length_cons, List.length_nil] at *
  omega
theorem encSeats_len (L : List SeatV) : (encSeats L).length ≤ 21 * L.length := by
  induction L with
  | nil => simp [encSeats]
  | cons s L ih =>
    have h := encSeat_len s
    have e : encSeats (s :: L) = encSeat s ++ encSeats L := rfl
    rw [e, List.length_append, List.length_cons]
    omega
theorem encConf_len (c : ConfV) : (encConf c).length ≤ 20 + 21 * c.chain.length := by
  have h1 := encU_len [c.epoch, (c.chain.length : Int)]
  have h2 := encSeats_len c.chain
  simp only [encConf, List.length_append, List.length_cons, List.length_nil] at *
  omega

/-- The first error stays. -/
def fstE (e x : Int) : Int := if e = 0 then x else e
theorem fstE_ne {e x : Int} (hx : x ≠ 0) : fstE e x ≠ 0 := by
  unfold fstE
  split
  · exact hx
  · assumption
theorem fstE_keep {e x : Int} (he : e ≠ 0) : fstE e x = e := by rw [fstE, if_neg he]
/-- A number of at most 2^40. -/
def cntC (l : List UInt8) (e : Int) : Nat × List UInt8 × Int :=
  if 1099511627776 < (rdU l e).1 then (0, (rdU l e).2.1, fstE (rdU l e).2.2 3) else rdU l e
theorem cntC_len (l : List UInt8) (e : Int) : (cntC l e).2.1.length ≤ l.length := by
  unfold cntC
  split <;> exact rdU_len l e
theorem cntC_le (l : List UInt8) (e : Int) : (cntC l e).1 ≤ 1099511627776 := by
  unfold cntC
  split
  · exact Nat.zero_le _
  · omega
theorem rdU_err {l : List UInt8} {e : Int} (he : e ≠ 0) : rdU l e = (0, l, e) := by rw [rdU, if_neg he]
theorem rdB_err {l : List UInt8} {e : Int} (he : e ≠ 0) : rdB l e = (0, l, e) := by rw [rdB.eq_def, if_neg he]
theorem cntC_err {l : List UInt8} {e : Int} (he : e ≠ 0) : cntC l e = (0, l, e) := by
  unfold cntC
  rw [rdU_err he, if_neg (by simp)]
theorem cntC_enc {n : Nat} (h : n ≤ 1099511627776) (t : List UInt8) : cntC (enc n ++ t) 0 = (n, t, 0) := by
  unfold cntC
  rw [rdU_enc n (by unfold F64; omega), if_neg (by show ¬ 1099511627776 < n; omega)]
theorem cntC_back {l l' : List UInt8} {e : Int} {n : Nat} (h : cntC l e = (n, l', 0)) : e = 0 ∧ n ≤ 1099511627776 ∧ l = enc n ++ l' := by
  unfold cntC at h
  split at h
  · simp only [Prod.mk.injEq] at h
    exact absurd h.2.2 (fstE_ne (by decide))
  · have hb := rdU_back h
    rename_i hn
    rw [h] at hn
    exact ⟨hb.1, by simp only at hn; omega, hb.2.2⟩

/-- A seat that is read. -/
def seat1 (l : List UInt8) (e : Int) : SeatV × List UInt8 × Int :=
  (⟨((cntC l e).1 : Int), ((cntC (cntC l e).2.1 (cntC l e).2.2).1 : Int), decide ((rdB (cntC (cntC l e).2.1 (cntC l e).2.2).2.1 (cntC (cntC l e).2.1 (cntC l e).2.2).2.2).1 = 1)⟩,
    (rdB (cntC (cntC l e).2.1 (cntC l e).2.2).2.1 (cntC (cntC l e).2.1 (cntC l e).2.2).2.2).2.1,
    if 1 < (rdB (cntC (cntC l e).2.1 (cntC l e).2.2).2.1 (cntC (cntC l e).2.1 (cntC l e).2.2).2.2).1 then fstE (rdB (cntC (cntC l e).2.1 (cntC l e).2.2).2.1 (cntC (cntC l e).2.1 (cntC l e).2.2).2.2).2.2 3
      else (rdB (cntC (cntC l e).2.1 (cntC l e).2.2).2.1 (cntC (cntC l e).2.1 (cntC l e).2.2).2.2).2.2)
theorem seat1_of {l l1 l2 l3 : List UInt8} {e e1 e2 e3 : Int} {n1 n2 n3 : Nat} (h1 : cntC l e = (n1, l1, e1)) (h2 : cntC l1 e1 = (n2, l2, e2)) (h3 : rdB l2 e2 = (n3, l3, e3)) :
    seat1 l e = (⟨n1, n2, decide (n3 = 1)⟩, l3, if 1 < n3 then fstE e3 3 else e3) := by
  unfold seat1
  rw [h1]
  simp only
  rw [h2]
  simp only
  rw [h3]
theorem seat1_len (l : List UInt8) (e : Int) : (seat1 l e).2.1.length ≤ l.length := by
  unfold seat1
  exact Nat.le_trans (rdB_len _ _) (Nat.le_trans (cntC_len _ _) (cntC_len _ _))
theorem seat1_ok (l : List UInt8) (e : Int) : W64 (seat1 l e).1.node ∧ W64 (seat1 l e).1.life := by
  have h1 := cntC_le l e
  have h2 := cntC_le (cntC l e).2.1 (cntC l e).2.2
  exact ⟨W64.mk (by show (-9223372036854775808 : Int) ≤ ((cntC l e).1 : Int); omega) (by show ((cntC l e).1 : Int) ≤ 9223372036854775807; omega),
    W64.mk (by show (-9223372036854775808 : Int) ≤ ((cntC (cntC l e).2.1 (cntC l e).2.2).1 : Int); omega) (by show ((cntC (cntC l e).2.1 (cntC l e).2.2).1 : Int) ≤ 9223372036854775807; omega)⟩
theorem seat1_err {l : List UInt8} {e : Int} (he : e ≠ 0) : seat1 l e = (⟨0, 0, false⟩, l, e) := by
  rw [seat1_of (cntC_err he) (cntC_err he) (rdB_err he)]
  simp
theorem seat1_back {l l' : List UInt8} {e : Int} {s : SeatV} (h : seat1 l e = (s, l', 0)) : e = 0 ∧ 0 ≤ s.node ∧ s.node ≤ 1099511627776 ∧ 0 ≤ s.life ∧ s.life ≤ 1099511627776 ∧ l = encSeat s ++ l' := by
  obtain ⟨n1, l1, e1, h1⟩ : ∃ n1 l1 e1, cntC l e = (n1, l1, e1) := ⟨_, _, _, rfl⟩
  obtain ⟨n2, l2, e2, h2⟩ : ∃ n2 l2 e2, cntC l1 e1 = (n2, l2, e2) := ⟨_, _, _, rfl⟩
  obtain ⟨n3, l3, e3, h3⟩ : ∃ n3 l3 e3, rdB l2 e2 = (n3, l3, e3) := ⟨_, _, _, rfl⟩
  rw [seat1_of h1 h2 h3] at h
  simp only [Prod.mk.injEq] at h
  obtain ⟨rfl, rfl, he⟩ := h
  split at he
  · exact absurd he (fstE_ne (by decide))
  · subst he
    obtain ⟨rfl, b3⟩ := rdB_back h3
    obtain ⟨rfl, c2, b2⟩ := cntC_back h2
    obtain ⟨rfl, c1, b1⟩ := cntC_back h1
    have hn : n3 = 0 ∨ n3 = 1 := by omega
    refine ⟨rfl, by simp only; omega, by simp only; omega, by simp only; omega, by simp only; omega, ?_⟩
    have hf : UInt8.ofNat n3 = flagB (decide (n3 = 1)) := by
      rcases hn with rfl | rfl <;> rfl
    rw [b1, b2, b3, encSeat, encU_two]
    simp only [u64_cast n1 c1, u64_cast n2 c2, hf, List.append_assoc, List.cons_append, List.nil_append]
theorem seat1_enc {s : SeatV} (h0 : 0 ≤ s.node) (h1 : s.node ≤ 1099511627776) (h2 : 0 ≤ s.life) (h3 : s.life ≤ 1099511627776) (t : List UInt8) : seat1 (encSeat s ++ t) 0 = (s, t, 0) := by
  obtain ⟨n, l, b⟩ := s
  simp only at h0 h1 h2 h3
  have e : encSeat ⟨n, l, b⟩ ++ t = enc n.toNat ++ (enc l.toNat ++ (flagB b :: t)) := by
    rw [encSeat, encU_two, u64_small h0 h1, u64_small h2 h3]
    simp
  have hb : rdB (flagB b :: t) 0 = ((if b = true then 1 else 0), t, 0) := by
    rw [rdB.eq_def, if_pos rfl]
    cases b <;> rfl
  rw [e, seat1_of (cntC_enc (by omega) _) (cntC_enc (by omega) _) hb]
  have e1 : ((n.toNat : Nat) : Int) = n := by omega
  have e2 : ((l.toNat : Nat) : Int) = l := by omega
  cases b <;> simp [e1, e2]

/-- So many seats that are read. -/
def takeN : Nat → List UInt8 → Int → List SeatV × List UInt8 × Int
  | 0, l, e => ([], l, e)
  | n + 1, l, e => ((takeN n l e).1 ++ [(seat1 (takeN n l e).2.1 (takeN n l e).2.2).1], (seat1 (takeN n l e).2.1 (takeN n l e).2.2).2)
theorem takeN_len (n : Nat) (l : List UInt8) (e : Int) : (takeN n l e).2.1.length ≤ l.length ∧ (takeN n l e).1.length = n := by
  induction n with
  | zero => exact ⟨Nat.le_refl _, rfl⟩
  | succ n ih => exact ⟨Nat.le_trans (seat1_len _ _) ih.1, by rw [takeN, List.length_append, ih.2]; rfl⟩
theorem takeN_ok (n : Nat) (l : List UInt8) (e : Int) : ∀ s ∈ (takeN n l e).1, W64 s.node ∧ W64 s.life := by
  induction n with
  | zero => intro s hs; cases hs
  | succ n ih =>
    intro s hs
    rw [takeN] at hs
    rcases List.mem_append.1 hs with hs | hs
    · exact ih s hs
    · rw [List.mem_singleton] at hs
      subst hs
      exact seat1_ok _ _
theorem takeN_err {n : Nat} {l : List UInt8} {e : Int} (he : (takeN n l e).2.2 ≠ 0) (m : Nat) : (takeN (n + m) l e).2.2 ≠ 0 := by
  induction m with
  | zero => exact he
  | succ m ih =>
    rw [← Nat.add_assoc, takeN]
    rw [seat1_err ih]
    exact ih
theorem takeN_enc (L : List SeatV) (hL : ∀ s ∈ L, 0 ≤ s.node ∧ s.node ≤ 1099511627776 ∧ 0 ≤ s.life ∧ s.life ≤ 1099511627776) (t : List UInt8) : ∀ k, k ≤ L.length → takeN k (encSeats L ++ t) 0 = (L.take k, encSeats (L.drop k) ++ t, 0) := by
  intro k
  induction k with
  | zero => intro _; rfl
  | succ k ih =>
    intro hk
    have hs := List.drop_eq_getElem_cons (l := L) (i := k) (by omega)
    have hm := hL L[k] (List.getElem_mem _)
    have e : encSeats (L.drop k) ++ t = encSeat L[k] ++ (encSeats (L.drop (k + 1)) ++ t) := by
      rw [hs, ← List.append_assoc]
      rfl
    rw [takeN, ih (by omega)]
    simp only
    rw [e, seat1_enc hm.1 hm.2.1 hm.2.2.1 hm.2.2.2]
    simp only [Prod.mk.injEq, and_true]
    rw [List.take_succ_eq_append_getElem (by omega)]
theorem takeN_back : ∀ (n : Nat) {l l' : List UInt8} {e : Int} {L : List SeatV}, takeN n l e = (L, l', 0) → e = 0 ∧ l = encSeats L ++ l'
  | 0, l, l', e, L, h => by
    simp only [takeN, Prod.mk.injEq] at h
    obtain ⟨rfl, rfl, rfl⟩ := h
    exact ⟨rfl, rfl⟩
  | n + 1, l, l', e, L, h => by
    obtain ⟨M, m, x, hM⟩ : ∃ M m x, takeN n l e = (M, m, x) := ⟨_, _, _, rfl⟩
    obtain ⟨s, r, y, hs⟩ : ∃ s r y, seat1 m x = (s, r, y) := ⟨_, _, _, rfl⟩
    rw [takeN, hM] at h
    simp only at h
    rw [hs] at h
    simp only [Prod.mk.injEq] at h
    obtain ⟨rfl, rfl, rfl⟩ := h
    obtain ⟨rfl, _, _, _, _, rfl⟩ := seat1_back hs
    obtain ⟨rfl, rfl⟩ := takeN_back n hM
    exact ⟨rfl, by rw [encSeats_snoc, List.append_assoc]⟩

def confZero : ConfV := ⟨0, []⟩
/-- A chain that is read: what is handed back, what is left, the error. -/
def takeC (l : List UInt8) (e : Int) : ConfV × List UInt8 × Int :=
  if 8 < (cntC (cntC l e).2.1 (cntC l e).2.2).1 then (confZero, (cntC (cntC l e).2.1 (cntC l e).2.2).2.1, fstE (cntC (cntC l e).2.1 (cntC l e).2.2).2.2 3)
  else
    let c : ConfV := ⟨((cntC l e).1 : Int), (takeN (cntC (cntC l e).2.1 (cntC l e).2.2).1 (cntC (cntC l e).2.1 (cntC l e).2.2).2.1 (cntC (cntC l e).2.1 (cntC l e).2.2).2.2).1⟩
    let r := (takeN (cntC (cntC l e).2.1 (cntC l e).2.2).1 (cntC (cntC l e).2.1 (cntC l e).2.2).2.1 (cntC (cntC l e).2.1 (cntC l e).2.2).2.2).2
    let x := if rightC c = true then r.2 else fstE r.2 3
    (if x = 0 then c else confZero, r.1, x)
theorem takeC_of {l l1 l2 l3 : List UInt8} {e e1 e2 e3 : Int} {n1 n2 : Nat} {L : List SeatV} (h1 : cntC l e = (n1, l1, e1)) (h2 : cntC l1 e1 = (n2, l2, e2)) (h3 : takeN n2 l2 e2 = (L, l3, e3)) :
    takeC l e = if 8 < n2 then (confZero, l2, fstE e2 3) else (if (if rightC ⟨n1, L⟩ = true then e3 else fstE e3 3) = 0 then ⟨n1, L⟩ else confZero, l3, if rightC ⟨n1, L⟩ = true then e3 else fstE e3 3) := by
  unfold takeC
  rw [h1]
  simp only
  rw [h2]
  simp only
  rw [h3]
theorem takeC_len (l : List UInt8) (e : Int) : (takeC l e).2.1.length ≤ l.length := by
  have h1 := cntC_len l e
  have h2 := cntC_len (cntC l e).2.1 (cntC l e).2.2
  have h3 := (takeN_len (cntC (cntC l e).2.1 (cntC l e).2.2).1 (cntC (cntC l e).2.1 (cntC l e).2.2).2.1 (cntC (cntC l e).2.1 (cntC l e).2.2).2.2).1
  unfold takeC
  split
  · exact Nat.le_trans h2 h1
  · exact Nat.le_trans h3 (Nat.le_trans h2 h1)
theorem takeC_right {l : List UInt8} {e : Int} (h : (takeC l e).2.2 = 0) : rightC (takeC l e).1 = true := by
  obtain ⟨n1, l1, e1, h1⟩ : ∃ n1 l1 e1, cntC l e = (n1, l1, e1) := ⟨_, _, _, rfl⟩
  obtain ⟨n2, l2, e2, h2⟩ : ∃ n2 l2 e2, cntC l1 e1 = (n2, l2, e2) := ⟨_, _, _, rfl⟩
  obtain ⟨L, l3, e3, h3⟩ : ∃ L l3 e3, takeN n2 l2 e2 = (L, l3, e3) := ⟨_, _, _, rfl⟩
  rw [takeC_of h1 h2 h3] at h ⊢
  split at h
  · exact absurd h (fstE_ne (by decide))
  · rename_i h8
    rw [if_neg h8]
    simp only at h ⊢
    rw [if_pos h]
    by_cases hr : rightC ⟨n1, L⟩ = true
    · exact hr
    · rw [if_neg hr] at h
      exact absurd h (fstE_ne (by decide))
theorem takeC_zero {l : List UInt8} {e : Int} (h : (takeC l e).2.2 ≠ 0) : (takeC l e).1 = confZero := by
  obtain ⟨n1, l1, e1, h1⟩ : ∃ n1 l1 e1, cntC l e = (n1, l1, e1) := ⟨_, _, _, rfl⟩
  obtain ⟨n2, l2, e2, h2⟩ : ∃ n2 l2 e2, cntC l1 e1 = (n2, l2, e2) := ⟨_, _, _, rfl⟩
  obtain ⟨L, l3, e3, h3⟩ : ∃ L l3 e3, takeN n2 l2 e2 = (L, l3, e3) := ⟨_, _, _, rfl⟩
  rw [takeC_of h1 h2 h3] at h ⊢
  split
  · rfl
  · rename_i h8
    rw [if_neg h8] at h
    simp only at h ⊢
    rw [if_neg h]
theorem takeC_err {l : List UInt8} {e : Int} (he : e ≠ 0) : takeC l e = (confZero, l, e) := by
  rw [takeC_of (cntC_err he) (cntC_err he) (L := []) (l3 := l) (e3 := e) rfl]
  have hr : rightC ⟨((0 : Nat) : Int), []⟩ = false := rfl
  rw [if_neg (by omega), hr]
  simp only [Bool.false_eq_true, if_false]
  rw [fstE_keep he, if_neg he]
theorem right_bounds {c : ConfV} (h : rightC c = true) : ∀ s ∈ c.chain, 0 ≤ s.node ∧ s.node ≤ 1099511627776 ∧ 0 ≤ s.life ∧ s.life ≤ 1099511627776 := by
  have hs := (rightC_iff.1 h).2.2.2.2.2
  generalize c.chain = L at hs
  induction L with
  | nil => intro s hs'; cases hs'
  | cons x L ih =>
    simp only [seatsOk, Bool.and_eq_true] at hs
    intro s hs'
    rcases List.mem_cons.1 hs' with rfl | hs'
    · have := mayM_iff.1 hs.1
      omega
    · exact ih hs.2.2 s hs'
theorem takeC_enc {c : ConfV} (h : rightC c = true) (t : List UInt8) : takeC (encConf c ++ t) 0 = (c, t, 0) := by
  obtain ⟨e, L⟩ := c
  have hr := rightC_iff.1 h
  simp only at hr
  have he : encConf ⟨e, L⟩ ++ t = enc e.toNat ++ (enc L.length ++ (encSeats L ++ t)) := by
    rw [encConf, encU_two, u64_small (by simp only; omega) (by simp only; omega), u64_cast _ (by simp only; omega)]
    simp
  have h3 := takeN_enc L (right_bounds h) t L.length (Nat.le_refl _)
  have e1 : ((e.toNat : Nat) : Int) = e := by omega
  rw [he, takeC_of (cntC_enc (by omega) _) (cntC_enc (by omega) _) h3, if_neg (by omega)]
  simp only [List.take_length, List.drop_length, e1, h, if_true]
  rfl
theorem takeC_back {l l' : List UInt8} {e : Int} {c : ConfV} (h : takeC l e = (c, l', 0)) : e = 0 ∧ rightC c = true ∧ l = encConf c ++ l' := by
  have hr : rightC c = true := by
    have := takeC_right (l := l) (e := e) (by rw [h])
    rwa [h] at this
  obtain ⟨n1, l1, e1, h1⟩ : ∃ n1 l1 e1, cntC l e = (n1, l1, e1) := ⟨_, _, _, rfl⟩
  obtain ⟨n2, l2, e2, h2⟩ : ∃ n2 l2 e2, cntC l1 e1 = (n2, l2, e2) := ⟨_, _, _, rfl⟩
  obtain ⟨L, l3, e3, h3⟩ : ∃ L l3 e3, takeN n2 l2 e2 = (L, l3, e3) := ⟨_, _, _, rfl⟩
  rw [takeC_of h1 h2 h3] at h
  split at h
  · simp only [Prod.mk.injEq] at h
    exact absurd h.2.2 (fstE_ne (by decide))
  · simp only [Prod.mk.injEq] at h
    obtain ⟨hc, rfl, hx⟩ := h
    rw [if_pos hx] at hc
    subst hc
    rw [if_pos hr] at hx
    subst hx
    have hlen := (takeN_len n2 l2 e2).2
    rw [h3] at hlen
    simp only at hlen
    obtain ⟨rfl, rfl⟩ := takeN_back n2 h3
    obtain ⟨rfl, c2, rfl⟩ := cntC_back h2
    obtain ⟨rfl, c1, rfl⟩ := cntC_back h1
    refine ⟨rfl, hr, ?_⟩
    rw [encConf, encU_two]
    simp only [hlen, u64_cast n1 c1, u64_cast n2 c2, List.append_assoc]
/-- Bytes that are a chain, or none. -/
def readC (l : List UInt8) : ConfV × Bool := if (takeC l 0).2.2 = 0 ∧ (takeC l 0).2.1 = [] then ((takeC l 0).1, true) else (confZero, false)
theorem readC_enc {c : ConfV} (h : rightC c = true) : readC (encConf c) = (c, true) := by
  have := takeC_enc h []
  rw [List.append_nil] at this
  rw [readC, this]
  simp
end Go.Proofs.Ytofdmdpnobhnlaa
