/- Records in bytes, in plain Lean: what the first one is, all of them, and what a cut leaves. A record's bytes, and the first record of bytes: the program's and the document's. Scan: the records of bytes. -/
import Derived.Test.YtomfmejodmfioaaGreatKCodec
import Derived.Test.YtomfmejodmfioaaGreatKCrc
import Derived.Test.YtomfmejodmfioaaGreatStRow
namespace Go.Proofs.YtomfmejodmfioaaGreat
set_option linter.unusedVariables false

/-- A record's bytes. -/
def bytesS (t : List UInt8) : List UInt8 := frame (encS t)
theorem bytesS_len (t : List UInt8) : (bytesS t).length = (encS t).length + 4 := frame_len _
theorem encS_len (t : List UInt8) : t.length + 1 ≤ (encS t).length ∧ (encS t).length ≤ t.length + 10 := by
  have := encF_len 9 t.length
  simp only [encS, enc, List.length_append]
  omega
/-- The first record, how long it is, and whether it is one. -/
def oneS (l : List UInt8) : List UInt8 × Nat × Bool :=
  if (rdS l 0 l.length).2.2 = 0 ∧ l.length - (rdS l 0 l.length).2.1.length + 4 ≤ l.length then
    ((rdS l 0 l.length).1, l.length - (rdS l 0 l.length).2.1.length + 4, whole (l.take (l.length - (rdS l 0 l.length).2.1.length + 4)))
  else ([], 0, false)
theorem one_ok {l : List UInt8} (h : (oneS l).2.2 = true) : ∃ rest, l = bytesS (oneS l).1 ++ rest ∧ (oneS l).2.1 = (bytesS (oneS l).1).length := by
  unfold oneS at h ⊢
  split at h
  · rename_i hc
    rw [if_pos hc]
    simp only at h ⊢
    obtain ⟨h0, hlen⟩ := hc
    obtain ⟨t, l', hr⟩ : ∃ t l', rdS l 0 l.length = (t, l', 0) := ⟨_, _, Prod.ext rfl (Prod.ext rfl h0)⟩
    rw [hr] at h hlen ⊢
    simp only at h hlen ⊢
    obtain ⟨_, hl, _⟩ := rdS_back hr
    have hll : l.length = (encS t).length + l'.length := by rw [hl, List.length_append]
    have h4 : 4 ≤ l'.length := by have := rdS_len l 0 l.length; rw [hr] at this; simp only at this; omega
    have htk : l.take (l.length - l'.length + 4) = encS t ++ l'.take 4 := by
      have : l.length - l'.length + 4 = (encS t).length + 4 := by omega
      rw [this, hl, List.take_length_add_append]
    rw [htk] at h
    simp only [whole, Bool.and_eq_true, decide_eq_true_eq] at h
    have hX : (encS t ++ l'.take 4).length = (encS t).length + 4 := by rw [List.length_append, List.length_take]; omega
    have hx := h.2
    rw [hX, show (encS t).length + 4 - 4 = (encS t).length + 0 by omega, List.take_length_add_append] at hx
    simp only [List.take_zero, List.append_nil] at hx
    refine ⟨l'.drop 4, ?_, ?_⟩
    · rw [bytesS, hx, List.append_assoc, List.take_append_drop]
      exact hl
    · rw [bytesS_len]; omega
  · cases h
theorem one_bytes (t rest : List UInt8) (ht : t.length ≤ 1000000) : oneS (bytesS t ++ rest) = (t, (bytesS t).length, true) := by
  have hb : bytesS t ++ rest = encS t ++ (four (crcOf (encS t)) ++ rest) := by rw [bytesS, frame, List.append_assoc]
  have hf : (four (crcOf (encS t))).length = 4 := rfl
  have hel := encS_len t
  have hr : rdS (bytesS t ++ rest) 0 (bytesS t ++ rest).length = (t, four (crcOf (encS t)) ++ rest, 0) := by
    rw [hb]
    exact rdS_enc t _ ht _ (by simp only [List.length_append]; omega)
  have hlong : (bytesS t ++ rest).length - (four (crcOf (encS t)) ++ rest).length + 4 = (bytesS t).length := by
    rw [bytesS_len, hb]
    simp only [List.length_append, hf]
    omega
  unfold oneS
  rw [hr]
  simp only
  rw [hlong, if_pos ⟨trivial, by simp only [List.length_append]; omega⟩]
  rw [List.take_left' rfl, bytesS, whole_frame]
theorem one_nil : (oneS []).2.2 = false := by
  rw [Bool.eq_false_iff]
  intro h
  obtain ⟨rest, hl, _⟩ := one_ok h
  have := congrArg List.length hl
  rw [List.length_append, bytesS_len, List.length_nil] at this
  omega
/-- All records, as far as they go, and how far they go. -/
def scanF : Nat → List UInt8 → List (List UInt8) × Nat
  | 0, _ => ([], 0)
  | f + 1, l => if (oneS l).2.2 = true then ((oneS l).1 :: (scanF f (l.drop (oneS l).2.1)).1, (oneS l).2.1 + (scanF f (l.drop (oneS l).2.1)).2) else ([], 0)
def scanS (l : List UInt8) : List (List UInt8) × Nat := scanF l.length l
theorem one_long {l : List UInt8} (h : (oneS l).2.2 = true) : 5 ≤ (oneS l).2.1 ∧ (oneS l).2.1 ≤ l.length ∧ (oneS l).1.length ≤ l.length := by
  obtain ⟨rest, hl, hn⟩ := one_ok h
  have h2 := congrArg List.length hl
  rw [List.length_append] at h2
  have h3 := encS_len (oneS l).1
  rw [bytesS_len] at hn h2
  omega
theorem scanF_more : ∀ (f g : Nat) (l : List UInt8), l.length ≤ f → l.length ≤ g → scanF f l = scanF g l
  | 0, 0, _, _, _ => rfl
  | 0, g + 1, l, hf, _ => by
    have : l = [] := List.length_eq_zero_iff.1 (by omega)
    subst this
    rw [scanF, scanF, one_nil]
    simp
  | f + 1, 0, l, _, hg => by
    have : l = [] := List.length_eq_zero_iff.1 (by omega)
    subst this
    rw [scanF, scanF, one_nil]
    simp
  | f + 1, g + 1, l, hf, hg => by
    rw [scanF, scanF]
    by_cases h : (oneS l).2.2 = true
    · have hl := one_long h
      rw [if_pos h, if_pos h, scanF_more f g _ (by rw [List.length_drop]; omega) (by rw [List.length_drop]; omega)]
    · rw [if_neg h, if_neg h]
theorem scanS_ok {l : List UInt8} (h : (oneS l).2.2 = true) : scanS l = ((oneS l).1 :: (scanS (l.drop (oneS l).2.1)).1, (oneS l).2.1 + (scanS (l.drop (oneS l).2.1)).2) := by
  have hl := one_long h
  obtain ⟨k, hk⟩ : ∃ k, l.length = k + 1 := ⟨l.length - 1, by omega⟩
  unfold scanS
  rw [hk, scanF, if_pos h, scanF_more k (l.drop (oneS l).2.1).length _ (by rw [List.length_drop]; omega) (Nat.le_refl _)]
theorem scanS_no {l : List UInt8} (h : (oneS l).2.2 = false) : scanS l = ([], 0) := by
  unfold scanS
  cases hk : l.length with
  | zero => rfl
  | succ k => rw [scanF, h]; simp
/-- The bytes of several. -/
def recs (ts : List (List UInt8)) : List UInt8 := ts.flatMap bytesS
theorem recs_cons (t : List UInt8) (ts : List (List UInt8)) : recs (t :: ts) = bytesS t ++ recs ts := rfl
theorem recs_snoc (ts : List (List UInt8)) (t : List UInt8) : recs (ts ++ [t]) = recs ts ++ bytesS t := by simp [recs]
theorem scan_form : ∀ (n : Nat) (l : List UInt8), l.length ≤ n → ∃ tail, l = recs (scanS l).1 ++ tail ∧ (scanS l).2 = (recs (scanS l).1).length ∧ (oneS tail).2.2 = false
  | 0, l, hn => by
    have : l = [] := List.length_eq_zero_iff.1 (by omega)
    subst this
    exact ⟨[], rfl, rfl, one_nil⟩
  | n + 1, l, hn => by
    cases h : (oneS l).2.2 with
    | false =>
      rw [scanS_no h]
      exact ⟨l, rfl, rfl, h⟩
    | true =>
      have hl := one_long h
      obtain ⟨rest, hr, hlen⟩ := one_ok h
      have hd : l.drop (oneS l).2.1 = rest := by
        have h9 := congrArg (List.drop (bytesS (oneS l).1).length) hr
        rw [List.drop_left' rfl] at h9
        rw [hlen]
        exact h9
      obtain ⟨tail, ht, h2, h3⟩ := scan_form n (l.drop (oneS l).2.1) (by rw [List.length_drop]; omega)
      rw [scanS_ok h]
      refine ⟨tail, ?_, ?_, h3⟩
      · simp only [recs_cons]
        rw [List.append_assoc, ← ht, hd]
        exact hr
      · simp only [recs_cons, List.length_append]
        rw [h2, hlen]
theorem scan_recs : ∀ (ts : List (List UInt8)) (tail : List UInt8), (∀ t ∈ ts, t.length ≤ 1000000) → (oneS tail).2.2 = false → scanS (recs ts ++ tail) = (ts, (recs ts).length)
  | [], tail, _, h => scanS_no h
  | t :: ts, tail, hs, h => by
    have h1 : oneS (recs (t :: ts) ++ tail) = (t, (bytesS t).length, true) := by
      rw [recs_cons, List.append_assoc]
      exact one_bytes t _ (hs t (List.mem_cons_self ..))
    have hd : (recs (t :: ts) ++ tail).drop (bytesS t).length = recs ts ++ tail := by
      rw [recs_cons, List.append_assoc, List.drop_left' rfl]
    rw [scanS_ok (by rw [h1])]
    rw [h1]
    simp only
    rw [hd, scan_recs ts tail (fun x hx => hs x (List.mem_cons_of_mem _ hx)) h, recs_cons, List.length_append]
theorem scan_all (ts : List (List UInt8)) (hs : ∀ t ∈ ts, t.length ≤ 1000000) : scanS (recs ts) = (ts, (recs ts).length) := by
  have := scan_recs ts [] hs one_nil
  rwa [List.append_nil] at this
/-- A record cut off is none. -/
theorem one_cut (t : List UInt8) (ht0 : t.length ≤ 900000) {k : Nat} (hk : k < (bytesS t).length) : (oneS ((bytesS t).take k)).2.2 = false := by
  have ht : t.length ≤ 1000000 := by omega
  rw [Bool.eq_false_iff]
  intro h
  obtain ⟨rest, hr, hlen⟩ := one_ok h
  have hl := one_long h
  generalize (oneS ((bytesS t).take k)).1 = u at *
  have hu : u.length ≤ 1000000 := by
    have := hl.2.2
    rw [List.length_take] at this
    have h3 := congrArg List.length hr
    rw [List.length_append, List.length_take, bytesS_len] at h3
    have := encS_len u
    have := encS_len t
    rw [bytesS_len] at hk
    omega
  have h1 := one_bytes t [] ht
  rw [List.append_nil] at h1
  have h2 : bytesS t = bytesS u ++ (rest ++ (bytesS t).drop k) := by
    rw [← List.append_assoc, ← hr, List.take_append_drop]
  have h4 := one_bytes u (rest ++ (bytesS t).drop k) hu
  rw [← h2, h1] at h4
  have h5 : t = u := congrArg Prod.fst h4
  have h6 := congrArg List.length hr
  rw [List.length_append, List.length_take, ← h5] at h6
  omega
theorem recs_begin : ∀ (A B : List (List UInt8)) (X : List UInt8), (∀ t ∈ A, t.length ≤ 1000000) → (∀ t ∈ B, t.length ≤ 1000000) → recs A ++ X = recs B → A = B.take A.length ∧ A.length ≤ B.length
  | [], B, X, _, _, _ => ⟨rfl, Nat.zero_le _⟩
  | a :: A, [], X, _, _, h => by
    have := congrArg List.length h
    rw [recs_cons, List.length_append, List.length_append, bytesS_len] at this
    simp [recs] at this
  | a :: A, b :: B, X, hA, hB, h => by
    rw [recs_cons, recs_cons, List.append_assoc] at h
    have h1 := one_bytes a (recs A ++ X) (hA a (List.mem_cons_self ..))
    rw [h, one_bytes b (recs B) (hB b (List.mem_cons_self ..))] at h1
    have hab : b = a := congrArg Prod.fst h1
    subst hab
    obtain ⟨h2, h3⟩ := recs_begin A B X (fun x hx => hA x (List.mem_cons_of_mem _ hx)) (fun x hx => hB x (List.mem_cons_of_mem _ hx)) (List.append_cancel_left h)
    refine ⟨?_, by simp only [List.length_cons]; omega⟩
    rw [List.length_cons, List.take_succ_cons, ← h2]
/-- Records cut off anywhere: a beginning of them. -/
theorem cut_scan (ts : List (List UInt8)) (hs : ∀ t ∈ ts, t.length ≤ 1000000) (hl : (recs ts).length ≤ 1000000) {j : Nat} (hj : j < (recs ts).length) :
    (scanS ((recs ts).take j)).1 = ts.take (scanS ((recs ts).take j)).1.length ∧ (scanS ((recs ts).take j)).1.length < ts.length := by
  obtain ⟨tail, ht, h2, _⟩ := scan_form _ _ (Nat.le_refl ((recs ts).take j).length)
  generalize hA : (scanS ((recs ts).take j)).1 = A at *
  have hAl : ∀ t ∈ A, t.length ≤ 1000000 := by
    intro t hm
    have h3 := congrArg List.length ht
    rw [List.length_append, List.length_take] at h3
    have h4 : (bytesS t).length ≤ (recs A).length := by
      clear ht h2 h3 hA
      induction A with
      | nil => cases hm
      | cons a A ih =>
        rw [recs_cons, List.length_append]
        rcases List.mem_cons.1 hm with rfl | hm
        · omega
        · have := ih hm; omega
    have h5 := encS_len t
    rw [bytesS_len] at h4
    omega
  have hB : recs A ++ (tail ++ (recs ts).drop j) = recs ts := by
    rw [← List.append_assoc, ← ht, List.take_append_drop]
  obtain ⟨h3, h4⟩ := recs_begin A ts _ hAl hs hB
  refine ⟨h3, ?_⟩
  rcases Nat.lt_or_ge A.length ts.length with h | h
  · exact h
  · exfalso
    have : A = ts := by rw [h3, List.take_of_length_le h]
    have h5 := congrArg List.length ht
    rw [this, List.length_append, List.length_take] at h5
    omega
/-- What the document looks at: the same. -/
theorem one_ref {l t rest : List UInt8} {er m : Int} (hl : l.length ≤ 1000000) (hm : m = 1099511627776) (hr : rdS l 0 m = (t, rest, er)) :
    (oneS l).2.2 = (decide (er = 0) && (decide (4 ≤ rest.length) && decide (bytesS t = l.take (l.length - rest.length + 4)))) ∧ ((oneS l).2.2 = true → (oneS l).1 = t ∧ (oneS l).2.1 = l.length - rest.length + 4) := by
  subst hm
  constructor
  · rw [Bool.eq_iff_iff]
    simp only [Bool.and_eq_true, decide_eq_true_eq]
    constructor
    · intro h
      obtain ⟨r, hl2, hn⟩ := one_ok h
      have ho := one_long h
      generalize hu : (oneS l).1 = u at *
      have hb : l = encS u ++ (four (crcOf (encS u)) ++ r) := by rw [hl2, bytesS, frame, List.append_assoc]
      have hq := rdS_enc u (four (crcOf (encS u)) ++ r) (by omega) 1099511627776 (by omega)
      rw [← hb, hr] at hq
      simp only [Prod.mk.injEq] at hq
      obtain ⟨rfl, rfl, rfl⟩ := hq
      have hf : (four (crcOf (encS t))).length = 4 := rfl
      have h3 := congrArg List.length hl2
      rw [List.length_append, bytesS_len] at h3
      refine ⟨rfl, by rw [List.length_append]; omega, ?_⟩
      rw [List.length_append, hf, show l.length - (4 + r.length) + 4 = (bytesS t).length by rw [bytesS_len]; omega]
      conv => rhs; rw [hl2]
      simp
    · rintro ⟨rfl, h4, hb⟩
      have h2 : l = bytesS t ++ l.drop (l.length - rest.length + 4) := by
        conv => lhs; rw [← List.take_append_drop (l.length - rest.length + 4) l]
        rw [← hb]
      rw [h2, one_bytes t _ (by have := rdS_len l 0 1099511627776; rw [hr] at this; simp only at this; omega)]
  · intro h
    obtain ⟨r, hl2, hn⟩ := one_ok h
    have ho := one_long h
    generalize hu : (oneS l).1 = u at *
    have hb : l = encS u ++ (four (crcOf (encS u)) ++ r) := by rw [hl2, bytesS, frame, List.append_assoc]
    have hq := rdS_enc u (four (crcOf (encS u)) ++ r) (by omega) 1099511627776 (by omega)
    rw [← hb, hr] at hq
    simp only [Prod.mk.injEq] at hq
    obtain ⟨rfl, rfl, rfl⟩ := hq
    have hf : (four (crcOf (encS t))).length = 4 := rfl
    have h3 := congrArg List.length hl2
    rw [List.length_append, bytesS_len] at h3
    refine ⟨rfl, ?_⟩
    rw [hn, bytesS_len, List.length_append, hf]
    omega
end Go.Proofs.YtomfmejodmfioaaGreat
namespace Go.Proofs.YtomfmejodmfioaaGreat
open Go.RowKit Go.ChangeShapes Go.WideShapes Go.Joins Go.Deep
set_option linter.unusedVariables false

theorem encS_small {t : List UInt8} (h : t.length ≤ 900000) : (encS t).length ≤ 1000000 := by
  have := encS_len t
  omega
set_option maxRecDepth 100000 in
set_option maxHeartbeats 1000000 in
theorem bytes_any (t : List UInt8) (h : t.length ≤ 900000) (w : World) :
    Calls Tryz.prog 92 #[.string ⟨t.toArray⟩] w fun e w' => e = .returned (.string ⟨(bytesS t).toArray⟩) ∧ Below w.heap.size w w' := by
  go_enter Tryz.func92, Tryz.ntmps92
  go_wp2_with fail
  refine (cstr_any t (by omega) _).mono ?_
  rintro e w1 ⟨rfl, b1⟩
  go_wp2_with fail
  refine (frame_any (encS t) (encS_small h) _).mono ?_
  rintro e w2 ⟨rfl, b2⟩
  go_wp2_with fail
  go_ret
  exact ⟨rfl, below_step b1 b2⟩
set_option maxRecDepth 100000 in
set_option maxHeartbeats 2000000 in
theorem one_any (l : List UInt8) (hl : l.length ≤ 1000000) (w : World) :
    Calls Tryz.prog 85 #[.string ⟨l.toArray⟩] w fun e w' => e = .returned (.tuple #[.string ⟨(oneS l).1.toArray⟩, .int .i64 ((oneS l).2.1 : Nat), .bool (oneS l).2.2]) ∧ Below w.heap.size w w' := by
  obtain ⟨t, rest, er, hr⟩ : ∃ t rest er, rdS l 0 l.length = (t, rest, er) := ⟨_, _, _, rfl⟩
  have hlen := (rdS_len l 0 l.length).1
  rw [hr] at hlen
  simp only at hlen
  have HO := Lib.hid (show oneS l = if er = 0 ∧ l.length - rest.length + 4 ≤ l.length then (t, l.length - rest.length + 4, whole (l.take (l.length - rest.length + 4))) else ([], 0, false) by rw [oneS, hr])
  have HR := Lib.hid hr
  clear hr
  go_enter Tryz.func85, Tryz.ntmps85
  go_wp2_with fail
  refine (read_any l _).mono ?_
  rintro e w1 ⟨b, rfl, hR, hwb, b1⟩
  go_wp2_with fail
  refine (rstr_any (by exact hR) hl (W64.mk (by omega) (by omega))).mono ?_
  rintro e w2 ⟨rfl, hR, hg⟩
  rw [HR.out] at hR ⊢
  have hb := grown_below b1 hg hwb
  clear hg b1
  simp only at hR ⊢
  go_wp2_with fail
  refine (left_any (by exact hR)).mono ?_
  rintro e w3 ⟨rfl, rfl⟩
  by_cases h0 : er = 0
  · subst h0
    have hlo : leftOf rest 0 = (rest.length : Nat) := rfl
    rw [hlo]
    by_cases hg : l.length - rest.length + 4 ≤ l.length
    · have HE := Lib.hid (HO.out.trans (if_pos ⟨rfl, hg⟩))
      have hnat : (l.length : Int) - (rest.length : Int) + 4 = ((l.length - rest.length + 4 : Nat) : Int) := by omega
      have hng : ¬ (l.length : Int) < ((l.length - rest.length + 4 : Nat) : Int) := by omega
      have hT := Lib.hid (take_eq l (l.length - rest.length + 4))
      have ht : (l.take (l.length - rest.length + 4)).length ≤ 1000000 := by rw [List.length_take]; omega
      have hw1 : wrap64 ((l.length : Int) - (rest.length : Int)) = (l.length : Int) - (rest.length : Int) := IntWalk.wrap64_in _ ⟨by omega, by omega⟩
      have hw2 : wrap64 ((l.length : Int) - (rest.length : Int) + 4) = ((l.length - rest.length + 4 : Nat) : Int) := (IntWalk.wrap64_in _ ⟨by omega, by omega⟩).trans hnat
      generalize hn : l.length - rest.length + 4 = n at *
      go_wp2_with fail
      refine (err_any (by exact hR)).mono ?_
      rintro e w4 ⟨rfl, rfl⟩
      go_wp2_with fail
      rw [hT.out]
      refine (whole_any _ ht _).mono ?_
      rintro e w5 ⟨rfl, b5⟩
      have hb := below_step hb b5
      go_wp2_with fail
      go_ret3
      exact ⟨by rw [HE.out]; rfl, hb⟩
    · have HE := Lib.hid (HO.out.trans (if_neg (fun h => hg h.2)))
      have hgt : (l.length : Int) < (l.length : Int) - (rest.length : Int) + 4 := by omega
      have hw1 : wrap64 ((l.length : Int) - (rest.length : Int)) = (l.length : Int) - (rest.length : Int) := IntWalk.wrap64_in _ ⟨by omega, by omega⟩
      have hw2 : wrap64 ((l.length : Int) - (rest.length : Int) + 4) = (l.length : Int) - (rest.length : Int) + 4 := IntWalk.wrap64_in _ ⟨by omega, by omega⟩
      go_wp2_with fail
      refine (err_any (by exact hR)).mono ?_
      rintro e w4 ⟨rfl, rfl⟩
      go_wp2_with fail
      go_ret3
      exact ⟨by rw [HE.out]; rfl, hb⟩
  · have HE := Lib.hid (HO.out.trans (if_neg (fun h => h0 h.1)))
    have hlo : leftOf rest er = 0 := by rw [leftOf, if_neg h0]
    rw [hlo]
    have h0' : (er != 0) = true := by simpa using h0
    go_wp2_with fail
    refine (err_any (by exact hR)).mono ?_
    rintro e w4 ⟨rfl, rfl⟩
    go_wp2_with fail
    go_ret3
    exact ⟨by rw [HE.out]; rfl, hb⟩
end Go.Proofs.YtomfmejodmfioaaGreat
namespace Go.Proofs.YtomfmejodmfioaaGreat
open Go.RowKit Go.ChangeShapes Go.WideShapes Go.Joins Go.Deep
set_option linter.unusedVariables false

theorem own_form' {w : World} {base : Nat} {e : TypeId} {size : Nat} {v : Value} {n : Nat} {xs : List Value} (h : w.ownsRow base e size v n xs) : ∃ A cap, v = .slice A n cap := by
  rcases h.2 with ⟨rfl, rfl⟩ | ⟨g, cap, cur, rfl, _⟩
  · exact ⟨none, 0, rfl⟩
  · exact ⟨_, cap, rfl⟩
theorem scan_go {s : List UInt8} {g : Nat} {L : List (List UInt8)} (h : scanS s = (L ++ (scanS (s.drop g)).1, g + (scanS (s.drop g)).2)) (ho : (oneS (s.drop g)).2.2 = true) :
    scanS s = ((L ++ [(oneS (s.drop g)).1]) ++ (scanS (s.drop (g + (oneS (s.drop g)).2.1))).1, (g + (oneS (s.drop g)).2.1) + (scanS (s.drop (g + (oneS (s.drop g)).2.1))).2) := by
  rw [h, scanS_ok ho, List.drop_drop]
  simp only [List.append_assoc, List.singleton_append, Nat.add_assoc]
theorem scan_end {s : List UInt8} {g : Nat} {L : List (List UInt8)} (h : scanS s = (L ++ (scanS (s.drop g)).1, g + (scanS (s.drop g)).2)) (ho : (oneS (s.drop g)).2.2 = false) : scanS s = (L, g) := by
  rw [h, scanS_no ho]
  simp

set_option maxRecDepth 100000 in
set_option maxHeartbeats 4000000 in
theorem scan_any (s : List UInt8) (hl : s.length ≤ 1000000) (w : World) :
    Calls Tryz.prog 60 #[.string ⟨s.toArray⟩] w fun e w' => ∃ a cap, e = .returned (.tuple #[.slice a (scanS s).1.length cap, .int .i64 ((scanS s).2 : Nat)]) ∧ StrsO w.heap.size w' (.slice a (scanS s).1.length cap) (scanS s).1 ∧ Below w.heap.size w w' := by
  obtain ⟨i0, hi0, hz0, hz1, hz2⟩ := strs_info
  go_enter Tryz.func60, Tryz.ntmps60
  go_wp2_with fail
  go_loopw [2, 3] (fun v i wr => ∃ (L : List (List UInt8)) (g : Nat), g ≤ s.length ∧ L.length ≤ g ∧ i = .int .i64 g ∧ wr.ownsRow w.heap.size 9 1 v L.length (strsCells L) ∧ Below w.heap.size w wr ∧ Aside (scanS s = (L ++ (scanS (s.drop g)).1, g + (scanS (s.drop g)).2))) (fun _ i _ => s.length - (intOf i).toNat)
  case atStart => exact ⟨[], 0, Nat.zero_le _, Nat.zero_le _, rfl, World.ownsRow_nil _ _ _ _, Below.refl _ _, by show scanS s = _; simp⟩
  case round =>
    obtain ⟨L, g, hg, hLg, rfl, hown, hb, HS⟩ := hrel
    obtain ⟨av, cv, rfl⟩ := own_form' hown
    have hx := extract_drop s hg
    have hdl : (s.drop g).length ≤ 1000000 := by rw [List.length_drop]; omega
    have g0 : (0 : Int) ≤ (g : Int) := by omega
    have g1 : (g : Int) ≤ (s.length : Int) := by omega
    have hsz := hb.size
    go_wp2_with fail
    refine (one_any (s.drop g) hdl _).mono ?_
    rintro e w1 ⟨rfl, b1⟩
    have hown := own_below' hown b1
    have hb := below_step hb b1
    have hsz := hb.size
    clear b1 hx
    cases ho : (oneS (s.drop g)).2.2 with
    | false =>
      have HE := Lib.hid (scan_end HS.out ho)
      have hv : StrsO w.heap.size _ (.slice av L.length cv) L := hown
      go_wp2_with fail
      go_ret2
      refine ⟨av, cv, ?_, ?_, hb⟩
      · rw [HE.out]; rfl
      · rw [HE.out]; exact hv
    | true =>
      have HE := Lib.hid (scan_go HS.out ho)
      have hlong := one_long ho
      rw [List.length_drop] at hlong
      generalize (oneS (s.drop g)).1 = t at *
      generalize (oneS (s.drop g)).2.1 = n at *
      have hl1 : (L.length : Int) ≤ 1000000 := by omega
      have hn1 : wrap64 ((g : Int) + (n : Int)) = ((g + n : Nat) : Int) := (IntWalk.wrap64_in _ ⟨by omega, by omega⟩).trans (by omega)
      go_wp2_with (at_builtin; refine wpList_append_lies _ rfl (.tmp 19) (.tmp 21) 76 rfl w.heap.size 9 i0 _ 1 16 Tryz.underlying76 hi0 hz0 hz1 hz2 rfl (by omega) _ _ _ rfl (hown.alloc _) ⟨w1.heap.size, 0, none⟩ 1 1 [.string ⟨t.toArray⟩] rfl rfl ?c1 ?c2 (by omega) ?c3 ?c4 ?c5 (w1.heap.size + 1) (by simp) ?_)
      case c1 => first | exact World.news_of_block (heap_alloc_new _ _) | exact fun _ _ h => h
      case c2 => intro u hu; simp at hu; rcases hu with rfl; rfl
      case c3 => unfold maxLen; omega
      case c4 => omega
      case c5 => first | omega | (simp; omega)
      intro g' cap' w' hown' hg' hat' hlt'
      have hb2 : Below w.heap.size w w' := (hb.alloc hb.size _).grown hg' (by simp; omega) (fun j hj => by have := (hown.lt j hj).1; omega)
      clear hg' hat' hown hb
      have HO := Lib.hid hown'
      have HB := Lib.hid hb2
      have HN := Lib.hid hn1
      have HG := Lib.hid hlong
      clear hown' hb2 hlt' hn1 hlong hdl hl1 hsz
      go_wp2_with fail
      go_roundw
      have hlong := HG.out
      case rel => exact ⟨L ++ [t], g + n, by omega, by simp; omega, by rw [HN.out], by rw [strsCells_snoc, List.length_append]; exact HO.out, HB.out, HE.out⟩
      case measure => have hlong := HG.out; rw [HN.out]; simp [intOf]; omega
end Go.Proofs.YtomfmejodmfioaaGreat
