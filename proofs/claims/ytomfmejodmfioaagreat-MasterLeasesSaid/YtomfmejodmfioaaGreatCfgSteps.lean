/- What a right chain becomes: right again, behind it, and never the other way round. Plain Lean, no program in sight. -/
import Derived.Test.YtomfmejodmfioaaGreatKCfg
namespace Go.Proofs.YtomfmejodmfioaaGreat
set_option linter.unusedVariables false

theorem few_below : ∀ (n : Nat) (l : List Int), l.Nodup → (∀ x ∈ l, 0 ≤ x ∧ x < (n : Int)) → l.length ≤ n
  | 0, l, _, h => by
    cases l with
    | nil => exact Nat.le_refl _
    | cons x l => have := h x (List.mem_cons_self ..); omega
  | n + 1, l, hn, h => by
    have h1 := few_below n (l.erase (n : Int)) (hn.erase _) fun x hx => by
      have hx' := (hn.mem_erase_iff.1 hx)
      have := h x hx'.2
      have hne : x ≠ (n : Int) := hx'.1
      omega
    rw [List.length_erase] at h1
    split at h1 <;> omega
theorem rightSeats_all : ∀ {L : List SeatV}, seatsOk L = true → ∀ s ∈ L, mayM s.node s.life = true
  | x :: L, h, s, hs => by
    simp only [seatsOk, Bool.and_eq_true] at h
    rcases List.mem_cons.1 hs with rfl | hs
    · exact h.1
    · exact rightSeats_all h.2.2 s hs
theorem rightSeats_few {L : List SeatV} (h : seatsOk L = true) : L.length ≤ 8 := by
  have := few_below 8 (L.map SeatV.node) ((List.pairwise_map.2 (seatsOk_nodes h))) fun x hx => by
    obtain ⟨s, hs, rfl⟩ := List.mem_map.1 hx
    have := mayM_iff.1 (rightSeats_all h s hs)
    omega
  simpa using this
theorem rightSeats_filter (p : SeatV → Bool) : ∀ {L : List SeatV}, seatsOk L = true → seatsOk (L.filter p) = true
  | [], _ => rfl
  | x :: L, h => by
    simp only [seatsOk, Bool.and_eq_true, List.all_eq_true] at h
    rw [List.filter_cons]
    split
    · simp only [seatsOk, Bool.and_eq_true, List.all_eq_true]
      exact ⟨h.1, fun t ht => h.2.1 t (List.mem_filter.1 ht).1, rightSeats_filter p h.2.2⟩
    · exact rightSeats_filter p h.2.2
theorem rightSeats_set : ∀ {L : List SeatV} {k : Nat} {s : SeatV} (z : Bool), seatsOk L = true → L[k]? = some s → seatsOk (L.set k ⟨s.node, s.life, z⟩) = true
  | x :: L, 0, s, z, h, hs => by
    obtain rfl : x = s := by simpa using hs
    exact h
  | x :: L, k + 1, s, z, h, hs => by
    have hs : L[k]? = some s := by simpa using hs
    simp only [seatsOk, Bool.and_eq_true, List.all_eq_true, List.set_cons_succ] at h ⊢
    refine ⟨h.1, fun t ht => ?_, rightSeats_set z h.2.2 hs⟩
    rcases List.mem_or_eq_of_mem_set ht with ht | rfl
    · exact h.2.1 t ht
    · exact h.2.1 s (List.mem_of_getElem? hs)

theorem without_facts {e : Int} {L : List SeatV} {gone : List (Int × Int)} {d : ConfV} (h : withoutC ⟨e, L⟩ gone = (d, 0)) :
    rightC ⟨e, L⟩ = true ∧ d = ⟨e + 1, leftC L gone⟩ ∧ (leftC L gone).length ≠ L.length ∧ (leftC L gone)[0]?.map SeatV.sync = some true ∧ e < 1099511627776 := by
  unfold withoutC at h
  split at h
  · simp at h
  · rename_i hr
    split at h
    · simp at h
    · rename_i hl
      split at h
      · rename_i h0
        unfold laterC at h
        split at h
        · simp at h
        · rename_i he
          simp only [Prod.mk.injEq, and_true] at h
          exact ⟨by simpa using hr, h.symm, hl, h0, by simpa using he⟩
      · simp at h
theorem join_facts {e : Int} {L : List SeatV} {n l : Int} {d : ConfV} (h : joinC ⟨e, L⟩ n l = (d, 0)) :
    rightC ⟨e, L⟩ = true ∧ mayM n l = true ∧ L.any (fun s => s.node == n) = false ∧ d = ⟨e + 1, L ++ [⟨n, l, false⟩]⟩ ∧ e < 1099511627776 := by
  unfold joinC at h
  split at h
  · simp at h
  · rename_i hr
    split at h
    · simp at h
    · rename_i hm
      split at h
      · simp at h
      · rename_i ha
        unfold laterC at h
        split at h
        · simp at h
        · rename_i he
          simp only [Prod.mk.injEq, and_true] at h
          exact ⟨by simpa using hr, by simpa using hm, by simpa using ha, h.symm, by simpa using he⟩
theorem synced_facts {e : Int} {L : List SeatV} {n l : Int} {d : ConfV} (h : syncedC ⟨e, L⟩ n l = (d, 0)) :
    rightC ⟨e, L⟩ = true ∧ ∃ k, L[k]? = some ⟨n, l, false⟩ ∧ L.findIdx? (fun s => s.node == n && s.life == l) = some k ∧ d = ⟨e, L.set k ⟨n, l, true⟩⟩ := by
  unfold syncedC at h
  split at h
  · simp at h
  · rename_i hr
    simp only at h
    split at h
    · simp at h
    · rename_i k hk
      split at h
      · simp at h
      · rename_i hz
        simp only [Prod.mk.injEq, and_true] at h
        refine ⟨by simpa using hr, k, ?_, hk, h.symm⟩
        rw [List.findIdx?_eq_some_iff_getElem] at hk
        obtain ⟨hkl, hp, _⟩ := hk
        simp only [Bool.and_eq_true, beq_iff_eq] at hp
        rw [List.getElem?_eq_getElem hkl] at hz ⊢
        cases hLk : L[k] with
        | mk x y z =>
          rw [hLk] at hp hz
          obtain ⟨rfl, rfl⟩ := hp
          cases z
          · rfl
          · simp at hz

theorem without_right {e : Int} {L : List SeatV} {gone : List (Int × Int)} {d : ConfV} (h : withoutC ⟨e, L⟩ gone = (d, 0)) : rightC d = true := by
  obtain ⟨hr, rfl, hl, h0, he⟩ := without_facts h
  have r := rightC_iff.1 hr
  simp only at r
  refine rightC_iff.2 ⟨by simp only; omega, by simp only; omega, ?_, ?_, h0, rightSeats_filter _ r.2.2.2.2.2⟩
  · simp only
    cases hq : leftC L gone with
    | nil => rw [hq] at h0; simp at h0
    | cons x M => simp
  · simp only
    have := List.length_filter_le (fun s : SeatV => !gone.contains (s.node, s.life)) L
    unfold leftC
    omega
theorem join_right {e : Int} {L : List SeatV} {n l : Int} {d : ConfV} (h : joinC ⟨e, L⟩ n l = (d, 0)) : rightC d = true := by
  obtain ⟨hr, hm, ha, rfl, he⟩ := join_facts h
  have r := rightC_iff.1 hr
  simp only at r
  have hs : seatsOk (L ++ [⟨n, l, false⟩]) = true := by
    rw [seatsOk_snoc, r.2.2.2.2.2, hm]
    simp only [Bool.true_and, List.all_eq_true, bne_iff_ne, ne_eq]
    intro t ht he
    rw [List.any_eq_false] at ha
    exact ha t ht (by simpa using he)
  refine rightC_iff.2 ⟨by simp only; omega, by simp only; omega, by simp, rightSeats_few hs, ?_, hs⟩
  simp only
  rw [List.getElem?_append_left (by omega)]
  exact r.2.2.2.2.1
theorem synced_right {e : Int} {L : List SeatV} {n l : Int} {d : ConfV} (h : syncedC ⟨e, L⟩ n l = (d, 0)) : rightC d = true := by
  obtain ⟨hr, k, hk, _, rfl⟩ := synced_facts h
  have r := rightC_iff.1 hr
  simp only at r
  refine rightC_iff.2 ⟨r.1, r.2.1, by simp only [List.length_set]; exact r.2.2.1, by simp only [List.length_set]; exact r.2.2.2.1, ?_, rightSeats_set (s := ⟨n, l, false⟩) true r.2.2.2.2.2 hk⟩
  simp only
  rw [List.getElem?_set]
  split
  · simp_all
  · exact r.2.2.2.2.1

theorem sameC_ne {a b : ConfV} (h : a.epoch ≠ b.epoch) : sameC a b = false := by
  rw [Bool.eq_false_iff]
  intro hs
  exact h (congrArg ConfV.epoch (sameC_iff.1 hs))
theorem join_epoch {a : ConfV} {n l : Int} {d : ConfV} (h : joinC a n l = (d, 0)) : d.epoch = a.epoch + 1 := by
  obtain ⟨e, L⟩ := a
  obtain ⟨_, _, _, rfl, _⟩ := join_facts h
  rfl
theorem without_epoch {a : ConfV} {g : List (Int × Int)} {d : ConfV} (h : withoutC a g = (d, 0)) : d.epoch = a.epoch + 1 := by
  obtain ⟨e, L⟩ := a
  obtain ⟨_, rfl, _⟩ := without_facts h
  rfl
theorem not_back {a b : ConfV} (h : b.epoch = a.epoch + 1) : followsC b a = false := by
  have hne : b.epoch ≠ a.epoch := by omega
  unfold followsC
  split
  · rfl
  · split
    · rfl
    · rw [sameC_ne hne]
      simp only [Bool.false_eq_true, if_false]
      have hj : joinTo b a (lastC a.chain).1 (lastC a.chain).2.1 = false := by
        rw [Bool.eq_false_iff]
        intro hj
        simp only [joinTo, Bool.and_eq_true, beq_iff_eq, sameC_iff] at hj
        have := join_epoch (Prod.ext hj.2 hj.1 : joinC b _ _ = (a, 0))
        omega
      rw [hj]
      simp only [Bool.false_eq_true, if_false]
      unfold leaveTo
      split
      · rw [Bool.eq_false_iff]
        intro hq
        simp only [Bool.and_eq_true, beq_iff_eq] at hq
        omega
      · rw [Bool.eq_false_iff]
        intro hq
        simp only [Bool.and_eq_true, beq_iff_eq, sameC_iff] at hq
        have := without_epoch (Prod.ext hq.2 hq.1 : withoutC b _ = (a, 0))
        omega

theorem follows_self {c : ConfV} (h : rightC c = true) : followsC c c = true := by
  unfold followsC
  rw [h, sameC_iff.2 rfl]
  simp
theorem follows_without {a : ConfV} {g : List (Int × Int)} {d : ConfV} (h : withoutC a g = (d, 0)) : followsC a d = true := by
  have hd := without_right (e := a.epoch) (L := a.chain) h
  obtain ⟨e, L⟩ := a
  obtain ⟨hr, rfl, hl, h0, he⟩ := without_facts h
  have hpa := seatsOk_nodes (rightC_iff.1 hr).2.2.2.2.2
  have hsub : (leftC L g).Sublist L := List.filter_sublist
  unfold followsC
  rw [hr, hd, sameC_ne (by simp only; omega)]
  simp only [Bool.true_eq_false, Bool.false_eq_true, if_false]
  rw [if_neg (by omega)]
  have hlv : leaveTo ⟨e, L⟩ ⟨e + 1, leftC L g⟩ = true := by
    unfold leaveTo
    simp only
    have hg : (goneC L (leftC L g)).length ≠ 0 := by
      intro hz
      apply hl
      have := gone_nil.1 hz
      have hall : L.filter (fun s => (leftC L g).contains s) = L := List.filter_eq_self.2 fun s hs => by simpa using this s hs
      rw [filter_sublist_eq hsub (nodes_nodup hpa)] at hall
      rw [hall]
    rw [if_neg hg]
    have hlg : leftC L (goneC L (leftC L g)) = leftC L g := by
      rw [left_gone hpa]
      exact filter_sublist_eq hsub (nodes_nodup hpa)
    have hw : withoutC ⟨e, L⟩ (goneC L (leftC L g)) = (⟨e + 1, leftC L g⟩, 0) := by
      unfold withoutC
      simp only [hlg]
      rw [hr]
      simp only [Bool.true_eq_false, if_false]
      rw [if_neg hl, if_pos h0, laterC, if_neg (by omega)]
    rw [hw]
    simp [sameC_iff]
  rw [hlv]
  simp
theorem follows_join {a : ConfV} {n l : Int} {d : ConfV} (h : joinC a n l = (d, 0)) : followsC a d = true := by
  have hd := join_right (e := a.epoch) (L := a.chain) h
  obtain ⟨e, L⟩ := a
  obtain ⟨hr, hm, ha, rfl, he⟩ := join_facts h
  unfold followsC
  rw [hr, hd, sameC_ne (by simp only; omega)]
  simp only [Bool.true_eq_false, Bool.false_eq_true, if_false]
  rw [if_neg (by omega)]
  have hlast : lastC (L ++ [⟨n, l, false⟩]) = (n, l, true) := by
    unfold lastC atC
    rw [if_neg (by simp)]
    have : (((L ++ [(⟨n, l, false⟩ : SeatV)]).length : Int) - 1).toNat = L.length := by simp
    rw [this]
    simp
  have hj : joinTo ⟨e, L⟩ ⟨e + 1, L ++ [⟨n, l, false⟩]⟩ (lastC (L ++ [⟨n, l, false⟩])).1 (lastC (L ++ [⟨n, l, false⟩])).2.1 = true := by
    rw [hlast]
    unfold joinTo
    simp only
    rw [h]
    simp [sameC_iff]
  rw [hj]
  simp
theorem follows_synced {a : ConfV} {n l : Int} {d : ConfV} (h : syncedC a n l = (d, 0)) : followsC a d = true := by
  have hd := synced_right (e := a.epoch) (L := a.chain) h
  obtain ⟨e, L⟩ := a
  obtain ⟨hr, k, hk, hf, rfl⟩ := synced_facts h
  unfold followsC
  rw [hr, hd]
  simp only [Bool.true_eq_false, if_false]
  split
  · rfl
  · simp only [if_true]
    rw [List.any_eq_true]
    refine ⟨_, List.mem_of_getElem? hk, ?_⟩
    unfold syncTo
    simp only
    rw [h]
    simp [sameC_iff]
theorem synced_not_back {a : ConfV} {n l : Int} {d : ConfV} (h : syncedC a n l = (d, 0)) : followsC d a = false := by
  obtain ⟨e, L⟩ := a
  obtain ⟨hr, k, hk, hf, rfl⟩ := synced_facts h
  have hkl := (List.getElem?_eq_some_iff.1 hk).1
  have hg : ∀ (M : List SeatV) (j : Nat) (x y : Int), M[j]? = some ⟨x, y, false⟩ → (M.set j ⟨x, y, true⟩).countP SeatV.sync = M.countP SeatV.sync + 1 := by
    intro M
    induction M with
    | nil => intro j x y h; simp at h
    | cons s M ih =>
      intro j x y h
      cases j with
      | zero =>
        obtain rfl : s = ⟨x, y, false⟩ := by simpa using h
        simp
      | succ j =>
        have := ih j x y (by simpa using h)
        rw [List.set_cons_succ, List.countP_cons, List.countP_cons, this]
        omega
  have h1 := hg L k n l hk
  have hne : sameC ⟨e, L.set k ⟨n, l, true⟩⟩ ⟨e, L⟩ = false := by
    rw [Bool.eq_false_iff]
    intro hs
    have := congrArg ConfV.chain (sameC_iff.1 hs)
    simp only at this
    rw [this] at h1
    omega
  unfold followsC
  split
  · rfl
  · split
    · rfl
    · rw [hne]
      simp only [Bool.false_eq_true, if_false, if_true]
      rw [List.any_eq_false]
      intro s hs hq
      simp only [syncTo, Bool.and_eq_true, beq_iff_eq, sameC_iff] at hq
      obtain ⟨_, j, hj, _, hc⟩ := synced_facts (Prod.ext hq.2 hq.1 : syncedC _ _ _ = ((⟨e, L⟩ : ConfV), 0))
      have h2 := hg _ j _ _ hj
      have := congrArg ConfV.chain hc
      simp only at this
      rw [← this] at h2
      omega

/-- A step: what a chain becomes by a call of a kind. -/
def stepC (k : Int) (c : ConfV) (m n : Int × Int) : ConfV × Int :=
  if k = 1 then withoutC c [m, n] else if k = 2 then joinC c m.1 m.2 else if k = 3 then syncedC c m.1 m.2 else (c, 0)
theorem step_facts {k : Int} {c d : ConfV} {m n : Int × Int} (hc : rightC c = true) (h : stepC k c m n = (d, 0)) : rightC d = true ∧ followsC c d = true ∧ c.epoch ≤ d.epoch ∧
    ∃ s t i, d.chain[0]? = some s ∧ placeC c.chain s.node s.life = (i : Nat) ∧ c.chain[i]? = some t ∧ t.sync = true := by
  have hpl : ∀ {s t : SeatV} {i : Nat}, c.chain[i]? = some t → t.node = s.node → t.life = s.life → placeC c.chain s.node s.life = (i : Nat) := by
    intro s t i ht h1 h2
    refine placeBy_hit ht (by simp [h1, h2]) fun j u hj hu => ?_
    rw [Bool.eq_false_iff]
    intro hp
    simp only [Bool.and_eq_true, beq_iff_eq] at hp
    have hpw := seatsOk_nodes (rightC_iff.1 hc).2.2.2.2.2
    have hne := List.pairwise_iff_getElem.1 hpw j i (List.getElem?_eq_some_iff.1 hu).1 (List.getElem?_eq_some_iff.1 ht).1 hj
    rw [(List.getElem?_eq_some_iff.1 hu).2, (List.getElem?_eq_some_iff.1 ht).2] at hne
    exact hne (hp.1.trans h1.symm)
  have h0 := (rightC_iff.1 hc).2.2.2.2.1
  obtain ⟨s0, hs0, hz0⟩ : ∃ s0, c.chain[0]? = some s0 ∧ s0.sync = true := by
    cases hq : c.chain[0]? with
    | none => rw [hq] at h0; simp at h0
    | some s => rw [hq] at h0; exact ⟨s, rfl, by simpa using h0⟩
  obtain ⟨e, L⟩ := c
  simp only at hs0 hpl
  unfold stepC at h
  split at h
  · refine ⟨without_right h, follows_without h, by rw [without_epoch h]; simp only; omega, ?_⟩
    obtain ⟨_, rfl, _, hq, _⟩ := without_facts h
    simp only
    cases hs : (leftC L [m, n])[0]? with
    | none => rw [hs] at hq; simp at hq
    | some s =>
      rw [hs] at hq
      have hz : s.sync = true := by simpa using hq
      have hm : s ∈ L := (List.mem_filter.1 (List.mem_of_getElem? hs)).1
      obtain ⟨i, hi⟩ := List.getElem?_of_mem hm
      exact ⟨s, s, i, rfl, hpl hi rfl rfl, hi, hz⟩
  · split at h
    · refine ⟨join_right h, follows_join h, by rw [join_epoch h]; simp only; omega, ?_⟩
      obtain ⟨_, _, _, rfl, _⟩ := join_facts h
      simp only
      refine ⟨s0, s0, 0, ?_, hpl hs0 rfl rfl, hs0, hz0⟩
      rw [List.getElem?_append_left (List.getElem?_eq_some_iff.1 hs0).1]
      exact hs0
    · split at h
      · have hR := synced_right h
        have hF := follows_synced h
        obtain ⟨_, k', hk, _, rfl⟩ := synced_facts h
        refine ⟨hR, hF, Int.le_refl _, ?_⟩
        simp only
        have hne : k' ≠ 0 := by
          rintro rfl
          rw [hs0] at hk
          injection hk with hk
          rw [hk] at hz0
          cases hz0
        refine ⟨s0, s0, 0, ?_, hpl hs0 rfl rfl, hs0, hz0⟩
        rw [List.getElem?_set_ne hne]
        exact hs0
      · simp only [Prod.mk.injEq, and_true] at h
        subst h
        exact ⟨hc, follows_self hc, Int.le_refl _, s0, s0, 0, hs0, hpl hs0 rfl rfl, hs0, hz0⟩
theorem first_right {n : Int} (h1 : 1 ≤ n) (h8 : n ≤ 8) : ∃ L, firstC n = (⟨1, L⟩, 0) ∧ rightC ⟨1, L⟩ = true := by
  refine ⟨firstSeats n.toNat, ?_, ?_⟩
  · rw [firstC, if_pos ⟨h1, h8⟩]
  · have : n = 1 ∨ n = 2 ∨ n = 3 ∨ n = 4 ∨ n = 5 ∨ n = 6 ∨ n = 7 ∨ n = 8 := by omega
    rcases this with rfl | rfl | rfl | rfl | rfl | rfl | rfl | rfl <;> rfl
end Go.Proofs.YtomfmejodmfioaaGreat
