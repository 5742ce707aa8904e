/- Whether a chain may come behind another one: the program's way and the document's come to the same. -/
import Derived.Test.YtofdmdpnobhnlaaCfgPlain
namespace Go.Proofs.Ytofdmdpnobhnlaa
set_option linter.unusedVariables false

def sameC (a b : ConfV) : Bool := a.epoch == b.epoch && decide (a.chain = b.chain)
theorem sameC_iff {a b : ConfV} : sameC a b = true ↔ a = b := by
  obtain ⟨e, L⟩ := a
  obtain ⟨f, M⟩ := b
  simp [sameC]
def syncTo (a b : ConfV) (s : SeatV) : Bool := ((syncedC a s.node s.life).2 == 0) && sameC (syncedC a s.node s.life).1 b
def joinTo (a b : ConfV) (n l : Int) : Bool := ((joinC a n l).2 == 0) && sameC (joinC a n l).1 b
/-- The members that are no more. -/
def goneC (L M : List SeatV) : List (Int × Int) := (L.filter fun s => !M.contains s).map fun s => (s.node, s.life)
def leaveTo (a b : ConfV) : Bool :=
  if (goneC a.chain b.chain).length = 0 then b.epoch == a.epoch + 1 && decide (a.chain = b.chain)
  else ((withoutC a (goneC a.chain b.chain)).2 == 0) && sameC (withoutC a (goneC a.chain b.chain)).1 b
def lastC (M : List SeatV) : Int × Int × Bool := atC M ((M.length : Int) - 1)
def followsC (a b : ConfV) : Bool :=
  if rightC a = false then false else
  if rightC b = false then false else
  if sameC a b = true then true else
  if a.epoch = b.epoch then a.chain.any (syncTo a b) else
  if joinTo a b (lastC b.chain).1 (lastC b.chain).2.1 = true then true else
  leaveTo a b
/-- How far the seats go, taken one by one. -/
def greedy (M : List SeatV) : Nat → List SeatV → Nat
  | k, [] => k
  | k, s :: L => if M[k]? = some s then greedy M (k + 1) L else greedy M k L
def qfollowsC (a b : ConfV) : Bool :=
  if rightC a = false then false else
  if rightC b = false then false else
  if sameC a b = true then true else
  if a.epoch = b.epoch then a.chain.any (syncTo a b) else
  if b.epoch = a.epoch + 1 then
    if joinTo a b (lastC b.chain).1 (lastC b.chain).2.1 = true then true else decide (greedy b.chain 0 a.chain = b.chain.length)
  else false

theorem greedy_snoc (M : List SeatV) : ∀ (L : List SeatV) (k : Nat) (s : SeatV), greedy M k (L ++ [s]) = if M[greedy M k L]? = some s then greedy M k L + 1 else greedy M k L
  | [], k, s => rfl
  | x :: L, k, s => by
    have e : ∀ k, greedy M k (x :: (L ++ [s])) = if M[k]? = some x then greedy M (k + 1) (L ++ [s]) else greedy M k (L ++ [s]) := fun _ => rfl
    have e' : ∀ k, greedy M k (x :: L) = if M[k]? = some x then greedy M (k + 1) L else greedy M k L := fun _ => rfl
    rw [List.cons_append, e, e']
    split
    · exact greedy_snoc M L (k + 1) s
    · exact greedy_snoc M L k s
theorem greedy_le (M : List SeatV) : ∀ (L : List SeatV) (k : Nat), k ≤ M.length → greedy M k L ≤ M.length
  | [], k, h => h
  | x :: L, k, h => by
    have e' : greedy M k (x :: L) = if M[k]? = some x then greedy M (k + 1) L else greedy M k L := rfl
    rw [e']
    split
    · rename_i hx
      have := (List.getElem?_eq_some_iff.1 hx).1
      exact greedy_le M L (k + 1) (by omega)
    · exact greedy_le M L k h
theorem greedy_sub (M : List SeatV) : ∀ (L : List SeatV) (k : Nat), k ≤ M.length → (greedy M k L = M.length ↔ (M.drop k).Sublist L)
  | [], k, h => by
    have e : greedy M k [] = k := rfl
    rw [e, List.sublist_nil, List.drop_eq_nil_iff]
    omega
  | x :: L, k, h => by
    have e' : greedy M k (x :: L) = if M[k]? = some x then greedy M (k + 1) L else greedy M k L := rfl
    rw [e']
    rcases Nat.lt_or_ge k M.length with hk | hk
    · rw [List.drop_eq_getElem_cons hk]
      by_cases hx : M[k]? = some x
      · have hxe : M[k] = x := (List.getElem?_eq_some_iff.1 hx).2
        rw [if_pos hx, greedy_sub M L (k + 1) (by omega), hxe, List.cons_sublist_cons]
      · have hxe : M[k] ≠ x := fun he => hx (by rw [List.getElem?_eq_getElem hk, he])
        rw [if_neg hx, greedy_sub M L k h, List.drop_eq_getElem_cons hk]
        constructor
        · intro hs; exact hs.cons _
        · intro hs
          rcases List.sublist_cons_iff.1 hs with hs | ⟨r, hr, _⟩
          · exact hs
          · cases hr; exact absurd rfl hxe
    · have hd : M.drop k = [] := List.drop_eq_nil_iff.2 hk
      rw [hd]
      have : M[k]? = none := List.getElem?_eq_none hk
      rw [if_neg (by rw [this]; simp), greedy_sub M L k h, hd]
      simp
theorem seatsOk_nodes : ∀ {L : List SeatV}, seatsOk L = true → L.Pairwise (fun s t => s.node ≠ t.node)
  | [], _ => List.Pairwise.nil
  | s :: L, h => by
    simp only [seatsOk, Bool.and_eq_true, List.all_eq_true, bne_iff_ne, ne_eq] at h
    exact List.pairwise_cons.2 ⟨fun t ht he => h.2.1 t ht he.symm, seatsOk_nodes h.2.2⟩
theorem nodes_inj {L : List SeatV} (h : L.Pairwise (fun s t => s.node ≠ t.node)) {s t : SeatV} (hs : s ∈ L) (ht : t ∈ L) (he : s.node = t.node) : s = t := by
  induction L with
  | nil => cases hs
  | cons x L ih =>
    rw [List.pairwise_cons] at h
    rcases List.mem_cons.1 hs with rfl | hs' <;> rcases List.mem_cons.1 ht with rfl | ht'
    · rfl
    · exact absurd he (h.1 _ ht')
    · exact absurd he.symm (h.1 _ hs')
    · exact ih h.2 hs' ht'
theorem nodes_nodup {L : List SeatV} (h : L.Pairwise (fun s t => s.node ≠ t.node)) : L.Nodup := h.imp (fun hne he => hne (by rw [he]))
/-- Those that do not go, where those go that are not there. -/
theorem left_gone {L M : List SeatV} (h : L.Pairwise (fun s t => s.node ≠ t.node)) : leftC L (goneC L M) = L.filter fun s => M.contains s := by
  unfold leftC
  apply List.filter_congr
  intro s hs
  rw [Bool.eq_iff_iff]
  simp only [Bool.not_eq_true', List.contains_iff_mem]
  constructor
  · intro hg
    by_cases hm : s ∈ M
    · exact hm
    · exfalso
      have : (s.node, s.life) ∈ goneC L M := List.mem_map.2 ⟨s, List.mem_filter.2 ⟨hs, by simpa using hm⟩, rfl⟩
      rw [← List.contains_iff_mem] at this
      rw [this] at hg
      cases hg
  · intro hm
    rw [← Bool.not_eq_true, List.contains_iff_mem]
    intro hg
    obtain ⟨t, ht, he⟩ := List.mem_map.1 hg
    obtain ⟨htL, htM⟩ := List.mem_filter.1 ht
    have : t = s := nodes_inj h htL hs (by injection he)
    subst this
    simp [hm] at htM
theorem filter_sublist_eq {L M : List SeatV} (h : M.Sublist L) (hn : L.Nodup) : (L.filter fun s => M.contains s) = M := by
  induction h with
  | slnil => rfl
  | cons a h ih =>
    rw [List.nodup_cons] at hn
    rw [List.filter_cons_of_neg (by simpa using fun hm => hn.1 (h.subset hm))]
    exact ih hn.2
  | cons_cons a h ih =>
    rename_i M' L'
    rw [List.nodup_cons] at hn
    rw [List.filter_cons_of_pos (by simp)]
    congr 1
    rw [← ih hn.2]
    apply List.filter_congr
    intro s hs
    rw [ih hn.2, Bool.eq_iff_iff]
    simp only [List.contains_iff_mem, List.mem_cons]
    constructor
    · rintro (rfl | h)
      · exact absurd hs hn.1
      · exact h
    · exact fun h => .inr h
theorem gone_nil {L M : List SeatV} : (goneC L M).length = 0 ↔ ∀ s ∈ L, s ∈ M := by
  rw [goneC, List.length_map, List.length_eq_zero_iff, List.filter_eq_nil_iff]
  simp

theorem qfollows_eq (a b : ConfV) : qfollowsC a b = followsC a b := by
  obtain ⟨e, L⟩ := a
  obtain ⟨f, M⟩ := b
  unfold qfollowsC followsC
  cases ha : rightC ⟨e, L⟩ with
  | false => rfl
  | true =>
  cases hb : rightC ⟨f, M⟩ with
  | false => rfl
  | true =>
  simp only [Bool.true_eq_false, if_false]
  cases hs : sameC ⟨e, L⟩ ⟨f, M⟩ with
  | true => rfl
  | false =>
  simp only [Bool.false_eq_true, if_false]
  by_cases hef : e = f
  · rw [if_pos hef, if_pos hef]
  rw [if_neg hef, if_neg hef]
  have ra := rightC_iff.1 ha
  have rb := rightC_iff.1 hb
  simp only at ra rb
  have hpa := seatsOk_nodes ra.2.2.2.2.2
  have hna := nodes_nodup hpa
  cases hj : joinTo ⟨e, L⟩ ⟨f, M⟩ (lastC M).1 (lastC M).2.1 with
  | true =>
    have hfe : f = e + 1 := by
      simp only [joinTo, Bool.and_eq_true, beq_iff_eq, sameC_iff] at hj
      obtain ⟨h0, h1⟩ := hj
      have := congrArg ConfV.epoch h1
      simp only at this
      rw [← this]
      unfold joinC laterC at h0 ⊢
      split at h0
      · simp at h0
      · split at h0
        · simp at h0
        · split at h0
          · simp at h0
          · split at h0
            · simp at h0
            · rw [if_neg ‹_›, if_neg ‹_›, if_neg ‹_›, if_neg ‹_›]
    simp [hfe]
  | false =>
    simp only [Bool.false_eq_true, if_false]
    have hg := greedy_sub M L 0 (Nat.zero_le _)
    rw [List.drop_zero] at hg
    unfold leaveTo
    simp only
    have hlf := left_gone (M := M) hpa
    by_cases hgn : (goneC L M).length = 0
    · rw [if_pos hgn]
      by_cases hfe : f = e + 1
      · rw [if_pos hfe, Bool.eq_iff_iff]
        simp only [decide_eq_true_eq, Bool.and_eq_true, beq_iff_eq, hg]
        constructor
        · intro h
          refine ⟨hfe, ?_⟩
          have hf := filter_sublist_eq h hna
          rw [List.filter_eq_self.2 (fun s hs => by simpa using gone_nil.1 hgn s hs)] at hf
          exact hf
        · rintro ⟨_, h⟩
          rw [h]
          exact List.Sublist.refl _
      · rw [if_neg hfe]
        symm
        rw [Bool.eq_false_iff]
        intro h
        simp only [Bool.and_eq_true, beq_iff_eq] at h
        exact hfe h.1
    · rw [if_neg hgn]
      have hw : withoutC ⟨e, L⟩ (goneC L M) = if (leftC L (goneC L M)).length = L.length then (⟨0, []⟩, 10) else if (leftC L (goneC L M))[0]?.map SeatV.sync = some true then laterC e (leftC L (goneC L M)) else (⟨0, []⟩, 13) := by
        rw [withoutC, if_neg (by rw [ha]; simp)]
      by_cases hfe : f = e + 1
      · rw [if_pos hfe, Bool.eq_iff_iff]
        simp only [decide_eq_true_eq, Bool.and_eq_true, beq_iff_eq, hg, sameC_iff]
        constructor
        · intro h
          have hf := filter_sublist_eq h hna
          rw [hlf, hf] at hw
          have hne : M.length ≠ L.length := by
            intro he
            have := h.eq_of_length he
            subst this
            exact hgn (gone_nil.2 fun s hs => hs)
          rw [if_neg hne, if_pos rb.2.2.2.2.1, laterC, if_neg (by omega)] at hw
          rw [hw]
          exact ⟨rfl, by rw [hfe]⟩
        · rintro ⟨h0, h1⟩
          rw [hw] at h0 h1
          split at h0
          · simp at h0
          · rename_i hq1
            rw [if_neg hq1] at h1
            split at h0
            · rename_i hq2
              rw [if_pos hq2] at h1
              unfold laterC at h0 h1
              split at h0
              · simp at h0
              · rename_i hq3
                rw [if_neg hq3] at h1
                have : leftC L (goneC L M) = M := congrArg ConfV.chain h1
                rw [← this]
                exact List.filter_sublist
            · simp at h0
      · rw [if_neg hfe]
        symm
        rw [Bool.eq_false_iff]
        intro h
        simp only [Bool.and_eq_true, beq_iff_eq, sameC_iff] at h
        obtain ⟨h0, h1⟩ := h
        rw [hw] at h0 h1
        split at h0
        · simp at h0
        · rename_i hq1
          rw [if_neg hq1] at h1
          split at h0
          · rename_i hq2
            rw [if_pos hq2] at h1
            unfold laterC at h0 h1
            split at h0
            · simp at h0
            · rename_i hq3
              rw [if_neg hq3] at h1
              exact hfe (congrArg ConfV.epoch h1).symm
          · simp at h0
end Go.Proofs.Ytofdmdpnobhnlaa
