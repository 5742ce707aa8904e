/- Small facts on writes, for the laws that play scripts. -/
import Derived.Test.YtoiaigbagfalmaaStOps
namespace Go.Proofs.Ytoiaigbagfalmaa
open Go.RowKit Go.ChangeShapes Go.WideShapes Go.Joins Go.Deep
set_option linter.unusedVariables false

theorem writeS_cases (l s : List UInt8) (keep : Int) : (∃ x, x ≠ 0 ∧ writeS l false s keep = (l, x)) ∨ (s.length ≤ 1024 ∧ l.length + (bytesS s).length ≤ 65536 ∧ writeS l false s keep = (l ++ (bytesS s).take (keepS s keep), 0)) := by
  unfold writeS
  split
  · exact .inl ⟨15, by omega, rfl⟩
  · split
    · exact .inl ⟨13, by omega, rfl⟩
    · split
      · exact .inl ⟨5, by omega, rfl⟩
      · exact .inr ⟨by omega, by omega, rfl⟩
theorem keepS_all {s : List UInt8} (h : s.length ≤ 1024) : (bytesS s).take (keepS s 1099511627776) = bytesS s := by
  apply List.take_of_length_le
  have h1 := bytesS_len s
  have h2 := encS_len s
  unfold keepS
  omega
/-- What a crash leaves, read again. -/
theorem crash_scan {K : List (List UInt8)} {s : List UInt8} {j : Nat} (hK : ∀ t ∈ K, t.length ≤ 1000000) (hs : s.length ≤ 1024) (hj : j ≤ (bytesS s).length) :
    scanS (recs K ++ (bytesS s).take j) = (K ++ [s], (recs (K ++ [s])).length) ∧ recs K ++ (bytesS s).take j = recs (K ++ [s]) ∨ scanS (recs K ++ (bytesS s).take j) = (K, (recs K).length) := by
  rcases Nat.lt_or_ge j (bytesS s).length with h | h
  · exact .inr (scan_recs K _ hK (one_cut s (by omega) h))
  · left
    rw [List.take_of_length_le h, ← recs_snoc]
    exact ⟨scan_all _ (by
      intro t ht
      rcases List.mem_append.1 ht with ht | ht
      · exact hK t ht
      · rw [List.mem_singleton.1 ht]; omega), rfl⟩
theorem recs_small {K : List (List UInt8)} (h : (recs K).length ≤ 65536) : ∀ t ∈ K, t.length ≤ 1000000 := by
  intro t ht
  have : t.length ≤ (recs K).length := by
    clear h
    induction K with
    | nil => cases ht
    | cons a L ih =>
      rw [recs_cons, List.length_append]
      have h1 := bytesS_len a
      have h2 := encS_len a
      rcases List.mem_cons.1 ht with rfl | h
      · omega
      · have := ih h; omega
  omega
theorem recs_count {K : List (List UInt8)} : K.length ≤ (recs K).length := by
  induction K with
  | nil => exact Nat.le_refl _
  | cons a L ih =>
    rw [recs_cons, List.length_append, List.length_cons]
    have h1 := bytesS_len a
    omega
/-- A log stays as it was where a row of texts grows. -/
theorem LogAt.grownRow {B B' b : Nat} {w w' : World} {v u : Value} {L : List (List UInt8)} {l : List UInt8} {t : Bool} (h : LogAt B w b v l t) (hu : StrsO B' w u L) (hg : w.grownBy w' u.ownBlock) : LogAt B w' b v l t := by
  refine ⟨h.1, (hg.block b h.lt (own_apart h.2.1 hu (by decide))).trans h.2.1, h.2.2.kept hg (own_types h.2.2 hu (by decide))⟩
theorem LogAt.alloc {B b : Nat} {w : World} {v : Value} {l : List UInt8} {t : Bool} (h : LogAt B w b v l t) (o : Obj) : LogAt B (w.alloc o) b v l t := h.below ((Below.refl _ _).alloc (Nat.le_refl _) o)
theorem StrsO.alloc {B : Nat} {w : World} {v : Value} {L : List (List UInt8)} (h : StrsO B w v L) (o : Obj) : StrsO B (w.alloc o) v L := h.below ((Below.refl _ _).alloc (Nat.le_refl _) o)
theorem StrsO.snoc {B : Nat} {w : World} {v : Value} {L : List (List UInt8)} {t : List UInt8} (h : w.ownsRow B 9 1 v (L.length + 1) (strsCells L ++ [.string ⟨t.toArray⟩])) : StrsO B w v (L ++ [t]) := by
  unfold StrsO
  rw [strsCells_snoc, List.length_append]
  exact h
/-- A row made later stays as it was where an elder one grows. -/
theorem StrsO.grownApart {B : Nat} {w w' : World} {x u : Value} {L : List (List UInt8)} (hx : StrsO B w x L) (h : ∀ j, u.ownBlock = some j → j < B) (hg : w.grownBy w' u.ownBlock) : StrsO B w' x L := by
  refine World.ownsRow.kept hx hg ?_
  rcases hu : x.ownBlock with _ | j
  · exact .inl rfl
  · right
    intro e
    have h1 := (World.ownsRow.lt hx j hu).1
    have h2 := h j e.symm
    omega
theorem blk_keptL {b T : Nat} {w w' : World} {Ty : TypeId} {cs : List Value} {r : Option Nat} (hT : BlkAt w T Ty cs) (hk : KeptL w w' b r) (hb : b < T) (hr : ∀ j, r = some j → j < T) : BlkAt w' T Ty cs :=
  (hk.block T hT.lt (by omega) (fun e => by have := hr T e.symm; omega)).trans hT
end Go.Proofs.Ytoiaigbagfalmaa
