/- Rows of texts: those that came in, those of the call's own; whether two are the same. -/
import Derived.Test.YtomfmejodmfioaaGreatStrRow
import Derived.Test.YtomfmejodmfioaaGreatKOp1
namespace Go.Proofs.YtomfmejodmfioaaGreat
open Go.RowKit Go.ChangeShapes Go.WideShapes Go.Joins Go.Deep
set_option linter.unusedVariables false

/-- Texts as cells. -/
def strsCells (L : List (List UInt8)) : List Value := L.map fun l => .string ⟨l.toArray⟩
theorem strsCells_len (L : List (List UInt8)) : (strsCells L).length = L.length := by simp [strsCells]
theorem strsCells_snoc (L : List (List UInt8)) (l : List UInt8) : strsCells (L ++ [l]) = strsCells L ++ [.string ⟨l.toArray⟩] := by simp [strsCells]
theorem strsCells_at {L : List (List UInt8)} {i : Nat} {l : List UInt8} (h : L[i]? = some l) : (strsCells L)[i]? = some (.string ⟨l.toArray⟩) := by simp [strsCells, h]
/-- A slice that is the texts L. -/
def StrsV (w : World) (v : Value) (L : List (List UInt8)) : Prop := ∃ a cap, v = .slice a L.length cap ∧ L.length ≤ maxLen ∧ (0 < L.length → ∃ b off, a = some ⟨b, off, none⟩ ∧ b < w.heap.size ∧ ∀ i l, L[i]? = some l → w.cell? ⟨b, off + i, none⟩ = some (.string ⟨l.toArray⟩))
theorem StrsV.below {w w' : World} {v : Value} {L : List (List UInt8)} (h : StrsV w v L) (hb : Below w.heap.size w w') : StrsV w' v L := by
  obtain ⟨a, cap, rfl, hl, hs⟩ := h
  refine ⟨a, cap, rfl, hl, fun hp => ?_⟩
  obtain ⟨b, off, ha, hlt, hc⟩ := hs hp
  exact ⟨b, off, ha, Nat.lt_of_lt_of_le hlt hb.size, fun i l hi => (hb.cell (p := ⟨b, _, none⟩) hlt).trans (hc i l hi)⟩
theorem StrsV.alloc {w : World} {v : Value} {L : List (List UInt8)} (h : StrsV w v L) (o : Obj) : StrsV (w.alloc o) v L := h.below ((Below.refl _ _).alloc (Nat.le_refl _) o)
theorem StrsV.drewN {w : World} {v : Value} {L : List (List UInt8)} (h : StrsV w v L) (n : Nat) : StrsV (w.drewN n) v L := h
theorem StrsV.drew {w : World} {v : Value} {L : List (List UInt8)} (h : StrsV w v L) : StrsV w.drew v L := h
theorem StrsV.nil (w : World) : StrsV w (.slice none 0 0) [] := ⟨none, 0, rfl, Nat.zero_le _, by simp⟩
theorem StrsV.of_row {w : World} {a : Option Addr} {cap : Nat} {L : List (List UInt8)} (h : StrRow w a L) : StrsV w (.slice a L.length cap) L := ⟨a, cap, rfl, h.1, h.2.2⟩
theorem strs_of_own {w : World} {base : Nat} {e : TypeId} {v : Value} {L : List (List UInt8)} (h : w.ownsRow base e 1 v L.length (strsCells L)) : StrsV w v L := by
  obtain ⟨h1, h2⟩ := h
  rcases h2 with ⟨rfl, h0⟩ | ⟨g, cap, cur, rfl, hb, hg, hn, hc, hs, ht⟩
  · rw [List.length_eq_zero_iff] at h0
    subst h0
    exact StrsV.nil w
  · refine ⟨_, cap, rfl, by omega, fun _ => ⟨g, 0, rfl, (Array.getElem?_eq_some_iff.1 hg).1, fun i s hi => ?_⟩⟩
    have hil := (List.getElem?_eq_some_iff.1 hi).1
    have hcell : ∀ j, j < L.length * 1 → w.cell? ⟨g, j, none⟩ = (strsCells L)[j]? := fun j hj =>
      World.ownsRow.cellAt (w := w) (base := base) (e := e) (size := 1) (g := g) (cap := cap) (n := L.length) (xs := strsCells L) ⟨h1, .inr ⟨g, cap, cur, rfl, hb, hg, hn, hc, hs, ht⟩⟩ j hj
    rw [Nat.zero_add, hcell _ (by omega), strsCells_at hi]
/-- One text in a block just laid. -/
theorem strs_new (w : World) (l : List UInt8) : StrsV (w.alloc (.cells #[.string ⟨l.toArray⟩] 9)) (.slice (some ⟨w.heap.size, 0, none⟩) 1 1) [l] := by
  have h := BlkAt.new w 9 [.string ⟨l.toArray⟩]
  refine ⟨_, 1, rfl, by unfold maxLen; simp, fun _ => ⟨_, 0, rfl, h.lt, fun i g hi => ?_⟩⟩
  match i, hi with
  | 0, hi =>
    simp at hi
    subst hi
    exact h.cell rfl
theorem strs_new2 (w : World) (l m : List UInt8) : StrsV (w.alloc (.cells #[.string ⟨l.toArray⟩, .string ⟨m.toArray⟩] 9)) (.slice (some ⟨w.heap.size, 0, none⟩) 2 2) [l, m] := by
  have h := BlkAt.new w 9 [.string ⟨l.toArray⟩, .string ⟨m.toArray⟩]
  refine ⟨_, 2, rfl, by unfold maxLen; simp, fun _ => ⟨_, 0, rfl, h.lt, fun i g hi => ?_⟩⟩
  match i, hi with
  | 0, hi =>
    simp at hi
    subst hi
    exact h.cell rfl
  | 1, hi =>
    simp at hi
    subst hi
    exact h.cell rfl
theorem str_eq {a b : List UInt8} : ((⟨a.toArray⟩ : ByteArray) = ⟨b.toArray⟩) ↔ a = b := by simp

theorem own_below' {w w' : World} {base : Nat} {e : TypeId} {size : Nat} {v : Value} {n : Nat} {xs : List Value} (h : w.ownsRow base e size v n xs) (hb : Below w.heap.size w w') : w'.ownsRow base e size v n xs := h.kept (row := none) ⟨hb.os, hb.tape, hb.output, hb.size, fun k hk _ => hb.block k hk⟩ (Classical.em _)
/-- A row of the call's own (from block B on) that holds the texts L. -/
def StrsO (B : Nat) (w : World) (v : Value) (L : List (List UInt8)) : Prop := w.ownsRow B 9 1 v L.length (strsCells L)
theorem StrsO.v {B : Nat} {w : World} {v : Value} {L : List (List UInt8)} (h : StrsO B w v L) : StrsV w v L := strs_of_own h
theorem StrsO.below {B : Nat} {w w' : World} {v : Value} {L : List (List UInt8)} (h : StrsO B w v L) (hb : Below w.heap.size w w') : StrsO B w' v L := own_below' h hb
theorem StrsO.drewN {B : Nat} {w : World} {v : Value} {L : List (List UInt8)} (h : StrsO B w v L) (n : Nat) : StrsO B (w.drewN n) v L := h
theorem StrsO.base {B B' : Nat} {w : World} {v : Value} {L : List (List UInt8)} (h : StrsO B w v L) (hb : B' ≤ B) : StrsO B' w v L := by
  obtain ⟨h1, h2⟩ := h
  refine ⟨h1, ?_⟩
  rcases h2 with h2 | ⟨g, cap, cur, hv, hg, hr⟩
  · exact .inl h2
  · exact .inr ⟨g, cap, cur, hv, Nat.le_trans hb hg, hr⟩
theorem strs_info : ∃ i, Tryz.prog.info? 9 = some i ∧ i.zero = some (.string ByteArray.empty) ∧ i.size = 1 ∧ i.bytes = 16 := by
  have h : (Tryz.prog.info? 9).map (fun i => (i.zero, i.size, i.bytes)) = some (some (.string ByteArray.empty), 1, 16) := by kernel_rfl
  cases hi : Tryz.prog.info? 9 with
  | none => rw [hi] at h; cases h
  | some i =>
    rw [hi] at h
    simp only [Option.map_some, Option.some.injEq, Prod.mk.injEq] at h
    exact ⟨i, rfl, h⟩
end Go.Proofs.YtomfmejodmfioaaGreat
