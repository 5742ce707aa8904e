/- Chains: what they are, and how they lie in memory. -/
import Derived.Test.YtofdmdpnobhnlaaBlk
import Derived.Test.YtofdmdpnobhnlaaGrown
import Derived.Deep.AppendLies
namespace Go.Proofs.Ytofdmdpnobhnlaa
open Go.RowKit Go.ChangeShapes Go.WideShapes Go.Joins
set_option linter.unusedVariables false

/-- A seat: its node, its life, whether it is synced. -/
structure SeatV where
  node : Int
  life : Int
  sync : Bool
deriving DecidableEq

/-- A chain: its epoch, its seats. -/
structure ConfV where
  epoch : Int
  chain : List SeatV
deriving DecidableEq

instance : Inhabited SeatV := ⟨⟨0, 0, false⟩⟩

def SeatOk (s : SeatV) : Prop := W64 s.node ∧ W64 s.life
def seatCells (s : SeatV) : List Value := [.int .i64 s.node, .int .i64 s.life, .bool s.sync]
/-- All seats' cells. -/
def seatsCells (L : List SeatV) : List Value := L.flatMap seatCells

/-- What three cells say. -/
def SeatAt (w : World) (b off : Nat) (s : SeatV) : Prop :=
  w.cell? ⟨b, off, none⟩ = some (.int .i64 s.node) ∧ w.cell? ⟨b, off + 1, none⟩ = some (.int .i64 s.life) ∧ w.cell? ⟨b, off + 2, none⟩ = some (.bool s.sync)

/-- Seats in memory: L. -/
def SeatsAt (w : World) (a : Option Addr) (L : List SeatV) : Prop :=
  L.length ≤ maxLen ∧ (∀ s ∈ L, SeatOk s) ∧ (0 < L.length → ∃ b off, a = some ⟨b, off, none⟩ ∧ b < w.heap.size ∧ ∀ i s, L[i]? = some s → SeatAt w b (off + i * 3) s)

/-- A slice that is the seats L. -/
def ChainAt (w : World) (v : Value) (L : List SeatV) : Prop := ∃ a cap, v = .slice a L.length cap ∧ SeatsAt w a L

theorem SeatAt.of {w w' : World} {b off : Nat} {s : SeatV} (h : SeatAt w b off s) (he : ∀ j, w'.cell? ⟨b, j, none⟩ = w.cell? ⟨b, j, none⟩) : SeatAt w' b off s :=
  ⟨(he _).trans h.1, (he _).trans h.2.1, (he _).trans h.2.2⟩
theorem SeatsAt.below {w w' : World} {a : Option Addr} {L : List SeatV} {n : Nat} (h : SeatsAt w a L) (hb : Below n w w') (hn : n = w.heap.size) : SeatsAt w' a L := by
  subst hn
  refine ⟨h.1, h.2.1, fun hp => ?_⟩
  obtain ⟨b, off, ha, hlt, hc⟩ := h.2.2 hp
  exact ⟨b, off, ha, Nat.lt_of_lt_of_le hlt hb.size, fun i s hi => (hc i s hi).of fun j => hb.cell (p := ⟨b, j, none⟩) hlt⟩
theorem ChainAt.below {w w' : World} {v : Value} {L : List SeatV} (h : ChainAt w v L) (hb : Below w.heap.size w w') : ChainAt w' v L := by
  obtain ⟨a, cap, rfl, hs⟩ := h
  exact ⟨a, cap, rfl, hs.below hb rfl⟩
theorem SeatsAt.alloc {w : World} {a : Option Addr} {L : List SeatV} (h : SeatsAt w a L) (o : Obj) : SeatsAt (w.alloc o) a L := h.below ((Below.refl _ _).alloc (Nat.le_refl _) o) rfl
theorem ChainAt.alloc {w : World} {v : Value} {L : List SeatV} (h : ChainAt w v L) (o : Obj) : ChainAt (w.alloc o) v L := h.below ((Below.refl _ _).alloc (Nat.le_refl _) o)
theorem SeatsAt.drewN {w : World} {a : Option Addr} {L : List SeatV} (h : SeatsAt w a L) (n : Nat) : SeatsAt (w.drewN n) a L := h
theorem ChainAt.drewN {w : World} {v : Value} {L : List SeatV} (h : ChainAt w v L) (n : Nat) : ChainAt (w.drewN n) v L := h
theorem ChainAt.drew {w : World} {v : Value} {L : List SeatV} (h : ChainAt w v L) : ChainAt w.drew v L := h
theorem SeatsAt.drew {w : World} {a : Option Addr} {L : List SeatV} (h : SeatsAt w a L) : SeatsAt w.drew a L := h
theorem ChainAt.nil (w : World) : ChainAt w (.slice none 0 0) [] := ⟨none, 0, rfl, Nat.zero_le _, by simp, by simp⟩

theorem seatsCells_len (L : List SeatV) : (seatsCells L).length = L.length * 3 := by
  induction L with
  | nil => rfl
  | cons s L ih =>
    have : seatsCells (s :: L) = seatCells s ++ seatsCells L := rfl
    rw [this, List.length_append, ih, List.length_cons, seatCells]
    simp
    omega
theorem seatsCells_snoc (L : List SeatV) (s : SeatV) : seatsCells (L ++ [s]) = seatsCells L ++ seatCells s := by simp [seatsCells]
theorem seatsCells_append (L M : List SeatV) : seatsCells (L ++ M) = seatsCells L ++ seatsCells M := by simp [seatsCells]
theorem seatsCells_at : ∀ (L : List SeatV) (i : Nat) (s : SeatV), L[i]? = some s → (seatsCells L)[i * 3]? = some (.int .i64 s.node) ∧ (seatsCells L)[i * 3 + 1]? = some (.int .i64 s.life) ∧ (seatsCells L)[i * 3 + 2]? = some (.bool s.sync)
  | [], i, s, h => by simp at h
  | x :: L, 0, s, h => by
    obtain rfl : x = s := by simpa using h
    exact ⟨rfl, rfl, rfl⟩
  | x :: L, i + 1, s, h => by
    obtain ⟨h0, h1, h2⟩ := seatsCells_at L i s (by simpa using h)
    have : seatsCells (x :: L) = seatCells x ++ seatsCells L := rfl
    rw [this]
    refine ⟨?_, ?_, ?_⟩
    · rw [List.getElem?_append_right (by simp [seatCells]; omega), ← h0]; congr 1; simp [seatCells]; omega
    · rw [List.getElem?_append_right (by simp [seatCells]; omega), ← h1]; congr 1; simp [seatCells]; omega
    · rw [List.getElem?_append_right (by simp [seatCells]; omega), ← h2]; congr 1; simp [seatCells]; omega
theorem seatCells_one {s : SeatV} : ∀ u ∈ seatCells s, u.oneCell' = true := by
  intro u hu
  simp only [seatCells, List.mem_cons, List.not_mem_nil, or_false] at hu
  rcases hu with rfl | rfl | rfl <;> rfl
theorem seatsCells_one {L : List SeatV} : ∀ u ∈ seatsCells L, u.oneCell' = true := by
  intro u hu
  obtain ⟨s, _, hs⟩ := List.mem_flatMap.1 hu
  exact seatCells_one u hs

/-- A slice that the call owns is the seats it holds. -/
theorem chain_of_own {w : World} {base : Nat} {e : TypeId} {v : Value} {L : List SeatV} (h : w.ownsRow base e 3 v L.length (seatsCells L)) (hok : ∀ s ∈ L, SeatOk s) : ChainAt w v L := by
  obtain ⟨h1, h2⟩ := h
  rcases h2 with ⟨rfl, h0⟩ | ⟨g, cap, cur, rfl, hb, hg, hn, hc, hs, ht⟩
  · rw [List.length_eq_zero_iff] at h0
    subst h0
    exact ChainAt.nil w
  · refine ⟨_, cap, rfl, by omega, hok, fun _ => ⟨g, 0, rfl, (Array.getElem?_eq_some_iff.1 hg).1, fun i s hi => ?_⟩⟩
    have hil := (List.getElem?_eq_some_iff.1 hi).1
    have hcell : ∀ j, j < L.length * 3 → w.cell? ⟨g, j, none⟩ = (seatsCells L)[j]? := fun j hj =>
      World.ownsRow.cellAt (w := w) (base := base) (e := e) (size := 3) (g := g) (cap := cap) (n := L.length) (xs := seatsCells L) ⟨h1, .inr ⟨g, cap, cur, rfl, hb, hg, hn, hc, hs, ht⟩⟩ j hj
    obtain ⟨t0, t1, t2⟩ := seatsCells_at L i s hi
    rw [Nat.zero_add]
    exact ⟨by rw [hcell _ (by omega), t0], by rw [hcell _ (by omega), t1], by rw [hcell _ (by omega), t2]⟩
/-- What is read of seats, as the law of append asks. -/
theorem SeatsAt.cells {w : World} {b off : Nat} {L : List SeatV} (h : ∀ i s, L[i]? = some s → SeatAt w b (off + i * 3) s) : ∀ j u, (seatsCells L)[j]? = some u → w.cell? ⟨b, off + j, none⟩ = some u := by
  intro j u hj
  have hjl := (List.getElem?_eq_some_iff.1 hj).1
  rw [seatsCells_len] at hjl
  have hi : j / 3 < L.length := by omega
  obtain ⟨s, hs⟩ : ∃ s, L[j / 3]? = some s := ⟨_, List.getElem?_eq_getElem hi⟩
  obtain ⟨c0, c1, c2⟩ := h _ _ hs
  obtain ⟨t0, t1, t2⟩ := seatsCells_at L _ s hs
  have hm : j % 3 = 0 ∨ j % 3 = 1 ∨ j % 3 = 2 := by omega
  rcases hm with hm | hm | hm
  · rw [show j / 3 * 3 = j by omega] at t0
    rw [hj] at t0
    rw [t0, ← c0]; congr 2; omega
  · rw [show j / 3 * 3 + 1 = j by omega] at t1
    rw [hj] at t1
    rw [t1, ← c1]; congr 2; omega
  · rw [show j / 3 * 3 + 2 = j by omega] at t2
    rw [hj] at t2
    rw [t2, ← c2]; congr 2; omega
theorem seat_full : (Try.prog.info? 50).map (fun i => (i.zero, i.size, i.bytes)) = some (some (.agg (seatCells default).toArray), 3, 24) := by kernel_rfl
end Go.Proofs.Ytofdmdpnobhnlaa
