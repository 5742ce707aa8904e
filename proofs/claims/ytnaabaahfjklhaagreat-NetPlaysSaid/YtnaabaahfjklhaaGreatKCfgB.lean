/- First, and the document's First. The document's First. Without. Join. Synced. The document's Without. The document's Join. -/
import Derived.Test.YtnaabaahfjklhaaGreatCfgRight
import Derived.Deep.RegionLaw
import Derived.Deep.DeepCutAuto
namespace Go.Proofs.YtnaabaahfjklhaaGreat
open Go.RowKit Go.ChangeShapes Go.WideShapes Go.Joins
set_option linter.unusedVariables false

/-- What is handed back: a chain, and something beside it. -/
def ConfRes (w w' : World) (en : Ending) (c : ConfV) (x : Value) : Prop := ∃ v, en = .returned (.tuple #[.agg #[.int .i64 c.epoch, v], x]) ∧ ChainAt w' v c.chain ∧ Below w.heap.size w w'
/-- A chain alone. -/
def ConfOne (w w' : World) (en : Ending) (c : ConfV) : Prop := ∃ v, en = .returned (.agg #[.int .i64 c.epoch, v]) ∧ ChainAt w' v c.chain ∧ Below w.heap.size w w'

theorem below_any' {w w' : World} {row : Option Nat} (h : Below w.heap.size w w') : w.grownBy w' row := ⟨h.os, h.tape, h.output, h.size, fun k hk _ => h.block k hk⟩
theorem own_set {w : World} {base D i : Nat} {e : TypeId} {size : Nat} {v u : Value} {n : Nat} {xs : List Value} (h : w.ownsRow base e size v n xs) (hD : D < base) : (w.setCell ⟨D, i, none⟩ u).ownsRow base e size v n xs := by
  refine h.kept (grown_setCell w D i u) (.inr fun e => ?_)
  have := (h.lt D e).1
  omega
theorem own_below {w w' : World} {base : Nat} {e : TypeId} {size : Nat} {v : Value} {n : Nat} {xs : List Value} (h : w.ownsRow base e size v n xs) (hb : Below w.heap.size w w') : w'.ownsRow base e size v n xs := h.kept (below_any' (row := none) hb) (Classical.em _)
theorem own_ne {w : World} {base D : Nat} {e : TypeId} {size : Nat} {v : Value} {n : Nat} {xs : List Value} (h : w.ownsRow base e size v n xs) (hD : D < base) : some D ≠ v.ownBlock := fun he => by
  have := (h.lt _ he.symm).1
  omega
theorem own_form {w : World} {base : Nat} {e : TypeId} {size : Nat} {v : Value} {n : Nat} {xs : List Value} (h : w.ownsRow base e size v n xs) : ∃ A cap, v = .slice A n cap := by
  rcases h.2 with ⟨rfl, rfl⟩ | ⟨g, cap, cur, rfl, _⟩
  · exact ⟨none, 0, rfl⟩
  · exact ⟨_, cap, rfl⟩
theorem firstSeats_ok (n : Nat) (h : n ≤ 1000) : ∀ s ∈ firstSeats n, SeatOk s := by
  intro s hs
  obtain ⟨i, hi, rfl⟩ := List.mem_map.1 hs
  have := List.mem_range.1 hi
  exact ⟨W64.mk (by show (-9223372036854775808 : Int) ≤ (i : Int); omega) (by show (i : Int) ≤ 9223372036854775807; omega), W64.mk (by show (-9223372036854775808 : Int) ≤ 1; omega) (by show (1 : Int) ≤ 9223372036854775807; omega)⟩
theorem firstSeats_len (n : Nat) : (firstSeats n).length = n := by simp [firstSeats]


end Go.Proofs.YtnaabaahfjklhaaGreat
namespace Go.Proofs.YtnaabaahfjklhaaGreat
open Go.RowKit Go.ChangeShapes Go.WideShapes Go.Joins
set_option linter.unusedVariables false

end Go.Proofs.YtnaabaahfjklhaaGreat
namespace Go.Proofs.YtnaabaahfjklhaaGreat
open Go.RowKit Go.ChangeShapes Go.WideShapes Go.Joins
set_option linter.unusedVariables false

theorem leftC_snoc {L : List SeatV} {G : List (Int × Int)} {k : Nat} {s : SeatV} (h : L[k]? = some s) : leftC (L.take (k + 1)) G = if G.contains (s.node, s.life) = true then leftC (L.take k) G else leftC (L.take k) G ++ [s] := by
  rw [take_snoc h, leftC, List.filter_append]
  cases hc : G.contains (s.node, s.life) with
  | true => rw [if_pos rfl]; simp only [List.filter_cons, hc, Bool.not_true, Bool.false_eq_true, if_false, List.filter_nil, List.append_nil]; rfl
  | false => rw [if_neg (by simp)]; simp only [List.filter_cons, hc, Bool.not_false, if_true, List.filter_nil]; rfl
theorem leftC_mem {L : List SeatV} {G : List (Int × Int)} {s : SeatV} (h : s ∈ leftC L G) : s ∈ L := (List.mem_filter.1 h).1
theorem leftC_len (L : List SeatV) (G : List (Int × Int)) : (leftC L G).length ≤ L.length := List.length_filter_le _ _

end Go.Proofs.YtnaabaahfjklhaaGreat
namespace Go.Proofs.YtnaabaahfjklhaaGreat
open Go.RowKit Go.ChangeShapes Go.WideShapes Go.Joins
set_option linter.unusedVariables false

theorem news_below {w0 w : World} {B : Nat} {cs : Array Value} {t : TypeId} {fr : Nat × Nat} (hb : w0.heap[B]? = some (.cells cs t fr)) (h : Below w0.heap.size w0 w) : ∀ j u, cs.toList[j]? = some u → w.cell? ((⟨B, 0, none⟩ : Addr).add j) = some u :=
  World.news_of_block ((h.block B (Array.getElem?_eq_some_iff.1 hb).1).trans hb)
theorem own_base' {w : World} {base base' : Nat} {e : TypeId} {size : Nat} {v : Value} {n : Nat} {xs : List Value} (h : w.ownsRow base e size v n xs) (hb : base' ≤ base) : w.ownsRow base' e size v n xs := by
  refine ⟨h.1, ?_⟩
  rcases h.2 with h0 | ⟨g, cap, cur, hv, hg, r⟩
  · exact .inl h0
  · exact .inr ⟨g, cap, cur, hv, Nat.le_trans hb hg, r⟩
theorem seatsOk_all {L : List SeatV} {n l : Int} {b : Bool} (h : ∀ s ∈ L, SeatOk s) (hn : W64 n) (hl : W64 l) : ∀ s ∈ L ++ [⟨n, l, b⟩], SeatOk s := by
  intro s hs
  rcases List.mem_append.1 hs with hs | hs
  · exact h s hs
  · obtain rfl : s = ⟨n, l, b⟩ := by simpa using hs
    exact ⟨hn, hl⟩

end Go.Proofs.YtnaabaahfjklhaaGreat
namespace Go.Proofs.YtnaabaahfjklhaaGreat
open Go.RowKit Go.ChangeShapes Go.WideShapes Go.Joins
set_option linter.unusedVariables false

theorem seatsCells_set : ∀ (L : List SeatV) (k : Nat) (s t : SeatV), L[k]? = some s → t.node = s.node → t.life = s.life → (seatsCells L).set (k * 3 + 2) (.bool t.sync) = seatsCells (L.set k t)
  | [], k, s, t, h, _, _ => by simp at h
  | x :: L, 0, s, t, h, hn, hl => by
    obtain rfl : x = s := by simpa using h
    obtain ⟨n, l, b⟩ := t
    simp only at hn hl
    subst hn hl
    rfl
  | x :: L, k + 1, s, t, h, hn, hl => by
    have ih := seatsCells_set L k s t (by simpa using h) hn hl
    have e1 : seatsCells (x :: L) = seatCells x ++ seatsCells L := rfl
    have e2 : seatsCells ((x :: L).set (k + 1) t) = seatCells x ++ seatsCells (L.set k t) := rfl
    rw [e1, e2, ← ih, List.set_append_right _ _ (by simp [seatCells]; omega)]
    congr 2
    simp [seatCells]
    omega
theorem own_store {w : World} {base g cap : Nat} {e : TypeId} {size : Nat} {n j : Nat} {u : Value} {xs : List Value} (h : w.ownsRow base e size (.slice (some ⟨g, 0, none⟩) n cap) n xs) (hj : j < n * size) :
    (w.setCell ⟨g, j, none⟩ u).ownsRow base e size (.slice (some ⟨g, 0, none⟩) n cap) n (xs.set j u) := by
  obtain ⟨h1, h2⟩ := h
  refine ⟨by rw [List.length_set]; exact h1, ?_⟩
  rcases h2 with ⟨h0, _⟩ | ⟨g', cap', cur, hv, hb, hg, hn, hc, hs, ht⟩
  · cases h0
  · cases hv
    refine .inr ⟨g, cap, cur.setIfInBounds j u, rfl, hb, ?_, hn, hc, by simp [hs], ?_⟩
    · simp [World.setCell, Array.getElem?_modify, hg]
    · rw [← ht]
      simp [List.take_set]
theorem seatsOk_set {L : List SeatV} {k : Nat} {t : SeatV} (h : ∀ s ∈ L, SeatOk s) (ht : SeatOk t) : ∀ s ∈ L.set k t, SeatOk s := by
  intro s hs
  rcases List.mem_or_eq_of_mem_set hs with hs | rfl
  · exact h s hs
  · exact ht
theorem place_idx (L : List SeatV) (n l : Int) : placeC L n l = match L.findIdx? (fun s => s.node == n && s.life == l) with | some i => (i : Int) | none => -1 := rfl

end Go.Proofs.YtnaabaahfjklhaaGreat
namespace Go.Proofs.YtnaabaahfjklhaaGreat
open Go.RowKit Go.ChangeShapes Go.WideShapes Go.Joins
set_option linter.unusedVariables false

/-- Is a member among those that go? -/
def goneB (G : List (Int × Int)) (x y : Int) : Bool := G.contains (x, y)
theorem goneB_snoc {G : List (Int × Int)} {m : Nat} {g : Int × Int} (h : G[m]? = some g) (x y : Int) : goneB (G.take (m + 1)) x y = (goneB (G.take m) x y || (g.1 == x && g.2 == y)) := by
  have hm := (List.getElem?_eq_some_iff.1 h).1
  have e : G.take (m + 1) = G.take m ++ [g] := by rw [List.take_add_one, h]; rfl
  rw [goneB, goneB, e, List.contains_append]
  congr 1
  rw [Bool.eq_iff_iff]
  obtain ⟨a, b⟩ := g
  simp
  exact ⟨fun ⟨h, h'⟩ => ⟨h.symm, h'.symm⟩, fun ⟨h, h'⟩ => ⟨h.symm, h'.symm⟩⟩
theorem cell_set_ne {w : World} {b o X i : Nat} {u v : Value} (h : w.cell? ⟨b, o, none⟩ = some v) (hne : b ≠ X) : (w.setCell ⟨X, i, none⟩ u).cell? ⟨b, o, none⟩ = some v :=
  (World.cell?_setCell_other w ⟨X, i, none⟩ ⟨b, o, none⟩ u (fun e => hne (by injection e with h1; exact h1.symm))).trans h
theorem cell_alloc_old {w : World} {b o : Nat} {v : Value} (h : w.cell? ⟨b, o, none⟩ = some v) (ob : Obj) : (w.alloc ob).cell? ⟨b, o, none⟩ = some v :=
  (World.cell?_alloc_lt w ob ⟨b, o, none⟩ (World.block_lt_of_cell? _ _ h)).trans h

end Go.Proofs.YtnaabaahfjklhaaGreat
namespace Go.Proofs.YtnaabaahfjklhaaGreat
open Go.RowKit Go.ChangeShapes Go.WideShapes Go.Joins
set_option linter.unusedVariables false
theorem any_false {p : SeatV → Bool} {L : List SeatV} (h : ∀ j t, j < L.length → L[j]? = some t → p t = false) : L.any p = false := by
  rw [List.any_eq_false]
  intro t ht
  obtain ⟨j, hj⟩ := List.getElem?_of_mem ht
  simp [h j t (List.getElem?_eq_some_iff.1 hj).1 hj]
theorem any_true {p : SeatV → Bool} {L : List SeatV} {k : Nat} {t : SeatV} (h : L[k]? = some t) (hp : p t = true) : L.any p = true :=
  List.any_eq_true.2 ⟨t, List.mem_of_getElem? h, hp⟩
theorem own_drewN {w : World} {base : Nat} {e : TypeId} {size : Nat} {v : Value} {n : Nat} {xs : List Value} (h : w.ownsRow base e size v n xs) (m : Nat) : (w.drewN m).ownsRow base e size v n xs := h
theorem take_snoc_len {L : List SeatV} {k : Nat} (h : k ≤ L.length) : (L.take k).length = k := by rw [List.length_take]; omega

end Go.Proofs.YtnaabaahfjklhaaGreat
