/- The document's Synced. Follows. The document's Follows. -/
import Derived.Test.YtnaabaahfjklhaaGreatKCfgB
import Derived.Deep.DeepCutAuto
import Derived.Test.YtnaabaahfjklhaaGreatKCfg
import Derived.Deep.CutRange
namespace Go.Proofs.YtnaabaahfjklhaaGreat
open Go.RowKit Go.ChangeShapes Go.WideShapes Go.Joins
set_option linter.unusedVariables false

theorem own_kept_ne {w : World} {base g X cap i : Nat} {e : TypeId} {size n : Nat} {xs : List Value} {u : Value} (h : w.ownsRow base e size (.slice (some ⟨g, 0, none⟩) n cap) n xs) (hX : X ≠ g) :
    (w.setCell ⟨X, i, none⟩ u).ownsRow base e size (.slice (some ⟨g, 0, none⟩) n cap) n xs := by
  refine ⟨h.1, ?_⟩
  rcases h.2 with ⟨h0, _⟩ | ⟨g', cap', cur, hv, hb, hg, r⟩
  · cases h0
  · cases hv
    exact .inr ⟨g, cap, cur, rfl, hb, (Below.heap_setCell w ⟨X, i, none⟩ u g (fun e => hX e.symm)).trans hg, r⟩
theorem set_own2 {w : World} {base g X cap : Nat} {e : TypeId} {size n : Nat} {xs : List Value} (h : w.ownsRow base e size (.slice (some ⟨g, 0, none⟩) n cap) n xs) (u v : Value) (hX : X ≠ g) :
    ((w.setCell ⟨X, 0, none⟩ u).setCell ⟨X, 1, none⟩ v).ownsRow base e size (.slice (some ⟨g, 0, none⟩) n cap) n xs := by
  have h1 := own_kept_ne (i := 0) (u := u) h hX
  exact own_kept_ne (i := 1) (u := v) h1 hX
theorem src_cells {w : World} {b off cap : Nat} {L : List SeatV} (h : ChainAt w (.slice (some ⟨b, off, none⟩) L.length cap) L) : ∀ j u, (seatsCells L)[j]? = some u → w.cell? ((⟨b, off, none⟩ : Addr).add j) = some u := by
  obtain ⟨a, cap', hv, hs⟩ := h
  cases hv
  intro j u hj
  have hp : 0 < L.length := by
    have := (List.getElem?_eq_some_iff.1 hj).1
    rw [seatsCells_len] at this
    omega
  obtain ⟨b', off', he, hab, hc⟩ := hs.2.2 hp
  cases he
  rw [addr_add]
  exact SeatsAt.cells hc j u hj

end Go.Proofs.YtnaabaahfjklhaaGreat
namespace Go.Proofs.YtnaabaahfjklhaaGreat
open Go.RowKit Go.ChangeShapes Go.WideShapes Go.Joins
set_option linter.unusedVariables false

/-- A chain handed back, with an error, each part by its name. -/
def ConfIs (w w' : World) (en : Ending) (pe : Int) (pL : List SeatV) (px : Int) : Prop :=
  ∃ a cap, en = .returned (.tuple #[.agg #[.int .i64 pe, .slice a pL.length cap], .int .i64 px]) ∧ ChainAt w' (.slice a pL.length cap) pL ∧ Below w.heap.size w w'
theorem ConfRes.is {w w' : World} {en : Ending} {r : ConfV × Int} {pe : Int} {pL : List SeatV} {px : Int} (h : ConfRes w w' en r.1 (.int .i64 r.2)) (hr : r = (⟨pe, pL⟩, px)) : ConfIs w w' en pe pL px := by
  subst hr
  obtain ⟨v, he, hv, hb⟩ := h
  obtain ⟨a, cap, rfl, hs⟩ := hv
  exact ⟨a, cap, he, ⟨a, cap, rfl, hs⟩, hb⟩
theorem conf_parts (r : ConfV × Int) : ∃ pe pL px, r = (⟨pe, pL⟩, px) := ⟨r.1.epoch, r.1.chain, r.2, rfl⟩
theorem sameC_lit (e f : Int) (L M : List SeatV) : sameC ⟨e, L⟩ ⟨f, M⟩ = (e == f && decide (L = M)) := rfl

/-- Members' cells. -/
def memsCells (G : List (Int × Int)) : List Value := G.flatMap fun g => [.int .i64 g.1, .int .i64 g.2]
theorem memsCells_snoc (G : List (Int × Int)) (g : Int × Int) : memsCells (G ++ [g]) = memsCells G ++ [.int .i64 g.1, .int .i64 g.2] := by simp [memsCells]
theorem memsCells_at : ∀ (G : List (Int × Int)) (i : Nat) (g : Int × Int), G[i]? = some g → (memsCells G)[i * 2]? = some (.int .i64 g.1) ∧ (memsCells G)[i * 2 + 1]? = some (.int .i64 g.2)
  | [], i, g, h => by simp at h
  | x :: G, 0, g, h => by
    obtain rfl : x = g := by simpa using h
    exact ⟨rfl, rfl⟩
  | x :: G, i + 1, g, h => by
    obtain ⟨h0, h1⟩ := memsCells_at G i g (by simpa using h)
    have : memsCells (x :: G) = [.int .i64 x.1, .int .i64 x.2] ++ memsCells G := rfl
    rw [this]
    refine ⟨?_, ?_⟩
    · rw [List.getElem?_append_right (by simp; omega), ← h0]; congr 1; simp; omega
    · rw [List.getElem?_append_right (by simp; omega), ← h1]; congr 1; simp; omega
theorem mem_full : (Tryz.prog.info? 29).map (fun i => (i.zero, i.size, i.bytes)) = some (some (.agg #[.int .i64 0, .int .i64 0]), 2, 16) := by kernel_rfl
theorem mems_of_own {w : World} {base : Nat} {e : TypeId} {v : Value} {G : List (Int × Int)} (h : w.ownsRow base e 2 v G.length (memsCells G)) : MemsV w v G := by
  obtain ⟨h1, h2⟩ := h
  rcases h2 with ⟨rfl, h0⟩ | ⟨g, cap, cur, rfl, hb, hg, hn, hc, hs, ht⟩
  · rw [List.length_eq_zero_iff] at h0
    subst h0
    exact MemsV.nil w
  · refine ⟨_, cap, rfl, by omega, fun _ => ⟨g, 0, rfl, (Array.getElem?_eq_some_iff.1 hg).1, fun i s hi => ?_⟩⟩
    have hil := (List.getElem?_eq_some_iff.1 hi).1
    have hcell : ∀ j, j < G.length * 2 → w.cell? ⟨g, j, none⟩ = (memsCells G)[j]? := fun j hj =>
      World.ownsRow.cellAt (w := w) (base := base) (e := e) (size := 2) (g := g) (cap := cap) (n := G.length) (xs := memsCells G) ⟨h1, .inr ⟨g, cap, cur, rfl, hb, hg, hn, hc, hs, ht⟩⟩ j hj
    obtain ⟨t0, t1⟩ := memsCells_at G i s hi
    rw [Nat.zero_add]
    exact ⟨by rw [hcell _ (by omega), t0], by rw [hcell _ (by omega), t1]⟩
theorem goneC_snoc {L M : List SeatV} {k : Nat} {s : SeatV} (h : L[k]? = some s) : goneC (L.take (k + 1)) M = if M.contains s = true then goneC (L.take k) M else goneC (L.take k) M ++ [(s.node, s.life)] := by
  rw [take_snoc h, goneC, List.filter_append, List.map_append]
  cases hc : M.contains s with
  | true => rw [if_pos rfl, List.filter_cons_of_neg (by simpa using hc)]; simp [goneC]
  | false => rw [if_neg (by simp), List.filter_cons_of_pos (by simpa using hc)]; simp [goneC]
theorem goneC_len (L M : List SeatV) : (goneC L M).length ≤ L.length := by rw [goneC, List.length_map]; exact List.length_filter_le _ _
theorem atC_w64 {L : List SeatV} {i : Int} (h : ∀ s ∈ L, SeatOk s) : W64 (atC L i).1 ∧ W64 (atC L i).2.1 := by
  unfold atC
  split
  · exact ⟨W64.mk (by decide) (by decide), W64.mk (by decide) (by decide)⟩
  · split
    · rename_i s hs
      exact h s (List.mem_of_getElem? hs)
    · exact ⟨W64.mk (by decide) (by decide), W64.mk (by decide) (by decide)⟩
theorem ChainAt.ok {w : World} {v : Value} {L : List SeatV} (h : ChainAt w v L) : ∀ s ∈ L, SeatOk s := by
  obtain ⟨a, cap, _, hs⟩ := h
  exact hs.2.1

end Go.Proofs.YtnaabaahfjklhaaGreat
namespace Go.Proofs.YtnaabaahfjklhaaGreat
open Go.RowKit Go.ChangeShapes Go.WideShapes Go.Joins
set_option linter.unusedVariables false

theorem chain_ne2 {w : World} {b off cap n X : Nat} {T : TypeId} {p q : Value} {L : List SeatV} (h : ChainAt w (.slice (some ⟨b, off, none⟩) n cap) L) (h0 : 0 < L.length) (hX : BlkAt w X T [p, q]) : b ≠ X := by
  rintro rfl
  obtain ⟨a, c, hv, hs⟩ := h
  cases hv
  obtain ⟨b', off', he, hab, hc⟩ := hs.2.2 h0
  cases he
  obtain ⟨s, hs'⟩ : ∃ s, L[0]? = some s := ⟨_, List.getElem?_eq_getElem h0⟩
  have h2 := (hc 0 s hs').2.2
  rw [cell_of_row _ _ _ _ _ _ hX] at h2
  simp at h2
theorem ChainAt.set2 {w : World} {v : Value} {L : List SeatV} {X : Nat} {T : TypeId} {p q : Value} (h : ChainAt w v L) (hX : BlkAt w X T [p, q]) (i : Nat) (u : Value) : ChainAt (w.setCell ⟨X, i, none⟩ u) v L := by
  have h' := h
  obtain ⟨a, cap, rfl, hs⟩ := h
  refine ⟨a, cap, rfl, hs.1, hs.2.1, fun hp => ?_⟩
  obtain ⟨b, off, rfl, hab, hc⟩ := hs.2.2 hp
  have hne := chain_ne2 h' hp hX
  refine ⟨b, off, rfl, by simpa [World.setCell] using hab, fun i' s hi => ?_⟩
  obtain ⟨c0, c1, c2⟩ := hc i' s hi
  exact ⟨cell_set_ne c0 hne, cell_set_ne c1 hne, cell_set_ne c2 hne⟩

end Go.Proofs.YtnaabaahfjklhaaGreat
