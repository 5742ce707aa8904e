/- The document's Without. -/
import Derived.Test.YtagmlgeoefemfaaCfgSynced
namespace Go.Proofs.Ytagmlgeoefemfaa
open Go.RowKit Go.ChangeShapes Go.WideShapes Go.Joins
set_option linter.unusedVariables false

/-- Is a member among those that go? -/
def goneB (G : List (Int × Int)) (x y : Int) : Bool := G.contains (x, y)
theorem goneB_snoc {G : List (Int × Int)} {m : Nat} {g : Int × Int} (h : G[m]? = some g) (x y : Int) : goneB (G.take (m + 1)) x y = (goneB (G.take m) x y || (g.1 == x && g.2 == y)) := by
  have hm := (List.getElem?_eq_some_iff.1 h).1
  have e : G.take (m + 1) = G.take m ++ [g] := by rw [List.take_add_one, h]; rfl
  rw [goneB, goneB, e, List.contains_append]
  congr 1
  rw [Bool.eq_iff_iff]
  obtain ⟨a, b⟩ := g
  simp
  exact ⟨fun ⟨h, h'⟩ => ⟨h.symm, h'.symm⟩, fun ⟨h, h'⟩ => ⟨h.symm, h'.symm⟩⟩
theorem cell_set_ne {w : World} {b o X i : Nat} {u v : Value} (h : w.cell? ⟨b, o, none⟩ = some v) (hne : b ≠ X) : (w.setCell ⟨X, i, none⟩ u).cell? ⟨b, o, none⟩ = some v :=
  (World.cell?_setCell_other w ⟨X, i, none⟩ ⟨b, o, none⟩ u (fun e => hne (by injection e with h1; exact h1.symm))).trans h
theorem cell_alloc_old {w : World} {b o : Nat} {v : Value} (h : w.cell? ⟨b, o, none⟩ = some v) (ob : Obj) : (w.alloc ob).cell? ⟨b, o, none⟩ = some v :=
  (World.cell?_alloc_lt w ob ⟨b, o, none⟩ (World.block_lt_of_cell? _ _ h)).trans h

end Go.Proofs.Ytagmlgeoefemfaa
