/- Without. -/
import Derived.Test.YtagmlgeoefemfaaCfgQFirst
namespace Go.Proofs.Ytagmlgeoefemfaa
open Go.RowKit Go.ChangeShapes Go.WideShapes Go.Joins
set_option linter.unusedVariables false

theorem leftC_snoc {L : List SeatV} {G : List (Int × Int)} {k : Nat} {s : SeatV} (h : L[k]? = some s) : leftC (L.take (k + 1)) G = if G.contains (s.node, s.life) = true then leftC (L.take k) G else leftC (L.take k) G ++ [s] := by
  rw [take_snoc h, leftC, List.filter_append]
  cases hc : G.contains (s.node, s.life) with
  | true => rw [if_pos rfl]; simp only [List.filter_cons, hc, Bool.not_true, Bool.false_eq_true, if_false, List.filter_nil, List.append_nil]; rfl
  | false => rw [if_neg (by simp)]; simp only [List.filter_cons, hc, Bool.not_false, if_true, List.filter_nil]; rfl
theorem leftC_mem {L : List SeatV} {G : List (Int × Int)} {s : SeatV} (h : s ∈ leftC L G) : s ∈ L := (List.mem_filter.1 h).1
theorem leftC_len (L : List SeatV) (G : List (Int × Int)) : (leftC L G).length ≤ L.length := List.length_filter_le _ _

end Go.Proofs.Ytagmlgeoefemfaa
