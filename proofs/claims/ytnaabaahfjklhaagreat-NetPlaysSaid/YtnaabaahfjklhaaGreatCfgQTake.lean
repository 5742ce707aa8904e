/- The document's count and Take. -/
import Derived.Test.YtnaabaahfjklhaaGreatCfgTake
import Derived.Test.YtnaabaahfjklhaaGreatKCodec
namespace Go.Proofs.YtnaabaahfjklhaaGreat
open Go.RowKit Go.ChangeShapes Go.WideShapes Go.Joins
set_option linter.unusedVariables false

theorem take_bad {n2 k : Nat} {l2 l3 l' : List UInt8} {e2 e3 e' : Int} {n1 : Nat} {L : List SeatV} {c : ConfV} (h3 : takeN n2 l2 e2 = (L, l3, e3)) (hk : k ≤ n2) (he : (takeN k l2 e2).2.2 ≠ 0)
    (hT : (if (if rightC ⟨n1, L⟩ = true then e3 else fstE e3 3) = 0 then (⟨n1, L⟩ : ConfV) else confZero, l3, if rightC ⟨n1, L⟩ = true then e3 else fstE e3 3) = (c, l', e')) : c = confZero ∧ e' ≠ 0 := by
  have h := takeN_err he (n2 - k)
  rw [show k + (n2 - k) = n2 by omega, h3] at h
  simp only at h
  have hx : (if rightC ⟨n1, L⟩ = true then e3 else fstE e3 3) ≠ 0 := by
    split
    · exact h
    · rw [fstE_keep h]; exact h
  rw [if_neg hx] at hT
  simp only [Prod.mk.injEq] at hT
  exact ⟨hT.1.symm, by rw [← hT.2.2]; exact hx⟩

end Go.Proofs.YtnaabaahfjklhaaGreat
