/- More contracts of the document's reader: a number with a sign, a text. -/
import Derived.Test.YtofdmdpnobhnlaaCodecRef
namespace Go.Proofs.Ytofdmdpnobhnlaa
open Go.RowKit Go.ChangeShapes Go.WideShapes Go.Joins
set_option linter.unusedVariables false

theorem quintr_any {w : World} {b : Nat} {S : List UInt8} {a : Nat} {e : Int} (h : RfAt w b S a e) (hS : S.length ≤ 1000000) (ha : a ≤ S.length) :
    Calls Try.prog 71 #[.pointer (some ⟨b, 0, none⟩)] w fun en w' => en = .returned (.int .u64 (rdU (S.drop a) e).1) ∧ (∃ a', a' ≤ S.length ∧ S.drop a' = (rdU (S.drop a) e).2.1 ∧ RfAt w' b S a' (rdU (S.drop a) e).2.2) ∧ w.grownBy w' (some b) := by
  by_cases h0 : e = 0
  · subst h0
    refine (quint_r_ok h hS ha).mono ?_
    rintro en w' ⟨rfl, hR, hg⟩
    rw [rdU, if_pos rfl]
    have := (num_facts (S.drop a)).1
    rw [List.length_drop] at this
    exact ⟨rfl, ⟨_, by omega, by rw [List.drop_drop], hR⟩, hg⟩
  · refine (quint_r_err h h0).mono ?_
    rintro en w' ⟨rfl, rfl⟩
    rw [rdU, if_neg h0]
    exact ⟨rfl, ⟨a, ha, rfl, h⟩, World.grownBy.refl _ _⟩

theorem zag_ref (n : Nat) (hn : F64 n) : n % 2 = 0 ∧ zag n = wrap64 (IntKind.u64.wrap ((n : Int) / 2)) ∨ n % 2 ≠ 0 ∧ zag n = wrap64 (wrap64 (-wrap64 (IntKind.u64.wrap ((n : Int) / 2))) - 1) := by
  unfold F64 at hn
  unfold zag
  have e2 : wrap64 (IntKind.u64.wrap ((n : Int) / 2)) = ((n / 2 : Nat) : Int) := by
    rw [IntKind.wrap_u64, IntWalk.wrap64_in _ ⟨by omega, by omega⟩]
    omega
  by_cases h : n % 2 = 0
  · exact .inl ⟨h, by rw [if_pos h, e2]⟩
  · refine .inr ⟨h, ?_⟩
    rw [if_neg h, e2, IntWalk.wrap64_in (-_) ⟨by omega, by omega⟩, IntWalk.wrap64_in _ ⟨by omega, by omega⟩]

end Go.Proofs.Ytofdmdpnobhnlaa
