/- Slices of texts that came in: what each cell holds. -/
import Derived.Test.YtomfmejodmfioaaGreatStrOne
import Derived.Deep.Slices
namespace Go.Proofs.YtomfmejodmfioaaGreat
open Go.RowKit Go.ChangeShapes Go.WideShapes Go.Joins Go.Deep
set_option linter.unusedVariables false

/-- Texts that came in: L, one cell each. -/
def StrRow (w : World) (a : Option Addr) (L : List (List UInt8)) : Prop :=
  L.length ≤ maxLen ∧ (∀ l ∈ L, l.length ≤ maxLen) ∧ (0 < L.length → ∃ b off, a = some ⟨b, off, none⟩ ∧ b < w.heap.size ∧ ∀ i l, L[i]? = some l → w.cell? ⟨b, off + i, none⟩ = some (.string ⟨l.toArray⟩))

set_option maxRecDepth 100000 in
theorem open_strrow {H : Type} {enc : TypeId × Value → H} {W : World} {base : Nat} {v : Value} {d : DataW H} {p : List MemPlace} (hv : Value.okWide Tryz.prog W .any base 76 v)
    (h : DataW.Trod enc Tryz.prog W 0 (fun _ => true) true 76 v d p) : ∃ a L cap, v = .slice a (L : List (List UInt8)).length cap ∧ StrRow W a L := by
  obtain ⟨a0, len0, cap0, rfl⟩ := okWide_slice Tryz.underlying76 hv
  obtain ⟨fuel, hf⟩ := h
  rcases open_slice Tryz.underlying76 hf with ⟨hcs, _⟩ | ⟨a, len, cap, m, n, D, Pl, hcs, _, hl, hm, hmm, _, hi⟩
  · simp [Value.cells] at hcs
    obtain ⟨rfl, rfl, rfl⟩ := hcs
    exact ⟨none, [], 0, rfl, Nat.zero_le _, by simp, by simp⟩
  · simp [Value.cells] at hcs
    obtain ⟨rfl, rfl, rfl⟩ := hcs
    have hmc : m = cap0 := by simpa using hmm
    subst hmc
    have hC : Tryz.prog.cellsOf 9 = 1 := by kernel_rfl
    have key : ∀ i, i < len0 → ∃ l : List UInt8, l.length ≤ maxLen ∧ W.cell? (a.add i) = some (.string ⟨l.toArray⟩) := by
      intro i hil
      obtain ⟨cs', hc, ht⟩ := hi i (by omega)
      rw [hC] at hc
      obtain ⟨_, hlen, hcell⟩ := World.cells?_some hc
      match cs', hlen with
      | [c0], _ =>
        obtain ⟨l, rfl, hl⟩ := trod_one_str ht
        refine ⟨l, hl, ?_⟩
        have := hcell 0 (by omega)
        simpa [Addr.add] using this
    obtain ⟨L, hLl, hL⟩ := choose_list len0 (fun i (l : List UInt8) => l.length ≤ maxLen ∧ W.cell? (a.add i) = some (.string ⟨l.toArray⟩)) key
    subst hLl
    refine ⟨some a, L, m, rfl, by omega, fun l hl => ?_, fun hpos => ?_⟩
    · obtain ⟨i, hi⟩ := List.getElem?_of_mem hl
      exact (hL i l hi).1
    · obtain ⟨b, off, spot⟩ := a
      obtain ⟨l0, _, h0⟩ := key 0 hpos
      have hspot : spot = none := by simpa [Addr.add] using World.cell?_spot h0
      subst hspot
      refine ⟨b, off, rfl, by have := World.block_lt_of_cell? _ _ h0; simpa [Addr.add] using this, fun i l hi => ?_⟩
      have := (hL i l hi).2
      rwa [addr_add] at this
end Go.Proofs.YtomfmejodmfioaaGreat
