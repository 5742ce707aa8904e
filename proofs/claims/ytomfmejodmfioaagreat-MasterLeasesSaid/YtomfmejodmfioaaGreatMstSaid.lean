/- Messages that were said, looked at. -/
import Derived.Test.YtomfmejodmfioaaGreatMstMade
namespace Go.Proofs.YtomfmejodmfioaaGreat
open Go.RowKit Go.Maps Go.ChangeShapes Go.WideShapes Go.Joins Go.Deep
set_option linter.unusedVariables false

theorem flat28 {css : List (List Value)} (h : ∀ cs ∈ css, cs.length = 28) {i : Nat} {cs : List Value} (hi : css[i]? = some cs) {j : Nat} (hj : j < 28) : css.flatten[i * 28 + j]? = cs[j]? := by
  induction css generalizing i with
  | nil => simp at hi
  | cons c css ih =>
    have hc : c.length = 28 := h c (by simp)
    match i, hi with
    | 0, hi =>
      obtain rfl : c = cs := by simpa using hi
      rw [List.flatten_cons, List.getElem?_append_left (by omega), Nat.zero_mul, Nat.zero_add]
    | i + 1, hi =>
      have h2 := ih (fun x hx => h x (List.mem_cons_of_mem _ hx)) (by simpa using hi)
      rw [List.flatten_cons, List.getElem?_append_right (by omega), hc, ← h2]
      congr 1
      omega
/-- A message of a row: its cells; its chain's row is A. -/
def SaidB (w : World) (g off : Nat) (m : Int × Int) (c : ConfV) (A : Option Addr) (cap : Nat) : Prop :=
  (∀ j u, (tellC m.1 m.2 c.epoch (.slice A c.chain.length cap))[j]? = some u → w.cell? ⟨g, off + j, none⟩ = some u) ∧ ChainS w (.slice A c.chain.length cap) c.chain ∧ g < w.heap.size
theorem SaidB.below {w w' : World} {g off : Nat} {m : Int × Int} {c : ConfV} {A : Option Addr} {cap : Nat} (h : SaidB w g off m c A cap) (hb : Below w.heap.size w w') : SaidB w' g off m c A cap :=
  ⟨fun j u hj => (hb.cell (p := ⟨g, off + j, none⟩) h.2.2).trans (h.1 j u hj), h.2.1.below hb, Nat.lt_of_lt_of_le h.2.2 hb.size⟩
theorem MsgsS.get {B : Nat} {w : World} {v : Value} {L : List (Int × Int)} {c : ConfV} (h : MsgsS B w v L c) {i : Nat} {m : Int × Int} (hi : L[i]? = some m) :
    ∃ g cap A cap', v = .slice (some ⟨g, 0, none⟩) L.length cap ∧ B ≤ g ∧ SaidB w g (i * 28) m c A cap' := by
  obtain ⟨css, h1, h2, h3⟩ := h
  have hil := (List.getElem?_eq_some_iff.1 hi).1
  obtain ⟨cs, hcs⟩ : ∃ cs, css[i]? = some cs := ⟨_, List.getElem?_eq_getElem (by omega)⟩
  have hlen : ∀ cs ∈ css, cs.length = 28 := fun cs hm => by
    obtain ⟨k, hk⟩ := List.getElem?_of_mem hm
    have hkl := (List.getElem?_eq_some_iff.1 hk).1
    exact (h3 k _ cs (List.getElem?_eq_getElem (by omega)) hk).len
  obtain ⟨A, cap', hc, hC⟩ := h3 i m cs hi hcs
  have h4 := h2
  rcases h2.2 with ⟨_, h0⟩ | ⟨g, cap, cur, rfl, hg, hr, _⟩
  · omega
  · refine ⟨g, cap, A, cap', rfl, hg, fun j u hj => ?_, hC, (Array.getElem?_eq_some_iff.1 hr).1⟩
    have hj28 : j < 28 := by
      have := (List.getElem?_eq_some_iff.1 hj).1
      simpa [tellC] using this
    have h5 := h4.cells (g := g) rfl (i * 28 + j) u (by rw [flat28 hlen hcs hj28, hc]; exact hj)
    rw [addr_add, Nat.zero_add] at h5
    exact h5
theorem nowP_zero (now : Int) : nowP now 0 = now := by
  unfold nowP modU
  rw [show IntKind.u64.wrap 0 = 0 from by rw [u64_wrap]; rfl]
  simp
theorem ply_next {w0 w : World} {B p N k : Nat} {s : SetV} {V : MstV} {l : List UInt8} {cs : List ConfV} {now : Int} {bs : List Nat} (h : PlyAt w0 w B p s (100 + 1100000 * k + 1100000) V l cs now bs) : PlyAt w0 w B p s (100 + 1100000 * (k + 1)) V l cs now bs := h.mono (by omega)
/-- A script's loop: k steps were played. -/
def Amid (w wr : World) (B p : Nat) (s : SetV) (k : Nat) : Prop :=
  ∃ V l cs now bs, PlyAt w wr B p s (100 + 1100000 * k) V l cs now bs ∧ 0 ≤ now ∧ now ≤ s.base + 10 * k
end Go.Proofs.YtomfmejodmfioaaGreat
