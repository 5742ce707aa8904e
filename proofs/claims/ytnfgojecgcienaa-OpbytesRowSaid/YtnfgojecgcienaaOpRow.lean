/- Slices of operations: those that came in, and those that are built here. -/
import Derived.Test.YtnfgojecgcienaaOpOpen
import Derived.Test.YtnfgojecgcienaaOpRefRead
import Derived.Deep.AppendLies
namespace Go.Proofs.Ytnfgojecgcienaa
open Go.RowKit Go.ChangeShapes Go.WideShapes Go.Joins Go.Deep
set_option linter.unusedVariables false

/-- Operations that came in: L, ten cells each. -/
def OpRowAt (w : World) (a : Option Addr) (L : List OpV) : Prop :=
  L.length ≤ maxLen ∧ (∀ o ∈ L, OpOk o) ∧ (0 < L.length → ∃ b off, a = some ⟨b, off, none⟩ ∧ b < w.heap.size ∧ ∀ i o, L[i]? = some o → ∀ j u, (opCells o)[j]? = some u → w.cell? ⟨b, off + i * 10 + j, none⟩ = some u)

theorem open_ops {H : Type} {enc : TypeId × Value → H} {W : World} {base : Nat} {v : Value} {d : DataW H} {p : List MemPlace} (hv : Value.okWide Try.prog W .any base 35 v)
    (h : DataW.Trod enc Try.prog W 0 (fun _ => true) true 35 v d p) : ∃ a L cap, v = .slice a (L : List OpV).length cap ∧ OpRowAt W a L := by
  obtain ⟨a0, len0, cap0, rfl⟩ := okWide_slice Try.underlying35 hv
  obtain ⟨fuel, hf⟩ := h
  rcases open_slice Try.underlying35 hf with ⟨hcs, _⟩ | ⟨a, len, cap, m, n, D, Pl, hcs, _, hl, hm, hmm, _, hi⟩
  · simp [Value.cells] at hcs
    obtain ⟨rfl, rfl, rfl⟩ := hcs
    exact ⟨none, [], 0, rfl, Nat.zero_le _, by simp, by simp⟩
  · simp [Value.cells] at hcs
    obtain ⟨rfl, rfl, rfl⟩ := hcs
    have hmc : m = cap0 := by simpa using hmm
    subst hmc
    have hC : Try.prog.cellsOf 23 = 10 := by kernel_rfl
    have key : ∀ i, i < len0 → ∃ o : OpV, OpOk o ∧ ∀ j u, (opCells o)[j]? = some u → W.cell? ((a.add (i * 10)).add j) = some u := by
      intro i hil
      obtain ⟨cs', hc, ht⟩ := hi i (by omega)
      rw [hC] at hc
      obtain ⟨_, hlen, hcell⟩ := World.cells?_some hc
      obtain ⟨o, ho, rfl⟩ := op_of_trod hlen ht
      refine ⟨o, ho, fun j u hj => ?_⟩
      have hjl := (List.getElem?_eq_some_iff.1 hj).1
      rw [hlen] at hjl
      rw [hcell j hjl, hj]
    obtain ⟨L, hLl, hL⟩ := choose_list len0 (fun i (o : OpV) => OpOk o ∧ ∀ j u, (opCells o)[j]? = some u → W.cell? ((a.add (i * 10)).add j) = some u) key
    subst hLl
    refine ⟨some a, L, m, rfl, by omega, fun o ho => ?_, fun hpos => ?_⟩
    · obtain ⟨i, hi⟩ := List.getElem?_of_mem ho
      exact (hL i o hi).1
    · obtain ⟨b, off, spot⟩ := a
      obtain ⟨o0, _, h0⟩ := key 0 hpos
      have h0 := h0 0 _ rfl
      have hspot : spot = none := by simpa [Addr.add] using World.cell?_spot h0
      subst hspot
      refine ⟨b, off, rfl, by have := World.block_lt_of_cell? _ _ h0; simpa [Addr.add] using this, fun i o hi j u hj => ?_⟩
      have := (hL i o hi).2 j u hj
      rwa [addr_add, addr_add] at this

theorem owns_slice' {w : World} {base : Nat} {e : TypeId} {size : Nat} {v : Value} {n : Nat} {xs : List Value} (h : w.ownsRow base e size v n xs) : ∃ A cap, v = .slice A n cap ∧ n ≤ cap ∧ cap ≤ maxLen ∧ (0 < n → ∃ g, A = some ⟨g, 0, none⟩ ∧ base ≤ g ∧ g < w.heap.size ∧ ∀ j, j < n * size → w.cell? ⟨g, j, none⟩ = xs[j]?) := by
  obtain ⟨h1, h2⟩ := h
  rcases h2 with ⟨rfl, rfl⟩ | ⟨g, cap, cur, rfl, hb, hg, hn, hc, hs, ht⟩
  · exact ⟨none, 0, rfl, Nat.le_refl _, Nat.zero_le _, by omega⟩
  · refine ⟨_, cap, rfl, hn, hc, fun _ => ⟨g, rfl, hb, (Array.getElem?_eq_some_iff.1 hg).1, fun j hj => ?_⟩⟩
    have := World.ownsRow.cellAt (w := w) (base := base) (e := e) (size := size) (g := g) (cap := cap) (n := n) (xs := xs) ⟨h1, .inr ⟨g, cap, cur, rfl, hb, hg, hn, hc, hs, ht⟩⟩ j hj
    exact this

/-- All operations' cells, one behind the other. -/
def opsCells (L : List OpV) : List Value := L.flatMap opCells
/-- All operations' bytes, one behind the other. -/
def encOps (L : List OpV) : List UInt8 := L.flatMap encOp
theorem opsCells_snoc (L : List OpV) (o : OpV) : opsCells (L ++ [o]) = opsCells L ++ opCells o := by simp [opsCells]
theorem encOps_snoc (L : List OpV) (o : OpV) : encOps (L ++ [o]) = encOps L ++ encOp o := by simp [encOps]
theorem encOps_drop {L : List OpV} {k : Nat} {o : OpV} (h : L[k]? = some o) : encOps (L.drop k) = encOp o ++ encOps (L.drop (k + 1)) := by
  obtain ⟨hk, e⟩ := List.getElem?_eq_some_iff.1 h
  rw [List.drop_eq_getElem_cons hk, e]
  rfl
theorem encOps_len : ∀ (L : List OpV), (∀ o ∈ L, OpOk o ∧ mayOp o = true) → (encOps L).length ≤ 347 * L.length
  | [], _ => by simp [encOps]
  | o :: L, h => by
    have h1 := encOps_len L (fun x hx => h x (by simp [hx]))
    have h2 := h o (by simp)
    have h3 := encOp_len h2.1.1
    have h4 := (mayOp_iff.1 h2.2).2.2
    have : encOps (o :: L) = encOp o ++ encOps L := rfl
    rw [this, List.length_append, List.length_cons]
    omega
theorem opsCells_at : ∀ (L : List OpV), (∀ o ∈ L, OpOk o) → ∀ (i : Nat) (o : OpV), L[i]? = some o → ∀ j u, (opCells o)[j]? = some u → (opsCells L)[i * 10 + j]? = some u
  | [], _, i, o, h, _, _, _ => by simp at h
  | x :: L, hL, 0, o, h, j, u, hj => by
    obtain rfl : x = o := by simpa using h
    have hjl := (List.getElem?_eq_some_iff.1 hj).1
    have : opsCells (x :: L) = opCells x ++ opsCells L := rfl
    rw [this, List.getElem?_append_left (by omega), ← hj]
    simp
  | x :: L, hL, i + 1, o, h, j, u, hj => by
    have hx := opCells_len (hL x (by simp)).1
    have ih := opsCells_at L (fun o ho => hL o (by simp [ho])) i o (by simpa using h) j u hj
    have : opsCells (x :: L) = opCells x ++ opsCells L := rfl
    rw [this, List.getElem?_append_right (by omega), hx, ← ih]
    congr 1
    omega
theorem opCells_one {o : OpV} : ∀ u ∈ opCells o, u.oneCell' = true := by
  intro u hu
  simp only [opCells, icells, List.mem_cons, List.mem_append, List.mem_map, List.not_mem_nil, or_false] at hu
  rcases hu with rfl | ⟨x, _, rfl⟩ | rfl <;> rfl
theorem opsCells_len : ∀ (L : List OpV), (∀ o ∈ L, OpOk o) → (opsCells L).length = L.length * 10
  | [], _ => rfl
  | x :: L, hL => by
    have hx := opCells_len (hL x (by simp)).1
    have ih := opsCells_len L (fun o ho => hL o (by simp [ho]))
    have : opsCells (x :: L) = opCells x ++ opsCells L := rfl
    rw [this, List.length_append, hx, ih, List.length_cons]
    omega
theorem op_full : (Try.prog.info? 23).map (fun i => (i.zero, i.size, i.bytes)) = some (some (.agg (opCells opZero).toArray), 10, 88) := by kernel_rfl
/-- What ten cells say at once. -/
theorem cells_conj {o : OpV} {B off : Nat} {w : World} {k a b c d e f g i : Int} {s : List UInt8} (ho : o = ⟨k, [a, b, c, d, e, f, g, i], s⟩) (h : ∀ j u, (opCells o)[j]? = some u → w.cell? ⟨B, off + j, none⟩ = some u) :
    w.cell? ⟨B, off, none⟩ = some (.int .i64 k) ∧ w.cell? ⟨B, off + 1, none⟩ = some (.int .i64 a) ∧ w.cell? ⟨B, off + 2, none⟩ = some (.int .i64 b) ∧ w.cell? ⟨B, off + 3, none⟩ = some (.int .i64 c) ∧
    w.cell? ⟨B, off + 4, none⟩ = some (.int .i64 d) ∧ w.cell? ⟨B, off + 5, none⟩ = some (.int .i64 e) ∧ w.cell? ⟨B, off + 6, none⟩ = some (.int .i64 f) ∧ w.cell? ⟨B, off + 7, none⟩ = some (.int .i64 g) ∧
    w.cell? ⟨B, off + 8, none⟩ = some (.int .i64 i) ∧ w.cell? ⟨B, off + 9, none⟩ = some (.string ⟨s.toArray⟩) := by
  subst ho
  exact ⟨h 0 _ rfl, h 1 _ rfl, h 2 _ rfl, h 3 _ rfl, h 4 _ rfl, h 5 _ rfl, h 6 _ rfl, h 7 _ rfl, h 8 _ rfl, h 9 _ rfl⟩
end Go.Proofs.Ytnfgojecgcienaa
