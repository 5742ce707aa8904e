/- What is seen of messages that are taken, in plain Lean. -/
import Derived.Test.YtnaabaahfjklhaaGreatNetAwake
import Derived.Test.YtnaabaahfjklhaaGreatNetMore
namespace Go.Proofs.YtnaabaahfjklhaaGreat
open Go.RowKit Go.ChangeShapes Go.WideShapes Go.Joins Go.Deep
set_option linter.unusedVariables false

def wm (j : Nat) : MsgV := whereM (100 + j)
theorem wm_goes {j : Nat} (h : j ≤ 1000) : Goes (wm j) := whereM_goes (by omega)
theorem wm_erase (J : List Nat) (k : Nat) : (J.map wm).eraseIdx k = (J.eraseIdx k).map wm := by
  rw [List.eraseIdx_eq_take_drop_succ, List.eraseIdx_eq_take_drop_succ, List.map_append, List.map_take, List.map_drop]
/-- How often each was seen, and is under way. -/
structure SeenOk (n : Nat) (tw : Int) (J Z : List Nat) : Prop where
  len : Z.length = n
  mem : ∀ j ∈ J, j < n
  sum : ∀ j, j < n → Z.getD j 0 + J.count j = if (j : Int) = tw then 2 else 1
theorem count_range (n j : Nat) : (List.range n).count j = if j < n then 1 else 0 := by
  induction n with
  | zero => simp
  | succ n ih =>
    rw [List.range_succ, List.count_append, ih, List.count_singleton]
    by_cases h : n = j
    · subst h
      simp
    · have e : (n == j) = false := by simpa using h
      rw [e]
      by_cases h2 : j < n
      · have h3 : j < n + 1 := by omega
        simp [h2, h3]
      · have h3 : ¬ j < n + 1 := by omega
        simp [h2, h3]
theorem count_erase {J : List Nat} {k j : Nat} (hk : J[k]? = some j) (i : Nat) : J.count i = (J.eraseIdx k).count i + if j = i then 1 else 0 := by
  obtain ⟨hkl, hj⟩ := List.getElem?_eq_some_iff.1 hk
  have h1 : J.count i = (J.take k ++ J.drop k).count i := by rw [List.take_append_drop]
  rw [h1, List.drop_eq_getElem_cons hkl, hj, List.eraseIdx_eq_take_drop_succ, List.count_append, List.count_append, List.count_cons]
  simp only [beq_iff_eq]
  omega
theorem seen_start {n p : Nat} (hp : p < n) : SeenOk n p (List.range n ++ [p]) (List.replicate n 0) := by
  refine ⟨by simp, fun j hj => ?_, fun j hj => ?_⟩
  · rcases List.mem_append.1 hj with h | h
    · exact List.mem_range.1 h
    · rw [List.mem_singleton.1 h]; exact hp
  · have h1 : (List.range n).count j = 1 := by rw [count_range, if_pos hj]
    rw [List.count_append, h1]
    have h2 : (List.replicate n 0).getD j 0 = 0 := by simp [List.getD, hj]
    rw [h2]
    by_cases h : j = p
    · subst h
      simp
    · rw [if_neg (by omega), List.count_singleton, if_neg (by simpa using fun e => h e.symm)]
theorem seen_step {n : Nat} {tw : Int} {J Z : List Nat} {k j : Nat} (h : SeenOk n tw J Z) (hk : J[k]? = some j) : SeenOk n tw (J.eraseIdx k) (Z.set j (Z.getD j 0 + 1)) := by
  have hjn := h.mem j (List.mem_of_getElem? hk)
  refine ⟨by rw [List.length_set]; exact h.len, fun i hi => h.mem i (List.mem_of_mem_eraseIdx hi), fun i hi => ?_⟩
  have hc := count_erase hk i
  have hs := h.sum i hi
  by_cases e : j = i
  · subst e
    rw [if_pos rfl] at hc
    have h2 : (Z.set j (Z.getD j 0 + 1)).getD j 0 = Z.getD j 0 + 1 := by simp [List.getD, h.len, hjn]
    rw [h2]
    omega
  · rw [if_neg e] at hc
    have h2 : (Z.set j (Z.getD j 0 + 1)).getD i 0 = Z.getD i 0 := by simp [List.getD, List.getElem?_set_ne e]
    rw [h2]
    omega
theorem seen_end {n : Nat} {tw : Int} {Z : List Nat} (h : SeenOk n tw [] Z) {j : Nat} (hj : j < n) : Z[j]? = some (if (j : Int) = tw then 2 else 1) := by
  have h1 := h.sum j hj
  rw [List.count_nil, Nat.add_zero] at h1
  have hl : j < Z.length := by rw [h.len]; exact hj
  rw [List.getElem?_eq_getElem hl, ← h1]
  simp [List.getD, hl]
def natCells (Z : List Nat) : List Value := Z.map fun c : Nat => .int .i64 (c : Int)
theorem natCells_at {Z : List Nat} {j c : Nat} (h : Z[j]? = some c) : (natCells Z)[j]? = some (.int .i64 (c : Int)) := by simp [natCells, h]
theorem natCells_set (Z : List Nat) (j c : Nat) : (natCells Z).set j (.int .i64 (c : Int)) = natCells (Z.set j c) := by simp [natCells, List.map_set]
theorem made_ints (n : Nat) : madeCells #[.int .i64 0] n = (natCells (List.replicate n 0)).toArray := by
  apply Array.ext
  · simp [madeCells, natCells]
  · intro i h1 h2
    simp [madeCells, natCells, Nat.mod_one]
theorem wm_cell (j : Nat) (v1 v2 : Value) : (msgCells (wm j) v1 v2)[2]? = some (.int .i64 (100 + (j : Int))) := rfl
/-- A message's value, its cells, one of them by name. -/
theorem From.parts2 {M : MsgV} {n : Nat} {w : World} {v : Value} (h : M.From n w v) (ho : M.op.v.length = 8) : ∃ ds : List Value, v = .agg ds.toArray ∧ ds.length = 28 ∧ ds.toArray.all (·.oneCell') = true ∧ ds[2]? = some (.int .i64 M.fn) := by
  obtain ⟨v1, v2, rfl, hc, hf⟩ := h
  refine ⟨msgCells M v1 v2, rfl, msgCells_len ho _ _, ?_, ?_⟩
  · rw [Array.all_eq_true_iff_forall_mem]
    intro x hx
    exact msgCells_one (chain_one hc.1) (fires_one hf.1) x (by simpa using hx)
  · obtain ⟨k, dst, fn, fl, ep, seq, req, cl, id, un, flag, op, re, rg, rd, cf, fires, life⟩ := M
    rfl
theorem int_info : (Tryz.prog.info? 3).map (fun i => (i.zero, i.size, i.bytes)) = some (some (.int .i64 0), 1, 8) := by kernel_rfl
/-- A slice of bytes that came in. -/
def ByteRow (w : World) (a : Option Addr) (n : Nat) : Prop := n ≤ maxLen ∧ (0 < n → ∃ b off, a = some ⟨b, off, none⟩ ∧ b < w.heap.size ∧ ∀ i, i < n → ∃ x : Nat, x < 256 ∧ w.cell? ⟨b, off + i, none⟩ = some (.int .u8 x))
set_option maxRecDepth 100000 in
theorem open_byterow {H : Type} {enc : TypeId × Value → H} {W : World} {base : Nat} {v : Value} {d : DataW H} {p : List MemPlace} (hv : Value.okWide Tryz.prog W .any base 54 v)
    (h : DataW.Trod enc Tryz.prog W 0 (fun _ => true) true 54 v d p) : ∃ a n cap, v = .slice a n cap ∧ ByteRow W a n := by
  obtain ⟨a0, len0, cap0, rfl⟩ := okWide_slice Tryz.underlying54 hv
  obtain ⟨fuel, hf⟩ := h
  rcases open_ints Tryz.underlying54 Tryz.underlying5 (by kernel_rfl) hf with ⟨hcs, _⟩ | ⟨x, l, c, zs, hcs, _, hl, hm, hz, _, hcell, hwz⟩
  · simp [Value.cells] at hcs
    obtain ⟨rfl, rfl, rfl⟩ := hcs
    exact ⟨none, 0, 0, rfl, Nat.zero_le _, by omega⟩
  · simp [Value.cells] at hcs
    obtain ⟨rfl, rfl, rfl⟩ := hcs
    have hz' : zs.length = cap0 := by simpa using hz
    refine ⟨some x, len0, cap0, rfl, by omega, fun hpos => ?_⟩
    obtain ⟨b, off, spot⟩ := x
    have hc := hcell 0 (by omega)
    have hspot : spot = none := by simpa [Addr.add] using World.cell?_spot hc
    subst hspot
    refine ⟨b, off, rfl, by have := World.block_lt_of_cell? _ _ hc; simpa [Addr.add] using this, fun i hi => ?_⟩
    have := hcell i (by omega)
    obtain ⟨y, hy⟩ : ∃ y, zs.getD i 0 = y := ⟨_, rfl⟩
    have hyw : (Lit.int .u8 y).wf = true := by
      rw [← hy]
      exact hwz _ (by rw [List.getD_eq_getElem?_getD, List.getElem?_eq_getElem (by omega)]; exact List.getElem_mem _)
    obtain ⟨u, rfl⟩ := u8_byte hyw
    refine ⟨u.toNat, u.toNat_lt, ?_⟩
    rw [← hy, ← this]
    congr 1
    by_cases h0 : i = 0 <;> simp [Addr.add, h0]
end Go.Proofs.YtnaabaahfjklhaaGreat
