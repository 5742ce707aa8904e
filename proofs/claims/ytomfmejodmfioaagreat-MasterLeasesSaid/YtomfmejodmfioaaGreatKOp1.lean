/- Blocks that are known whole: read and written cell by cell, or all at once. Operations as bytes, in plain Lean. The contract of may: may an operation be? -/
import Derived.Test.YtomfmejodmfioaaGreatKCodec
import Derived.Deep.MidRow
namespace Go.Proofs.YtomfmejodmfioaaGreat
open Go.RowKit Go.ChangeShapes Go.WideShapes Go.Joins
set_option linter.unusedVariables false

/-- Block b has the cells cs. -/
def BlkAt (w : World) (b : Nat) (T : TypeId) (cs : List Value) : Prop := w.heap[b]? = some (.cells cs.toArray T (0, 0))

section
variable {w w' : World} {b : Nat} {T : TypeId} {cs : List Value}
theorem BlkAt.lt (h : BlkAt w b T cs) : b < w.heap.size := (Array.getElem?_eq_some_iff.1 h).1
theorem BlkAt.new (w : World) (T : TypeId) (cs : List Value) : BlkAt (w.alloc (.cells cs.toArray T)) w.heap.size T cs := heap_alloc_new _ _
theorem BlkAt.newAt {w : World} {n : Nat} (h : w.heap.size = n) (T : TypeId) (cs : List Value) : BlkAt (w.alloc (.cells cs.toArray T)) n T cs := h ▸ BlkAt.new w T cs
theorem BlkAt.cell (h : BlkAt w b T cs) {i : Nat} {v : Value} (hi : cs[i]? = some v) : w.cell? ⟨b, i, none⟩ = some v := by
  rw [cell_of_row _ _ _ _ _ _ h, List.getElem?_toArray, hi]
theorem BlkAt.free (h : BlkAt w b T cs) (i : Nat) : w.frozen? ⟨b, i, none⟩ = false := by unfold BlkAt at h; simp [World.frozen?, h]
theorem BlkAt.below (h : BlkAt w b T cs) (hb : Below w.heap.size w w') : BlkAt w' b T cs := (hb.block b h.lt).trans h
theorem BlkAt.belowAt {n : Nat} (h : BlkAt w b T cs) (hb : Below n w w') (hn : b < n) : BlkAt w' b T cs := (hb.block b hn).trans h
theorem BlkAt.grown {c : Nat} (h : BlkAt w b T cs) (hg : w.grownBy w' (some c)) (hne : b ≠ c) : BlkAt w' b T cs := (hg.block _ h.lt (by simpa using hne)).trans h
theorem BlkAt.alloc (h : BlkAt w b T cs) (o : Obj) : BlkAt (w.alloc o) b T cs := h.below ((Below.refl _ _).alloc (Nat.le_refl _) o)
theorem BlkAt.drew (h : BlkAt w b T cs) : BlkAt w.drew b T cs := h
theorem BlkAt.drewN (h : BlkAt w b T cs) (n : Nat) : BlkAt (w.drewN n) b T cs := h
theorem BlkAt.set (h : BlkAt w b T cs) (i : Nat) (v : Value) : BlkAt (w.setCell ⟨b, i, none⟩ v) b T (cs.set i v) := by
  unfold BlkAt at h ⊢
  simp [World.setCell, Array.getElem?_modify, h]
theorem BlkAt.range (h : BlkAt w b T cs) : w.rangeAt b 0 cs := fun j v hv => by
  rw [Nat.zero_add]
  exact h.cell hv
theorem BlkAt.load (h : BlkAt w b T cs) {U : TypeId} {d : TypeDesc} (hu : Tryz.prog.underlying U = some d) (hd : d.isRow = true) (hi : (Tryz.prog.info? U).map (·.size) = some cs.length) :
    (Instr.loadAt U (.pointer (some ⟨b, 0, none⟩))).run Tryz.prog w = .ok (.agg cs.toArray) w := run_loadAt_mid w b 0 U cs d h.range hu hd hi
theorem BlkAt.loadVar (h : BlkAt w b T cs) {U : TypeId} {d : TypeDesc} (hu : Tryz.prog.underlying U = some d) (hd : d.isRow = true) (hi : (Tryz.prog.info? U).map (·.size) = some cs.length) :
    (Go.loadVar U ⟨b, 0, none⟩).run Tryz.prog w = .ok (.agg cs.toArray) w := run_loadVar_mid w b 0 U cs d h.range hu hd hi
end

theorem setCells_blk (b : Nat) (T : TypeId) : ∀ (vs cs pre : List Value) (w : World), BlkAt w b T (pre ++ cs) → vs.length = cs.length → BlkAt (w.setCells b pre.length vs) b T (pre ++ vs)
  | [], cs, pre, w, h, hl => by
    have : cs = [] := List.length_eq_zero_iff.1 hl.symm
    subst this
    exact h
  | v :: vs, [], pre, w, h, hl => by simp at hl
  | v :: vs, c :: cs, pre, w, h, hl => by
    have h1 := h.set pre.length v
    have e : (pre ++ c :: cs).set pre.length v = (pre ++ [v]) ++ cs := by
      rw [List.set_append_right _ _ (Nat.le_refl _)]
      simp
    rw [e] at h1
    have h2 := setCells_blk b T vs cs (pre ++ [v]) _ h1 (by simpa using hl)
    rw [List.append_assoc, List.length_append] at h2
    exact h2
theorem grown_setCells (b : Nat) : ∀ (vs : List Value) (o : Nat) (w : World), w.grownBy (w.setCells b o vs) (some b)
  | [], o, w => World.grownBy.refl _ _
  | v :: vs, o, w => (grown_setCell w b o v).trans (grown_setCells b vs (o + 1) _)
theorem BlkAt.store {w : World} {b : Nat} {T : TypeId} {cs vs : List Value} (h : BlkAt w b T cs) (hl : vs.length = cs.length) {U : TypeId} (hi : (Tryz.prog.info? U).map (·.size) = some vs.length) (h1 : ∀ v ∈ vs, v.oneCell' = true) :
    (Instr.storeAt U (.pointer (some ⟨b, 0, none⟩)) (.agg vs.toArray)).run Tryz.prog w = .ok () (w.setCells b 0 vs) := by
  have := run_storeAt_mid (P := Tryz.prog) w b 0 U vs.toArray (fun j hj => by
    rw [Nat.zero_add]
    have hj' : j < cs.length := by simp at hj; omega
    exact ⟨by rw [h.cell (List.getElem?_eq_getElem hj')]; rfl, h.free j⟩) (by simpa using hi) (all_oneCell_toArray h1)
  simpa using this
theorem BlkAt.stored {w : World} {b : Nat} {T : TypeId} {cs vs : List Value} (h : BlkAt w b T cs) (hl : vs.length = cs.length) : BlkAt (w.setCells b 0 vs) b T vs := setCells_blk b T vs cs [] w h hl

/-- Numbers as cells. -/
def icells (l : List Int) : List Value := l.map (.int .i64)
theorem icells_len (l : List Int) : (icells l).length = l.length := by simp [icells]
theorem icells_get {l : List Int} {i : Nat} {x : Int} (h : l[i]? = some x) : (icells l)[i]? = some (.int .i64 x) := by simp [icells, h]
end Go.Proofs.YtomfmejodmfioaaGreat
namespace Go.Proofs.YtomfmejodmfioaaGreat
set_option linter.unusedVariables false

/-- An operation: its kind, its eight numbers, its text. -/
structure OpV where
  kind : Int
  v : List Int
  cron : List UInt8
deriving DecidableEq

def opCells (o : OpV) : List Value := .int .i64 o.kind :: (icells o.v ++ [.string ⟨o.cron.toArray⟩])
def opZero : OpV := ⟨0, List.replicate 8 0, []⟩
def OpOk (o : OpV) : Prop := o.v.length = 8 ∧ W64 o.kind ∧ (∀ x ∈ o.v, W64 x) ∧ o.cron.length ≤ maxLen
/-- May an operation be? -/
def mayOp (o : OpV) : Bool := decide (0 ≤ o.kind) && (decide (o.kind ≤ 3) && decide (o.cron.length ≤ 256))
theorem mayOp_iff {o : OpV} : mayOp o = true ↔ 0 ≤ o.kind ∧ o.kind ≤ 3 ∧ o.cron.length ≤ 256 := by simp [mayOp]

/-- Numbers' bytes. -/
def encI (l : List Int) : List UInt8 := l.flatMap fun x => enc (zig x)
/-- An operation's bytes. -/
def encOp (o : OpV) : List UInt8 := UInt8.ofNat (o.kind % 256).toNat :: (encI o.v ++ encS o.cron)

theorem encI_len (l : List Int) : (encI l).length ≤ 10 * l.length := by
  induction l with
  | nil => simp [encI]
  | cons x l ih =>
    have h1 := (enc_len (zig x)).2
    have : encI (x :: l) = enc (zig x) ++ encI l := rfl
    rw [this, List.length_append, List.length_cons]
    omega
theorem encOp_len {o : OpV} (h : o.v.length = 8) : (encOp o).length ≤ 91 + o.cron.length := by
  have h1 := encI_len o.v
  have h2 := (enc_len o.cron.length).2
  simp only [encOp, encS, List.length_cons, List.length_append]
  omega
theorem opCells_len {o : OpV} (h : o.v.length = 8) : (opCells o).length = 10 := by simp [opCells, icells, h]

/-- Some numbers, read one behind the other. -/
def rdI : Nat → List UInt8 → Int → List Int × List UInt8 × Int
  | 0, l, e => ([], l, e)
  | k + 1, l, e => (zag (rdU l e).1 :: (rdI k (rdU l e).2.1 (rdU l e).2.2).1, (rdI k (rdU l e).2.1 (rdU l e).2.2).2)
/-- What is read, whatever it is. -/
def rawOp (l : List UInt8) (e : Int) : OpV × List UInt8 × Int :=
  let a := rdB l e
  let b := rdI 8 a.2.1 a.2.2
  let c := rdS b.2.1 b.2.2 256
  (⟨a.1, b.1, c.1⟩, c.2)
/-- What is taken: the operation, what is left, the error. -/
def takeOp (l : List UInt8) (e : Int) : OpV × List UInt8 × Int :=
  let r := rawOp l e
  let e' := if mayOp r.1 = true then r.2.2 else fst_ r.2.2 3
  (if e' = 0 then r.1 else opZero, r.2.1, e')
/-- What is read of bytes. -/
def readOp (l : List UInt8) : OpV × Bool :=
  let t := takeOp l 0
  if t.2.2 = 0 ∧ t.2.1 = [] then (t.1, true) else (opZero, false)
end Go.Proofs.YtomfmejodmfioaaGreat
namespace Go.Proofs.YtomfmejodmfioaaGreat
open Go.RowKit Go.ChangeShapes Go.WideShapes Go.Joins
set_option linter.unusedVariables false

theorem op_cell0 (o : OpV) : (opCells o)[0]? = some (.int .i64 o.kind) := rfl
theorem op_cell9 {o : OpV} (h : o.v.length = 8) : (opCells o)[9]? = some (.string ⟨o.cron.toArray⟩) := by
  simp [opCells, icells, h]
theorem op_cellv {o : OpV} {j : Nat} {x : Int} (h : o.v[j]? = some x) : (opCells o)[1 + j]? = some (.int .i64 x) := by
  have hl := (List.getElem?_eq_some_iff.1 h).1
  rw [Nat.add_comm, opCells, List.getElem?_cons_succ, List.getElem?_append_left (by rw [icells_len]; exact hl), icells_get h]

theorem ret_boolb {a b : Bool} (h : a = b) : Ending.returned (.bool a) = .returned (.bool b) := by rw [h]

theorem list8 {v : List Int} (h : v.length = 8) : ∃ a b c d e f g i, v = [a, b, c, d, e, f, g, i] := by
  match v, h with
  | [a, b, c, d, e, f, g, i], _ => exact ⟨a, b, c, d, e, f, g, i, rfl⟩

/-- The ten cells of an operation. -/
def OpS (B : Nat) (k a b c d e f g i : Int) (s : List UInt8) (w : World) : Prop :=
  w.cell? ⟨B, 0, none⟩ = some (.int .i64 k) ∧ w.cell? ⟨B, 1, none⟩ = some (.int .i64 a) ∧ w.cell? ⟨B, 2, none⟩ = some (.int .i64 b) ∧ w.cell? ⟨B, 3, none⟩ = some (.int .i64 c) ∧
  w.cell? ⟨B, 4, none⟩ = some (.int .i64 d) ∧ w.cell? ⟨B, 5, none⟩ = some (.int .i64 e) ∧ w.cell? ⟨B, 6, none⟩ = some (.int .i64 f) ∧ w.cell? ⟨B, 7, none⟩ = some (.int .i64 g) ∧
  w.cell? ⟨B, 8, none⟩ = some (.int .i64 i) ∧ w.cell? ⟨B, 9, none⟩ = some (.string ⟨s.toArray⟩)
theorem op_conj {B : Nat} {T : TypeId} {k a b c d e f g i : Int} {s : List UInt8} {w : World} (h : BlkAt w B T (opCells ⟨k, [a, b, c, d, e, f, g, i], s⟩)) : OpS B k a b c d e f g i s w :=
  ⟨h.cell rfl, h.cell rfl, h.cell rfl, h.cell rfl, h.cell rfl, h.cell rfl, h.cell rfl, h.cell rfl, h.cell rfl, h.cell rfl⟩

end Go.Proofs.YtomfmejodmfioaaGreat
