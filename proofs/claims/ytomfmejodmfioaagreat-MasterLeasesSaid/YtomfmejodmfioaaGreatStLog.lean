/- The log: what each call leaves of it. -/
import Derived.Test.YtomfmejodmfioaaGreatStQScan
import Derived.Lib.AppendStr
import Derived.Deep.DeepCutAuto
namespace Go.Proofs.YtomfmejodmfioaaGreat
open Go.RowKit Go.ChangeShapes Go.WideShapes Go.Joins Go.Deep
set_option linter.unusedVariables false

/-- Block b is a log that holds the bytes l; v: its slice, a row of the call's own, from B on. -/
def LogAt (B : Nat) (w : World) (b : Nat) (v : Value) (l : List UInt8) (t : Bool) : Prop :=
  B ≤ b ∧ w.heap[b]? = some (.cells #[v, .bool t] 114 (0, 0)) ∧ w.ownsRow B 5 1 v l.length (bcells l)
/-- All but the block b, and the row r, is as it was. -/
structure KeptL (w w' : World) (b : Nat) (r : Option Nat) : Prop where
  os : w'.os = w.os
  tape : w'.tape = w.tape
  output : w'.output = w.output
  size : w.heap.size ≤ w'.heap.size
  block : ∀ k, k < w.heap.size → k ≠ b → some k ≠ r → w'.heap[k]? = w.heap[k]?
section
variable {B b : Nat} {w w' : World} {v : Value} {l : List UInt8} {t : Bool}
theorem LogAt.lt (h : LogAt B w b v l t) : b < w.heap.size := (Array.getElem?_eq_some_iff.1 h.2.1).1
theorem LogAt.form (h : LogAt B w b v l t) : ∃ A cap, v = .slice A l.length cap := own_form' h.2.2
theorem LogAt.cell0 (h : LogAt B w b v l t) : w.cell? ⟨b, 0, none⟩ = some v := cell_of_row _ _ 0 _ _ _ h.2.1
theorem LogAt.cell1 (h : LogAt B w b v l t) : w.cell? ⟨b, 1, none⟩ = some (.bool t) := cell_of_row _ _ 1 _ _ _ h.2.1
theorem LogAt.free (h : LogAt B w b v l t) (i : Nat) : w.frozen? ⟨b, i, none⟩ = false := by
  have := h.2.1
  simp [World.frozen?, this]
theorem own_apart {e : TypeId} {cs : Array Value} {T : TypeId} {fr : Nat × Nat} {xs : List Value} {n : Nat} (hb : w.heap[b]? = some (.cells cs T fr)) (hown : w.ownsRow B e 1 v n xs) (hne : e ≠ T) : some b ≠ v.ownBlock := by
  intro he
  rcases hown.2 with ⟨rfl, _⟩ | ⟨g, cap, cur, rfl, _, hg, _⟩
  · simp [Value.ownBlock] at he
  · simp only [Value.ownBlock, Option.some.injEq] at he
    subst he
    rw [hb] at hg
    simp only [Option.some.injEq, Obj.cells.injEq] at hg
    exact hne hg.2.1.symm
theorem LogAt.apart (h : LogAt B w b v l t) : some b ≠ v.ownBlock := own_apart h.2.1 h.2.2 (by decide)
theorem LogAt.below (h : LogAt B w b v l t) (hb : Below w.heap.size w w') : LogAt B w' b v l t := ⟨h.1, (hb.block b h.lt).trans h.2.1, own_below' h.2.2 hb⟩
theorem LogAt.base (h : LogAt B w b v l t) {B' : Nat} (hb : B' ≤ B) : LogAt B' w b v l t := ⟨Nat.le_trans hb h.1, h.2.1, by
  obtain ⟨h1, h2⟩ := h.2.2
  refine ⟨h1, ?_⟩
  rcases h2 with h2 | ⟨g, cap, cur, hv, hg, hr⟩
  · exact .inl h2
  · exact .inr ⟨g, cap, cur, hv, Nat.le_trans hb hg, hr⟩⟩
theorem LogAt.drewN (h : LogAt B w b v l t) (n : Nat) : LogAt B (w.drewN n) b v l t := h
/-- Another log stays as it was. -/
theorem LogAt.kept {c : Nat} {r : Option Nat} (h : LogAt B w b v l t) (hk : KeptL w w' c r) (hbc : b ≠ c) (hbr : some b ≠ r) (hv : v.ownBlock = none ∨ v.ownBlock ≠ r) (hvc : v.ownBlock ≠ some c) : LogAt B w' b v l t := by
  refine ⟨h.1, (hk.block b h.lt hbc hbr).trans h.2.1, h.2.2.1, ?_⟩
  rcases h.2.2.2 with h2 | ⟨g, cap, cur, rfl, hg, hr, hrest⟩
  · exact .inl h2
  · refine .inr ⟨g, cap, cur, rfl, hg, ?_, hrest⟩
    rw [hk.block g (Array.getElem?_eq_some_iff.1 hr).1 (fun e => hvc (by rw [e]; rfl)) (fun e => by
      rcases hv with hv | hv
      · simp [Value.ownBlock] at hv
      · exact hv (by rw [← e]; rfl)), hr]
theorem KeptL.below {c : Nat} {r : Option Nat} {w0 : World} (hk : KeptL w w' c r) (hb : Below w0.heap.size w0 w) (hc : w0.heap.size ≤ c) (hr : ∀ j, r = some j → w0.heap.size ≤ j) : Below w0.heap.size w0 w' :=
  ⟨hk.os.trans hb.os, hk.tape.trans hb.tape, hk.output.trans hb.output, Nat.le_trans hb.size hk.size, fun k hlt => (hk.block k (Nat.lt_of_lt_of_le hlt hb.size) (by omega) (fun e => by have := hr k e.symm; omega)).trans (hb.block k hlt)⟩
theorem LogAt.row (h : LogAt B w b v l t) : ∀ j, v.ownBlock = some j → B ≤ j := fun j hj => (h.2.2.lt j hj).1
theorem LogAt.rowlt (h : LogAt B w b v l t) : ∀ j, v.ownBlock = some j → j < w.heap.size := fun j hj => (h.2.2.lt j hj).2
end
theorem strCells_b (l : List UInt8) : Lib.strCells ⟨l.toArray⟩ = bcells l := by simp [Lib.strCells, bcells]
theorem u8_infos : ∃ i, Tryz.prog.info? 5 = some i ∧ i.zero = some (.int .u8 0) ∧ i.size = 1 ∧ i.bytes = 1 := by
  have h := u8_info
  cases hi : Tryz.prog.info? 5 with
  | none => rw [hi] at h; cases h
  | some i =>
    rw [hi] at h
    simp only [Option.map_some, Option.some.injEq, Prod.mk.injEq] at h
    exact ⟨i, rfl, h⟩
/-- A text's bytes appended, at a step of a region that draws its order. -/
theorem step_append_str {w : World} {ops : Array Oper} {o : Oper} {a : Act} {K : Act → World → Prop} {Q : Exit → Act → World → Prop} {E : Prop} (hgd : o.guard = none) (s x : Operand)
    (ho : o.op = .call { callee := .builtin .append, args := #[s, x], argTypes := #[112, 9] }) {B : Nat} {v : Value} {l m : List UInt8}
    (hs : a.eval s = v) (hown : w.ownsRow B 5 1 v l.length (bcells l)) (hx : a.eval x = .string ⟨m.toArray⟩) (hl : l.length + m.length ≤ 1000000) (hB : B ≤ w.heap.size)
    (h : ∀ A cap w', w'.ownsRow B 5 1 (.slice A (l ++ m).length cap) (l ++ m).length (bcells (l ++ m)) → w.grownBy w' v.ownBlock → K (a.put o.dst (.slice A (l ++ m).length cap)) w') :
    if Region.wanted o (yielded ops a.tmps) = true then Oper.wp Tryz.prog o a w K Q else E := by
  have hw : Region.wanted o (yielded ops a.tmps) = true := by simp [Region.wanted, hgd]
  rw [if_pos hw]
  obtain ⟨i, hi, hz, h1, h2⟩ := u8_infos
  have hsz : (⟨m.toArray⟩ : ByteArray).size = m.length := by simp [ByteArray.size]
  obtain ⟨v', w', hr, hown', hg, _⟩ := Lib.run_append_own_string (P := Tryz.prog) w B 112 9 o.type 5 i Tryz.underlying112 Tryz.underlying9 hi hz h1 h2 v l.length (bcells l) hown ⟨m.toArray⟩ (by rw [hsz]; unfold maxLen; omega) (by rw [hsz]; omega) hB
  rw [hsz, strCells_b, ← List.length_append, show bcells l ++ bcells m = bcells (l ++ m) by simp [bcells]] at hown'
  obtain ⟨A, cap, rfl⟩ := own_form' hown'
  unfold Oper.wp execOp
  simp only [ho, resolve, invoke, builtin, Sem.run_bind, Sem.run_pure, Result.andThen_ok, List.map_toArray, List.map_cons, List.map_nil, hs, hx, hr]
  exact h A cap w' hown' hg

set_option maxRecDepth 100000 in
theorem new_log (w : World) : Calls Tryz.prog 24 #[] w fun e w' => ∃ b, e = .returned (.pointer (some ⟨b, 0, none⟩)) ∧ LogAt w.heap.size w' b (.slice none 0 0) [] false ∧ Below w.heap.size w w' := by
  go_enter Tryz.func24, Tryz.ntmps24
  go_wp2_with fail
  go_ret
  exact ⟨w.heap.size, rfl, ⟨Nat.le_refl _, heap_alloc_new _ _, World.ownsRow_nil _ _ _ _⟩, (Below.refl _ _).alloc (Nat.le_refl _) _⟩
end Go.Proofs.YtomfmejodmfioaaGreat
