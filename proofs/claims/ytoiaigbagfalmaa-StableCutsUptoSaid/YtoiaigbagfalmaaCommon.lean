/- Small facts that all texts share: bytes as cells, worlds that grow, numbers of 64 bits. -/
import Derived.Test.YtoiaigbagfalmaaFrame
import Derived.WalkSpells
import Derived.WalkLawsBesides
import Derived.BigQuiet
import Derived.Deep.QuietTactic
import Derived.StillTailTactics
import Derived.Lib.SmallJoins
import Derived.Lib.Hide
import Derived.Outline
import Derived.Deep.AppendLies
import Derived.Deep.LoopGhost
import Derived.Deep.RegionHeld3
import Derived.Laws.IdiomStrings
import Derived.Laws.BitsAllLaws
import Derived.Laws.Bits64
import Derived.Laws.BitsLemmas
import Derived.Laws.LoneSync
import Derived.Laws.ShiftsVarLaws
namespace Go.Proofs.Ytoiaigbagfalmaa
open Go.RowKit Go.ChangeShapes Go.WideShapes Go.Joins
set_option linter.unusedVariables false

def W64 (x : Int) : Prop := (Lit.int .i64 x).wf = true
theorem W64.bd {x : Int} (h : W64 x) : -9223372036854775808 ≤ x ∧ x ≤ 9223372036854775807 := by
  simpa [W64, Lit.wf, IntKind.min, IntKind.max, IntKind.signed, IntKind.bits] using h
theorem W64.mk {x : Int} (h1 : -9223372036854775808 ≤ x) (h2 : x ≤ 9223372036854775807) : W64 x := by
  simpa [W64, Lit.wf, IntKind.min, IntKind.max, IntKind.signed, IntKind.bits] using And.intro h1 h2
/-- A number of 64 bits. -/
def F64 (q : Nat) : Prop := q < 18446744073709551616
theorem addr_add (b off n : Nat) : (⟨b, off, none⟩ : Addr).add n = ⟨b, off + n, none⟩ := by
  unfold Addr.add
  split <;> simp_all
/-- Bytes as cells. -/
def bcells (l : List UInt8) : List Value := l.map fun c => .int .u8 (c.toNat : Int)
theorem bcells_len (l : List UInt8) : (bcells l).length = l.length := by simp [bcells]
theorem bcells_set (l : List UInt8) (k : Nat) (c : UInt8) : (bcells l).toArray.setIfInBounds k (.int .u8 (c.toNat : Int)) = (bcells (l.set k c)).toArray := by
  simp [bcells, List.map_set]
theorem bcells_snoc (l : List UInt8) (c : UInt8) : bcells (l ++ [c]) = bcells l ++ [.int .u8 (c.toNat : Int)] := by simp [bcells]
theorem set_heap {w : World} {B k : Nat} {l : List UInt8} {T : TypeId} (h : w.heap[B]? = some (.cells (bcells l).toArray T (0, 0))) (c : UInt8) :
    (w.setCell ⟨B, k, none⟩ (.int .u8 (c.toNat : Int))).heap[B]? = some (.cells (bcells (l.set k c)).toArray T (0, 0)) := by
  rw [← bcells_set]
  simp [World.setCell, Array.getElem?_modify, h]
/-- The bytes at a block's beginning, as a text. -/
theorem text_of {W : World} {B n : Nat} {l : List UInt8} {T : TypeId} (h : W.heap[B]? = some (.cells (bcells l).toArray T (0, 0))) (hn : n ≤ l.length) (c : Nat) :
    (convert 56 9 (.slice (some ⟨B, 0, none⟩) n c)).run Try.prog W = .ok (.string ⟨(l.take n).toArray⟩) W := by
  have e : n = (l.take n).length := by simp; omega
  have := run_convert_bytes_back (P := Try.prog) W 56 9 5 ⟨B, 0, none⟩ c (l.take n) Try.underlying56 Try.underlying5 Try.underlying9 (fun j hj => by
    rw [addr_add, Nat.zero_add, cell_of_row _ _ _ _ _ _ h]
    have hjl : j < l.length := by simp at hj; omega
    simp [bcells, hjl])
  rw [← e] at this
  exact this
theorem u8_info : (Try.prog.info? 5).map (fun i => (i.zero, i.size, i.bytes)) = some (some (.int .u8 0), 1, 1) := by kernel_rfl
theorem grown_setCell (w : World) (b i : Nat) (u : Value) : w.grownBy (w.setCell ⟨b, i, none⟩ u) (some b) :=
  ⟨rfl, rfl, rfl, by simp [World.setCell], fun k _ hk => Below.heap_setCell _ _ _ _ (fun e => hk (by rw [e]))⟩
theorem grown_two {a b c : World} {k : Nat} (h : a.grownBy b (some k)) (h' : b.grownBy c (some k)) : a.grownBy c (some k) := h.trans h'
theorem grown_drewN {w w' : World} {row : Option Nat} (h : w.grownBy w' row) (n : Nat) : w.grownBy (w'.drewN n) row := ⟨h.os, h.tape, h.output, h.size, h.block⟩
theorem drewN_grown {w w' : World} {row : Option Nat} {n : Nat} (h : (w.drewN n).grownBy w' row) : w.grownBy w' row := ⟨h.os, h.tape, h.output, h.size, h.block⟩
theorem grown_below {w0 w w' : World} {k : Nat} (h : Below w0.heap.size w0 w) (hg : w.grownBy w' (some k)) (hk : w0.heap.size ≤ k) : Below w0.heap.size w0 w' := h.grown hg h.size (by intro j hj; cases hj; exact hk)
theorem below_drewN {n : Nat} {w w' : World} (h : Below n w w') (k : Nat) : Below n w (w'.drewN k) := ⟨h.os, h.tape, h.output, h.size, h.block⟩
theorem below_step {w0 w w' : World} (h : Below w0.heap.size w0 w) (b : Below w.heap.size w w') : Below w0.heap.size w0 w' := h.trans (b.mono h.size)
theorem quiet_left {P : Program} {f : FuncId} {args : Array Value} {w : World} {n : Nat} {v : Value}
    (h : Calls P f args (w.drewN n) fun e w' => e = .returned v ∧ w.drewN n = w') : Calls P f args (w.drewN n) fun e w'' => e = .returned v ∧ ∃ m, w'' = w.drewN m :=
  h.mono fun _ _ ⟨he, hm⟩ => ⟨he, n, hm.symm⟩
theorem index_at (S : List UInt8) (k : Nat) (c : UInt8) (hc : S[k]? = some c) (w : World) : (Instr.index 9 (.string ⟨S.toArray⟩) (.int .i64 (k : Int))).run Try.prog w = .ok (.int .u8 (c.toNat : Int)) w := by
  have hlt := (List.getElem?_eq_some_iff.1 hc).1
  have he := (List.getElem?_eq_some_iff.1 hc).2
  rw [run_index_string _ _ _ _ _ Try.underlying9]
  have hsz : (⟨S.toArray⟩ : ByteArray).size = S.length := by simp [ByteArray.size]
  rw [dif_pos ⟨by omega, by rw [hsz]; omega⟩]
  have hb : (⟨S.toArray⟩ : ByteArray)[((k : Int)).toNat]'(by rw [hsz]; omega) = c := he
  rw [hb]
theorem ret_int {k : IntKind} {a b : Int} (h : a = b) : Ending.returned (.int k a) = .returned (.int k b) := by rw [h]
theorem ret3 {k : IntKind} {a b : Int} {x y : Value} (h : a = b) : Ending.returned (.tuple #[.int k a, x, y]) = .returned (.tuple #[.int k b, x, y]) := by rw [h]
theorem ret_str {a b : ByteArray} (h : a = b) : Ending.returned (.string a) = .returned (.string b) := by rw [h]
theorem extract_drop (l : List UInt8) {n : Nat} (hn : n ≤ l.length) : (⟨l.toArray⟩ : ByteArray).extract n l.length = ⟨(l.drop n).toArray⟩ := by
  rw [ByteArray.extract_mk, List.take_of_length_le (by simp)]
theorem extract_mid (l : List UInt8) (a n : Nat) : (⟨l.toArray⟩ : ByteArray).extract a (a + n) = ⟨((l.drop a).take n).toArray⟩ := by
  rw [ByteArray.extract_mk, Nat.add_sub_cancel_left]
theorem u64_nat {x : Int} (h : (Lit.int .u64 x).wf = true) : ∃ n : Nat, x = n ∧ F64 n := by
  have : 0 ≤ x ∧ x ≤ 18446744073709551615 := by simpa [Lit.wf, IntKind.min, IntKind.max, IntKind.signed, IntKind.bits] using h
  exact ⟨x.toNat, by omega, by unfold F64; omega⟩
theorem str_list (s : ByteArray) : ∃ l : List UInt8, s = ⟨l.toArray⟩ ∧ s.size = l.length := ⟨s.data.toList, by cases s; rfl, Array.length_toList.symm⟩
theorem trod_one_int {H : Type} {enc : TypeId × Value → H} {W : World} {base : Nat} {sp : Nat → Bool} {hd : Bool} {n : Nat} {c : Value} {x : DataW H × List MemPlace} (h : DataW.trod enc Try.prog W base sp hd n 3 [c] = some x) : ∃ z, c = .int .i64 z ∧ W64 z := by
  obtain ⟨z, g, rfl, w⟩ := DataW.trod_int Try.underlying3 h
  simp at g
  exact ⟨z, g, w⟩
end Go.Proofs.Ytoiaigbagfalmaa
