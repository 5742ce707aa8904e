/- The network, in plain Lean: what goes, what is under way, what each call makes of it. More of what each call makes of a network, in plain Lean. The network: where it lies, what stays as it was; new, put, Len, place. Rows of texts: one taken out, a copy; numbers loaded and stored at once. -/
import Derived.Test.YtnaabaahfjklhaaGreatWireLaws
import Derived.Test.YtnaabaahfjklhaaGreatStRow
import Derived.Deep.AppendLies
import Derived.Laws.LoneSync
import Derived.Test.YtnaabaahfjklhaaGreatShelf
import Derived.Sort.OwnSorted
namespace Go.Proofs.YtnaabaahfjklhaaGreat
open Go.RowKit
set_option linter.unusedVariables false

/-- A message's bytes. -/
def ptext (M : MsgV) : List UInt8 := frame (textOf M)
/-- One that may be sent. -/
structure Goes (M : MsgV) : Prop where
  ok : MOk M
  may : mayW M = true
  len : (ptext M).length ≤ 1024
theorem Goes.read {M : MsgV} (h : Goes M) : readM (ptext M) = (M, 0) := by
  have hl := h.len
  unfold ptext at hl ⊢
  rw [readM, if_neg (by omega), msg_print h.ok h.may]
  rfl
theorem Goes.print {M : MsgV} (h : Goes M) : printM M = (ptext M, 0) := by
  have hl := h.len
  unfold ptext at hl ⊢
  rw [printM, if_pos h.may, if_neg (by omega)]
theorem goes_of {M : MsgV} (hok : MOk M) {p : List UInt8} {x : Int} (h : printM M = (p, x)) : (x = 0 ∧ Goes M ∧ p = ptext M) ∨ x ≠ 0 := by
  unfold printM at h
  split at h
  · rename_i hm
    split at h
    · obtain ⟨rfl, rfl⟩ := Prod.mk.inj h
      exact .inr (by decide)
    · rename_i hl
      obtain ⟨rfl, rfl⟩ := Prod.mk.inj h
      exact .inl ⟨rfl, ⟨hok, hm, by unfold ptext; omega⟩, rfl⟩
  · obtain ⟨rfl, rfl⟩ := Prod.mk.inj h
    exact .inr (by decide)
/-- Where one is, of n. -/
def placeN (i : Int) (n : Nat) : Nat := (max i 0).toNat % n
def sendN (L : List MsgV) (M : MsgV) : List MsgV × Int := if (printM M).2 = 0 then (if 2000 ≤ L.length then (L, 5) else (L ++ [M], 0)) else (L, (printM M).2)
def peekN (L : List MsgV) (i : Int) : MsgV × Int := match L[placeN i L.length]? with | some M => (M, 0) | none => (msgZero, 10)
def takeN_ (L : List MsgV) (i : Int) : List MsgV := L.eraseIdx (placeN i L.length)
def dblN (L : List MsgV) (i : Int) : List MsgV × Int := match L[placeN i L.length]? with | some M => (if 2000 ≤ L.length then (L, 5) else (L ++ [M], 0)) | none => (L, 10)
theorem placeN_lt (i : Int) {n : Nat} (h : 0 < n) : placeN i n < n := Nat.mod_lt _ h
theorem peekN_nil (i : Int) : peekN [] i = (msgZero, 10) := rfl
theorem peekN_some {L : List MsgV} {i : Int} {M : MsgV} (h : L[placeN i L.length]? = some M) : peekN L i = (M, 0) := by unfold peekN; rw [h]
theorem dblN_nil (i : Int) : dblN [] i = ([], 10) := rfl
theorem dblN_some {L : List MsgV} {i : Int} {M : MsgV} (h : L[placeN i L.length]? = some M) : dblN L i = if 2000 ≤ L.length then (L, 5) else (L ++ [M], 0) := by unfold dblN; rw [h]
theorem place_some {L : List MsgV} (h : L ≠ []) (i : Int) : ∃ M, L[placeN i L.length]? = some M := ⟨_, List.getElem?_eq_getElem (placeN_lt i (List.length_pos_iff.2 h))⟩
theorem sendN_some {L : List MsgV} {M : MsgV} (h : Goes M) (hl : L.length < 2000) : sendN L M = (L ++ [M], 0) := by
  rw [sendN, h.print, if_pos rfl, if_neg (by omega)]
end Go.Proofs.YtnaabaahfjklhaaGreat
namespace Go.Proofs.YtnaabaahfjklhaaGreat
open Go.RowKit
set_option linter.unusedVariables false

theorem sendN_full {L : List MsgV} {M : MsgV} (h : Goes M) (hl : 2000 ≤ L.length) : sendN L M = (L, 5) := by
  rw [sendN, h.print, if_pos rfl, if_pos hl]
theorem dblN_full {L : List MsgV} (hl : 2000 ≤ L.length) (i : Int) : dblN L i = (L, 5) := by
  obtain ⟨M, hM⟩ := place_some (L := L) (by rintro rfl; simp at hl) i
  rw [dblN_some hM, if_pos hl]
theorem dblN_room {L : List MsgV} (hn : L ≠ []) (hl : L.length < 2000) (i : Int) : ∃ M, L[placeN i L.length]? = some M ∧ dblN L i = (L ++ [M], 0) := by
  obtain ⟨M, hM⟩ := place_some hn i
  exact ⟨M, hM, by rw [dblN_some hM, if_neg (by omega)]⟩
theorem ntakeN_len {L : List MsgV} (hn : L ≠ []) (i : Int) : (takeN_ L i).length = L.length - 1 := by
  unfold takeN_
  rw [List.length_eraseIdx, if_pos (placeN_lt i (List.length_pos_iff.2 hn))]
end Go.Proofs.YtnaabaahfjklhaaGreat
namespace Go.Proofs.YtnaabaahfjklhaaGreat
open Go.RowKit Go.ChangeShapes Go.WideShapes Go.Joins Go.Deep
set_option linter.unusedVariables false

/-- Block b is a network: what is under way, how many went, how many came; v: its row, of the call's own from block B on. -/
def NetAt (B : Nat) (w : World) (b : Nat) (v : Value) (L : List MsgV) (s t : Int) : Prop :=
  B ≤ b ∧ w.heap[b]? = some (.cells #[v, .int .i64 s, .int .i64 t] 76 (0, 0)) ∧ w.ownsRow B 9 1 v L.length (strsCells (L.map ptext)) ∧ ∀ M ∈ L, Goes M
/-- All but the block b, and the row r, is as it was. -/
structure NKept (w w' : World) (b : Nat) (r : Option Nat) : Prop where
  os : w'.os = w.os
  tape : w'.tape = w.tape
  output : w'.output = w.output
  size : w.heap.size ≤ w'.heap.size
  block : ∀ k, k < w.heap.size → k ≠ b → some k ≠ r → w'.heap[k]? = w.heap[k]?
/-- A row is the elder one, or a new one. -/
def RNew (w : World) (v v' : Value) : Prop := ∀ j, v'.ownBlock = some j → v.ownBlock = some j ∨ w.heap.size ≤ j
theorem own_formN {w : World} {base : Nat} {e : TypeId} {size : Nat} {v : Value} {n : Nat} {xs : List Value} (h : w.ownsRow base e size v n xs) : ∃ A cap, v = .slice A n cap := by
  rcases h.2 with ⟨rfl, rfl⟩ | ⟨g, cap, cur, rfl, _⟩
  · exact ⟨_, _, rfl⟩
  · exact ⟨_, _, rfl⟩
section
variable {B b : Nat} {w w' : World} {v : Value} {L : List MsgV} {s t : Int}
theorem own_apartN {e : TypeId} {cs : Array Value} {T : TypeId} {fr : Nat × Nat} {xs : List Value} {n size : Nat} (hb : w.heap[b]? = some (.cells cs T fr)) (hown : w.ownsRow B e size v n xs) (hne : e ≠ T) : some b ≠ v.ownBlock := by
  intro he
  rcases hown.2 with ⟨rfl, _⟩ | ⟨g, cap, cur, rfl, _, hg, _⟩
  · simp [Value.ownBlock] at he
  · simp only [Value.ownBlock, Option.some.injEq] at he
    subst he
    rw [hb] at hg
    simp only [Option.some.injEq, Obj.cells.injEq] at hg
    exact hne hg.2.1.symm
theorem NetAt.lt (h : NetAt B w b v L s t) : b < w.heap.size := (Array.getElem?_eq_some_iff.1 h.2.1).1
theorem NetAt.cell0 (h : NetAt B w b v L s t) : w.cell? ⟨b, 0, none⟩ = some v := cell_of_row _ _ 0 _ _ _ h.2.1
theorem NetAt.cell1 (h : NetAt B w b v L s t) : w.cell? ⟨b, 1, none⟩ = some (.int .i64 s) := cell_of_row _ _ 1 _ _ _ h.2.1
theorem NetAt.cell2 (h : NetAt B w b v L s t) : w.cell? ⟨b, 2, none⟩ = some (.int .i64 t) := cell_of_row _ _ 2 _ _ _ h.2.1
theorem NetAt.free (h : NetAt B w b v L s t) (i : Nat) : w.frozen? ⟨b, i, none⟩ = false := by
  have := h.2.1
  simp [World.frozen?, this]
theorem NetAt.form (h : NetAt B w b v L s t) : ∃ A cap, v = .slice A L.length cap := own_formN h.2.2.1
theorem NetAt.apart (h : NetAt B w b v L s t) : some b ≠ v.ownBlock := own_apartN h.2.1 h.2.2.1 (by decide)
theorem NetAt.below (h : NetAt B w b v L s t) (hb : Below w.heap.size w w') : NetAt B w' b v L s t := ⟨h.1, (hb.block b h.lt).trans h.2.1, own_below' h.2.2.1 hb, h.2.2.2⟩
theorem NetAt.drewN (h : NetAt B w b v L s t) (n : Nat) : NetAt B (w.drewN n) b v L s t := h
theorem NetAt.drew (h : NetAt B w b v L s t) : NetAt B w.drew b v L s t := h
theorem NetAt.row (h : NetAt B w b v L s t) : ∀ j, v.ownBlock = some j → B ≤ j ∧ j < w.heap.size := h.2.2.1.lt
theorem NetAt.goes (h : NetAt B w b v L s t) {i : Nat} {M : MsgV} (hi : L[i]? = some M) : Goes M := h.2.2.2 M (List.mem_of_getElem? hi)
/-- What grows elsewhere leaves a network as it was. -/
theorem NetAt.grown {r : Option Nat} (h : NetAt B w b v L s t) (hg : w.grownBy w' r) (hb : some b ≠ r) (hv : v.ownBlock = none ∨ v.ownBlock ≠ r) : NetAt B w' b v L s t :=
  ⟨h.1, (hg.block b h.lt hb).trans h.2.1, h.2.2.1.kept hg hv, h.2.2.2⟩
theorem NKept.refl (w : World) (b : Nat) (r : Option Nat) : NKept w w b r := ⟨rfl, rfl, rfl, Nat.le_refl _, fun _ _ _ _ => rfl⟩
theorem NKept.of_below {r : Option Nat} (h : Below w.heap.size w w') : NKept w w' b r := ⟨h.os, h.tape, h.output, h.size, fun k hk _ _ => h.block k hk⟩
theorem NKept.of_grown {r : Option Nat} (h : w.grownBy w' r) : NKept w w' b r := ⟨h.os, h.tape, h.output, h.size, fun k hk _ hr => h.block k hk hr⟩
theorem NKept.of_grownB {r : Option Nat} (h : w.grownBy w' (some b)) : NKept w w' b r := ⟨h.os, h.tape, h.output, h.size, fun k hk hb _ => h.block k hk (by simpa using hb)⟩
theorem NKept.trans {w'' : World} {r : Option Nat} (h : NKept w w' b r) (g : NKept w' w'' b r) : NKept w w'' b r :=
  ⟨g.os.trans h.os, g.tape.trans h.tape, g.output.trans h.output, Nat.le_trans h.size g.size, fun k hk hb hr => (g.block k (Nat.lt_of_lt_of_le hk h.size) hb hr).trans (h.block k hk hb hr)⟩
/-- One behind the other, the row moved on. -/
theorem NKept.next {w'' : World} {v' : Value} (h : NKept w w' b v.ownBlock) (hn : RNew w v v') (g : NKept w' w'' b v'.ownBlock) : NKept w w'' b v.ownBlock :=
  ⟨g.os.trans h.os, g.tape.trans h.tape, g.output.trans h.output, Nat.le_trans h.size g.size, fun k hk hb hr => (g.block k (Nat.lt_of_lt_of_le hk h.size) hb (fun e => by
    rcases hn k e.symm with h1 | h1
    · exact hr h1.symm
    · omega)).trans (h.block k hk hb hr)⟩
theorem RNew.refl (w : World) (v : Value) : RNew w v v := fun j hj => .inl hj
theorem RNew.next {w' : World} {v' v'' : Value} (h : RNew w v v') (hs : w.heap.size ≤ w'.heap.size) (g : RNew w' v' v'') : RNew w v v'' := fun j hj => by
  rcases g j hj with h1 | h1
  · exact h j h1
  · exact .inr (by omega)
theorem NKept.below {r : Option Nat} {w0 : World} (hk : NKept w w' b r) (hb : Below w0.heap.size w0 w) (hc : w0.heap.size ≤ b) (hr : ∀ j, r = some j → w0.heap.size ≤ j) : Below w0.heap.size w0 w' :=
  ⟨hk.os.trans hb.os, hk.tape.trans hb.tape, hk.output.trans hb.output, Nat.le_trans hb.size hk.size, fun k hlt => (hk.block k (Nat.lt_of_lt_of_le hlt hb.size) (by omega) (fun e => by have := hr k e.symm; omega)).trans (hb.block k hlt)⟩
/-- A block apart stays as it was. -/
theorem blk_nkept {T : Nat} {r : Option Nat} {Ty : TypeId} {cs : List Value} (hT : BlkAt w T Ty cs) (hk : NKept w w' b r) (hb : T ≠ b) (hr : some T ≠ r) : BlkAt w' T Ty cs := (hk.block T hT.lt hb hr).trans hT
/-- The network's own cells set. -/
theorem NetAt.set1 (h : NetAt B w b v L s t) (s' : Int) : NetAt B (w.setCell ⟨b, 1, none⟩ (.int .i64 s')) b v L s' t := by
  refine ⟨h.1, ?_, h.2.2.1.kept (grown_setCell w b 1 (.int .i64 s')) (.inr fun e => h.apart e.symm), h.2.2.2⟩
  have := h.2.1
  simp [World.setCell, Array.getElem?_modify, this]
theorem NetAt.set2 (h : NetAt B w b v L s t) (t' : Int) : NetAt B (w.setCell ⟨b, 2, none⟩ (.int .i64 t')) b v L s t' := by
  refine ⟨h.1, ?_, h.2.2.1.kept (grown_setCell w b 2 (.int .i64 t')) (.inr fun e => h.apart e.symm), h.2.2.2⟩
  have := h.2.1
  simp [World.setCell, Array.getElem?_modify, this]
theorem NetAt.put0 {u v' : Value} {L' : List MsgV} (hB : B ≤ b) (hb : w.heap[b]? = some (.cells #[u, .int .i64 s, .int .i64 t] 76 (0, 0))) (hown : w.ownsRow B 9 1 v' L'.length (strsCells (L'.map ptext))) (hL : ∀ M ∈ L', Goes M) :
    NetAt B (w.setCell ⟨b, 0, none⟩ v') b v' L' s t := by
  refine ⟨hB, ?_, hown.kept (grown_setCell w b 0 v') (.inr fun e => own_apartN hb hown (by decide) e.symm), hL⟩
  simp [World.setCell, Array.getElem?_modify, hb]
end

set_option maxRecDepth 100000 in
theorem nnew_any (w : World) : Calls Tryz.prog 11 #[] w fun e w' => ∃ b, e = .returned (.pointer (some ⟨b, 0, none⟩)) ∧ NetAt w.heap.size w' b (.slice none 0 0) [] 0 0 ∧ Below w.heap.size w w' := by
  go_enter Tryz.func11, Tryz.ntmps11
  go_wp2_with fail
  go_ret
  exact ⟨w.heap.size, rfl, ⟨Nat.le_refl _, heap_alloc_new _ _, World.ownsRow_nil _ _ _ _, by simp⟩, (Below.refl _ _).alloc (Nat.le_refl _) _⟩
set_option maxRecDepth 100000 in
theorem nlen_any {B b : Nat} {w : World} {v : Value} {L : List MsgV} {s t : Int} (h : NetAt B w b v L s t) :
    Calls Tryz.prog 15 #[.pointer (some ⟨b, 0, none⟩)] w fun e w' => e = .returned (.int .i64 (L.length : Nat)) ∧ w = w' := by
  obtain ⟨A, cap, rfl⟩ := h.form
  have c0 := h.cell0
  clear h
  go_enter Tryz.func15, Tryz.ntmps15
  go_wp2_with fail
  go_ret
  exact ⟨rfl, rfl⟩
set_option maxRecDepth 100000 in
theorem nlen_nil (w : World) : Calls Tryz.prog 15 #[.pointer none] w fun e w' => e = .returned (.int .i64 0) ∧ w = w' := by
  go_enter Tryz.func15, Tryz.ntmps15
  go_wp2_with fail
  go_ret
  exact ⟨rfl, rfl⟩
theorem mod_place (i : Int) {n : Nat} (h : 0 < n) : max i 0 % (n : Int) = (placeN i n : Nat) := by
  unfold placeN
  have : (max i 0) = (((max i 0).toNat : Nat) : Int) := by omega
  rw [this]
  simp only [Int.toNat_natCast]
  rw [← Int.natCast_emod]
set_option maxRecDepth 100000 in
set_option maxHeartbeats 1000000 in
theorem nplace_none {B b : Nat} {w : World} {v : Value} {s t : Int} (h : NetAt B w b v [] s t) (i : Int) :
    Calls Tryz.prog 29 #[.pointer (some ⟨b, 0, none⟩), .int .i64 i] w fun e w' => e = .returned (.tuple #[.int .i64 0, .int .i64 10]) ∧ w = w' := by
  obtain ⟨A, cap, rfl⟩ := h.form
  have c0 := h.cell0
  clear h
  go_enter Tryz.func29, Tryz.ntmps29
  go_wp2_with fail
  go_ret2
  exact ⟨rfl, rfl⟩
set_option maxRecDepth 100000 in
set_option maxHeartbeats 1000000 in
theorem nplace_any {B b : Nat} {w : World} {v : Value} {L : List MsgV} {s t : Int} (h : NetAt B w b v L s t) (hL : L ≠ []) (hl : L.length ≤ 1000000) {i : Int} (hi : W64 i) :
    Calls Tryz.prog 29 #[.pointer (some ⟨b, 0, none⟩), .int .i64 i] w fun e w' => e = .returned (.tuple #[.int .i64 (placeN i L.length : Nat), .int .i64 0]) ∧ w = w' := by
  obtain ⟨A, cap, rfl⟩ := h.form
  have c0 := h.cell0
  have hp : 0 < L.length := List.length_pos_iff.2 hL
  have hp0 : ((L.length : Int) == 0) = false := by simp; omega
  have hm := mod_place i hp
  have HM := Lib.hid hm
  clear h hm
  go_enter Tryz.func29, Tryz.ntmps29
  go_wp2_with fail
  go_ret2
  exact ⟨congrArg (fun x : Int => Ending.returned (.tuple #[.int .i64 x, .int .i64 0])) HM.out, rfl⟩
set_option maxRecDepth 100000 in
theorem nplace_nil (w : World) (i : Int) : Calls Tryz.prog 29 #[.pointer none, .int .i64 i] w fun e w' => e = .returned (.tuple #[.int .i64 0, .int .i64 12]) ∧ w = w' := by
  go_enter Tryz.func29, Tryz.ntmps29
  go_wp2_with fail
  go_ret2
  exact ⟨rfl, rfl⟩
set_option maxRecDepth 100000 in
theorem nput_full {B b : Nat} {w : World} {v : Value} {L : List MsgV} {s t : Int} (h : NetAt B w b v L s t) (hl : 2000 ≤ L.length) (p : ByteArray) :
    Calls Tryz.prog 27 #[.pointer (some ⟨b, 0, none⟩), .string p] w fun e w' => e = .returned (.int .i64 5) ∧ w = w' := by
  obtain ⟨A, cap, rfl⟩ := h.form
  have c0 := h.cell0
  have hl' : (2000 : Int) ≤ (L.length : Int) := by omega
  clear h
  go_enter Tryz.func27, Tryz.ntmps27
  go_wp2_with fail
  go_ret
  exact ⟨rfl, rfl⟩
set_option maxRecDepth 100000 in
set_option maxHeartbeats 2000000 in

theorem nput_room {B b : Nat} {w : World} {v : Value} {L : List MsgV} {s t : Int} (h : NetAt B w b v L s t) (hl : L.length < 2000) {M : MsgV} (hM : Goes M) :
    Calls Tryz.prog 27 #[.pointer (some ⟨b, 0, none⟩), .string ⟨(ptext M).toArray⟩] w fun e w' => e = .returned (.int .i64 0) ∧ ∃ v', NetAt B w' b v' (L ++ [M]) s t ∧ NKept w w' b v.ownBlock ∧ RNew w v v' := by
  obtain ⟨i0, hi0, hz0, hz1, hz2⟩ := strs_info
  obtain ⟨A, cap, rfl⟩ := h.form
  have c0 := h.cell0
  have hown := h.2.2.1
  have hbl := h.lt
  have hap := h.apart
  have hBw : B ≤ w.heap.size := by have := h.1; omega
  have hl' : ¬ (2000 : Int) ≤ (L.length : Int) := by omega
  have hbk := h.2.1
  have HB := Lib.hid h.1
  have HG := Lib.hid h.2.2.2
  have HM := Lib.hid hM
  generalize hp : ptext M = p at *
  have HP := Lib.hid hp
  clear h hM hp
  go_enter Tryz.func27, Tryz.ntmps27
  go_wp2_with (at_builtin; refine wpList_append_lies _ rfl (.tmp 15) (.tmp 17) 67 rfl B 9 i0 _ 1 16 Tryz.underlying67 hi0 hz0 hz1 hz2 rfl (by omega) _ _ _ rfl (hown.alloc _) ⟨w.heap.size, 0, none⟩ 1 1 [.string ⟨p.toArray⟩] rfl rfl ?c1 ?c2 (by omega) ?c3 ?c4 ?c5 (w.heap.size + 1) (by simp) ?_)
  case c2 => simp [Value.oneCell']
  case c3 => unfold maxLen; omega
  case c4 => omega
  case c5 => first | omega | (simp; omega)
  intro g' cap' w' hown' hg' hat' hlt'
  have hk := NKept.trans (NKept.of_below (b := b) (r := (Value.slice A L.length cap).ownBlock) ((Below.refl w.heap.size w).alloc (Nat.le_refl _) (.cells #[.string ⟨p.toArray⟩] 9))) (NKept.of_grown hg')
  have hbk' : w'.heap[b]? = some (.cells #[.slice A L.length cap, .int .i64 s, .int .i64 t] 76 (0, 0)) := (hg'.block b (by simp; omega) hap).trans ((heap_alloc_old _ _ hbl).trans hbk)
  have c0' := cell_of_row _ _ 0 _ _ _ hbk'
  have hf : w'.frozen? ⟨b, 0, none⟩ = false := by simp [World.frozen?, hbk']
  have hL2 : strsCells ((L ++ [M]).map ptext) = strsCells (L.map ptext) ++ [.string ⟨p.toArray⟩] := by rw [List.map_append, List.map_cons, List.map_nil, strsCells_snoc, HP.out]
  have hN := Lib.hid (NetAt.put0 (L' := L ++ [M]) HB.out hbk' (by rw [hL2, List.length_append]; exact hown') (by
    intro K hK
    rcases List.mem_append.1 hK with hK | hK
    · exact HG.out K hK
    · rw [List.mem_singleton.1 hK]; exact HM.out))
  have hK := Lib.hid (hk.trans (NKept.of_grownB (grown_setCell w' b 0 (.slice (some ⟨g', 0, none⟩) (L.length + 1) cap'))))
  have hR : Hid (RNew w (.slice A L.length cap) (.slice (some ⟨g', 0, none⟩) (L.length + 1) cap')) := Lib.hid (by
    intro j hj
    simp only [Value.ownBlock, Option.some.injEq] at hj
    subst hj
    rcases hat' with h1 | h1
    · exact .inl h1
    · exact .inr (by omega))
  clear hk hbk hg' hat' hown hown' hbk' hL2
  go_wp2_with fail
  go_ret
  exact ⟨rfl, _, hN.out, hK.out, hR.out⟩
end Go.Proofs.YtnaabaahfjklhaaGreat
namespace Go.Proofs.YtnaabaahfjklhaaGreat
open Go.RowKit Go.ChangeShapes Go.WideShapes Go.Joins Go.Deep
set_option linter.unusedVariables false

theorem strs_enc (L : List (List UInt8)) : strsCells L = L.map Go.Proofs.encStr := rfl
theorem ndelete_any {B g cap k : Nat} {w : World} {L : List (List UInt8)} (hown : w.ownsRow B 9 1 (.slice (some ⟨g, 0, none⟩) L.length cap) L.length (strsCells L)) (hk : k < L.length) (hl : L.length ≤ 1000000) :
    Calls Tryz.prog 30 #[.slice (some ⟨g, 0, none⟩) L.length cap, .int .i64 k, .int .i64 ((k : Int) + 1)] w fun e w' => e = .returned (.slice (some ⟨g, 0, none⟩) (L.length - 1) cap) ∧
      w'.ownsRow B 9 1 (.slice (some ⟨g, 0, none⟩) (L.length - 1) cap) (L.length - 1) (strsCells (L.eraseIdx k)) ∧ w.grownBy w' (some g) := by
  rcases hown.2 with ⟨hv, h0⟩ | ⟨g', cap', cur, hv, hbase, hb, h1, h2, h3, h4⟩
  · omega
  · simp only [Value.slice.injEq, Option.some.injEq, Addr.mk.injEq, true_and, and_true] at hv
    obtain ⟨rfl, rfl⟩ := hv
    rw [Nat.mul_one] at h3 h4
    have hH : Go.Sort.Holds Go.Proofs.encStr w g 0 L.toArray := holds_of_block hb h4
    have hc := Tryz.slices_Delete_string g 0 cap k (k + 1) L w hH h1 (by unfold maxLen at h2; omega) (by omega) (by omega)
    rw [show k + 1 - k = 1 by omega] at hc
    have hc : Calls Tryz.prog 30 #[.slice (some ⟨g, 0, none⟩) L.length cap, .int .i64 k, .int .i64 ((k : Int) + 1)] w _ := hc
    refine hc.mono ?_
    rintro e w' ⟨rfl, q, rfl⟩
    obtain ⟨ts, hts⟩ : ∃ ts, ts = L.take k ++ L.drop (k + 1) ++ List.replicate 1 ([] : List UInt8) := ⟨_, rfl⟩
    have htl : ts.length = L.length := by rw [hts]; simp; omega
    rw [← hts]
    have hg : g < w.heap.size := (Array.getElem?_eq_some_iff.1 hb).1
    have hbp : (Go.Sort.putRow Go.Proofs.encStr (Go.Sort.ahead w q) g 0 ts.toArray).heap[g]? = some (.cells (Go.Sort.putCells Go.Proofs.encStr 0 ts.toArray cur) 9 (0, 0)) := by
      simp [Go.Sort.putRow, Go.Sort.mapBlock, Go.Sort.ahead, Array.getElem?_modify, hb, Go.Sort.onCells]
    have hel : (L.eraseIdx k).length = L.length - 1 := by rw [List.length_eraseIdx, if_pos hk]
    refine ⟨rfl, ⟨by rw [strsCells_len, hel, Nat.mul_one], .inr ⟨g, cap, _, rfl, hbase, hbp, by omega, h2, by simp [Go.Sort.putCells, h3], ?_⟩⟩, ⟨rfl, rfl, rfl, ?_, fun j hj hne => ?_⟩⟩
    · rw [Nat.mul_one]
      have ht := take_putCells cur ts (by omega)
      rw [htl] at ht
      have h5 : (Go.Sort.putCells Go.Proofs.encStr 0 ts.toArray cur).toList.take (L.length - 1) = ((Go.Sort.putCells Go.Proofs.encStr 0 ts.toArray cur).toList.take L.length).take (L.length - 1) := by rw [List.take_take, Nat.min_eq_left (by omega)]
      rw [h5, ht, strs_enc, ← List.map_take]
      congr 1
      rw [hts, ← List.eraseIdx_eq_take_drop_succ, List.take_append_of_le_length (by omega), List.take_of_length_le (by omega)]
    · simp [Go.Sort.putRow, Go.Sort.mapBlock, Go.Sort.ahead]
    · have : g ≠ j := fun e => hne (by rw [e])
      simp [Go.Sort.putRow, Go.Sort.mapBlock, Go.Sort.ahead, Array.getElem?_modify, this]
theorem nclone_any {B : Nat} {w : World} {v : Value} {L : List (List UInt8)} (hown : w.ownsRow B 9 1 v L.length (strsCells L)) (hl : L.length ≤ 1000000) :
    Calls Tryz.prog 37 #[v] w fun e w' => ∃ v', e = .returned v' ∧ w'.ownsRow w.heap.size 9 1 v' L.length (strsCells L) ∧ Below w.heap.size w w' := by
  rcases hown.2 with ⟨rfl, h0⟩ | ⟨g, cap, cur, rfl, hbase, hb, h1, h2, h3, h4⟩
  · refine Calls.mono (Tryz.slices_Clone_string_nil 0 0 w) ?_
    rintro e w' ⟨rfl, rfl⟩
    have hL : L = [] := List.length_eq_zero_iff.1 h0
    subst hL
    exact ⟨_, rfl, World.ownsRow_nil _ _ _ _, Below.refl _ _⟩
  · have hc := Tryz.slices_Clone_string g 0 L.length cap (L.map fun l => ⟨l.toArray⟩) w (by simp) (by omega) (by
      intro j hj
      have hj : j < L.length := by simpa using hj
      rw [Nat.zero_add, World.ownsRow.cellAt hown j (by omega)]
      simp [strsCells, hj])
    refine hc.mono ?_
    rintro e w' ⟨v', rfl, h5, _, h6⟩
    refine ⟨v', rfl, ?_, h6⟩
    have h7 : ((L.map fun l => (⟨l.toArray⟩ : ByteArray)).take L.length).map Value.string = strsCells L := by
      rw [List.take_of_length_le (by simp), List.map_map]
      rfl
    rw [h7] at h5
    exact h5

set_option maxRecDepth 100000 in
theorem aload_any {a : Addr} {x : Int} {w : World} (hc : w.cell? a = some (.int .i64 x)) : Calls Tryz.prog 39 #[.pointer (some a)] w fun e w' => e = .returned (.int .i64 x) ∧ w = w' := by
  have hl := run_call_load (P := Tryz.prog) Tryz.func54 (by kernel_rfl) (by kernel_rfl) (by kernel_rfl) .i64 (by kernel_rfl) hc
  obtain ⟨bb, oo, ss⟩ := a
  go_enter Tryz.func39, Tryz.ntmps39
  go_wp2_with fail
  go_ret
  exact ⟨rfl, rfl⟩
set_option maxRecDepth 100000 in
theorem astore_any {bb oo : Nat} {x y : Int} {w : World} (hc : w.cell? ⟨bb, oo, none⟩ = some (.int .i64 x)) (hz : w.frozen? ⟨bb, oo, none⟩ = false) : Calls Tryz.prog 38 #[.pointer (some ⟨bb, oo, none⟩), .int .i64 y] w fun e w' => e = .returned (.tuple #[]) ∧ w' = w.setCell ⟨bb, oo, none⟩ (.int .i64 y) := by
  have hl := run_call_store (P := Tryz.prog) Tryz.func53 (by kernel_rfl) (by kernel_rfl) (by kernel_rfl) (by kernel_rfl) (k := .i64) (y := y) hc hz
  go_enter Tryz.func38, Tryz.ntmps38
  go_wp2_with fail
  go_end0
  exact ⟨rfl, rfl⟩
theorem add_one (s : Int) (h : 0 ≤ s ∧ s ≤ 1000000000) (w : World) : (Op.intArith .add .i64 s 1).run Tryz.prog w = .ok (.int .i64 (s + 1)) w := by
  simp [go_sem]
  rw [IntKind.wrap_i64]
  omega
set_option maxRecDepth 100000 in
theorem aadd_any {bb oo : Nat} {s : Int} {w : World} (hc : w.cell? ⟨bb, oo, none⟩ = some (.int .i64 s)) (hz : w.frozen? ⟨bb, oo, none⟩ = false) (hs : 0 ≤ s ∧ s ≤ 1000000000) : Calls Tryz.prog 28 #[.pointer (some ⟨bb, oo, none⟩), .int .i64 1] w fun e w' => e = .returned (.int .i64 (s + 1)) ∧ w' = w.setCell ⟨bb, oo, none⟩ (.int .i64 (s + 1)) := by
  have hadd := run_call_add (P := Tryz.prog) Tryz.func43 (by kernel_rfl) (by kernel_rfl) (by kernel_rfl) .i64 (by kernel_rfl) (y := 1) (s := s + 1) hc hz (add_one s hs _)
  go_enter Tryz.func28, Tryz.ntmps28
  go_wp2_with fail
  go_ret
  exact ⟨rfl, rfl⟩
end Go.Proofs.YtnaabaahfjklhaaGreat
