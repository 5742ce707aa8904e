/- The network: where it lies, what stays as it was; new, put, Len, place. -/
import Derived.Test.YtnaabaahfjklhaaGreatNetPlain
import Derived.Test.YtnaabaahfjklhaaGreatStRow
import Derived.Deep.AppendLies
import Derived.Laws.LoneSync
namespace Go.Proofs.YtnaabaahfjklhaaGreat
open Go.RowKit Go.ChangeShapes Go.WideShapes Go.Joins Go.Deep
set_option linter.unusedVariables false

/-- Block b is a network: what is under way, how many went, how many came; v: its row, of the call's own from block B on. -/
def NetAt (B : Nat) (w : World) (b : Nat) (v : Value) (L : List MsgV) (s t : Int) : Prop :=
  B ≤ b ∧ w.heap[b]? = some (.cells #[v, .int .i64 s, .int .i64 t] 76 (0, 0)) ∧ w.ownsRow B 9 1 v L.length (strsCells (L.map ptext)) ∧ ∀ M ∈ L, Goes M
/-- All but the block b, and the row r, is as it was. -/
structure NKept (w w' : World) (b : Nat) (r : Option Nat) : Prop where
  os : w'.os = w.os
  tape : w'.tape = w.tape
  output : w'.output = w.output
  size : w.heap.size ≤ w'.heap.size
  block : ∀ k, k < w.heap.size → k ≠ b → some k ≠ r → w'.heap[k]? = w.heap[k]?
/-- A row is the elder one, or a new one. -/
def RNew (w : World) (v v' : Value) : Prop := ∀ j, v'.ownBlock = some j → v.ownBlock = some j ∨ w.heap.size ≤ j
theorem own_formN {w : World} {base : Nat} {e : TypeId} {size : Nat} {v : Value} {n : Nat} {xs : List Value} (h : w.ownsRow base e size v n xs) : ∃ A cap, v = .slice A n cap := by
  rcases h.2 with ⟨rfl, rfl⟩ | ⟨g, cap, cur, rfl, _⟩
  · exact ⟨_, _, rfl⟩
  · exact ⟨_, _, rfl⟩
section
variable {B b : Nat} {w w' : World} {v : Value} {L : List MsgV} {s t : Int}
theorem own_apartN {e : TypeId} {cs : Array Value} {T : TypeId} {fr : Nat × Nat} {xs : List Value} {n size : Nat} (hb : w.heap[b]? = some (.cells cs T fr)) (hown : w.ownsRow B e size v n xs) (hne : e ≠ T) : some b ≠ v.ownBlock := by
  intro he
  rcases hown.2 with ⟨rfl, _⟩ | ⟨g, cap, cur, rfl, _, hg, _⟩
  · simp [Value.ownBlock] at he
  · simp only [Value.ownBlock, Option.some.injEq] at he
    subst he
    rw [hb] at hg
    simp only [Option.some.injEq, Obj.cells.injEq] at hg
    exact hne hg.2.1.symm
theorem NetAt.lt (h : NetAt B w b v L s t) : b < w.heap.size := (Array.getElem?_eq_some_iff.1 h.2.1).1
theorem NetAt.cell0 (h : NetAt B w b v L s t) : w.cell? ⟨b, 0, none⟩ = some v := cell_of_row _ _ 0 _ _ _ h.2.1
theorem NetAt.cell1 (h : NetAt B w b v L s t) : w.cell? ⟨b, 1, none⟩ = some (.int .i64 s) := cell_of_row _ _ 1 _ _ _ h.2.1
theorem NetAt.cell2 (h : NetAt B w b v L s t) : w.cell? ⟨b, 2, none⟩ = some (.int .i64 t) := cell_of_row _ _ 2 _ _ _ h.2.1
theorem NetAt.free (h : NetAt B w b v L s t) (i : Nat) : w.frozen? ⟨b, i, none⟩ = false := by
  have := h.2.1
  simp [World.frozen?, this]
theorem NetAt.form (h : NetAt B w b v L s t) : ∃ A cap, v = .slice A L.length cap := own_formN h.2.2.1
theorem NetAt.apart (h : NetAt B w b v L s t) : some b ≠ v.ownBlock := own_apartN h.2.1 h.2.2.1 (by decide)
theorem NetAt.below (h : NetAt B w b v L s t) (hb : Below w.heap.size w w') : NetAt B w' b v L s t := ⟨h.1, (hb.block b h.lt).trans h.2.1, own_below' h.2.2.1 hb, h.2.2.2⟩
theorem NetAt.drewN (h : NetAt B w b v L s t) (n : Nat) : NetAt B (w.drewN n) b v L s t := h
theorem NetAt.drew (h : NetAt B w b v L s t) : NetAt B w.drew b v L s t := h
theorem NetAt.row (h : NetAt B w b v L s t) : ∀ j, v.ownBlock = some j → B ≤ j ∧ j < w.heap.size := h.2.2.1.lt
theorem NetAt.goes (h : NetAt B w b v L s t) {i : Nat} {M : MsgV} (hi : L[i]? = some M) : Goes M := h.2.2.2 M (List.mem_of_getElem? hi)
/-- What grows elsewhere leaves a network as it was. -/
theorem NetAt.grown {r : Option Nat} (h : NetAt B w b v L s t) (hg : w.grownBy w' r) (hb : some b ≠ r) (hv : v.ownBlock = none ∨ v.ownBlock ≠ r) : NetAt B w' b v L s t :=
  ⟨h.1, (hg.block b h.lt hb).trans h.2.1, h.2.2.1.kept hg hv, h.2.2.2⟩
theorem NKept.refl (w : World) (b : Nat) (r : Option Nat) : NKept w w b r := ⟨rfl, rfl, rfl, Nat.le_refl _, fun _ _ _ _ => rfl⟩
theorem NKept.of_below {r : Option Nat} (h : Below w.heap.size w w') : NKept w w' b r := ⟨h.os, h.tape, h.output, h.size, fun k hk _ _ => h.block k hk⟩
theorem NKept.of_grown {r : Option Nat} (h : w.grownBy w' r) : NKept w w' b r := ⟨h.os, h.tape, h.output, h.size, fun k hk _ hr => h.block k hk hr⟩
theorem NKept.of_grownB {r : Option Nat} (h : w.grownBy w' (some b)) : NKept w w' b r := ⟨h.os, h.tape, h.output, h.size, fun k hk hb _ => h.block k hk (by simpa using hb)⟩
theorem NKept.trans {w'' : World} {r : Option Nat} (h : NKept w w' b r) (g : NKept w' w'' b r) : NKept w w'' b r :=
  ⟨g.os.trans h.os, g.tape.trans h.tape, g.output.trans h.output, Nat.le_trans h.size g.size, fun k hk hb hr => (g.block k (Nat.lt_of_lt_of_le hk h.size) hb hr).trans (h.block k hk hb hr)⟩
/-- One behind the other, the row moved on. -/
theorem NKept.next {w'' : World} {v' : Value} (h : NKept w w' b v.ownBlock) (hn : RNew w v v') (g : NKept w' w'' b v'.ownBlock) : NKept w w'' b v.ownBlock :=
  ⟨g.os.trans h.os, g.tape.trans h.tape, g.output.trans h.output, Nat.le_trans h.size g.size, fun k hk hb hr => (g.block k (Nat.lt_of_lt_of_le hk h.size) hb (fun e => by
    rcases hn k e.symm with h1 | h1
    · exact hr h1.symm
    · omega)).trans (h.block k hk hb hr)⟩
theorem RNew.refl (w : World) (v : Value) : RNew w v v := fun j hj => .inl hj
theorem RNew.next {w' : World} {v' v'' : Value} (h : RNew w v v') (hs : w.heap.size ≤ w'.heap.size) (g : RNew w' v' v'') : RNew w v v'' := fun j hj => by
  rcases g j hj with h1 | h1
  · exact h j h1
  · exact .inr (by omega)
theorem NKept.below {r : Option Nat} {w0 : World} (hk : NKept w w' b r) (hb : Below w0.heap.size w0 w) (hc : w0.heap.size ≤ b) (hr : ∀ j, r = some j → w0.heap.size ≤ j) : Below w0.heap.size w0 w' :=
  ⟨hk.os.trans hb.os, hk.tape.trans hb.tape, hk.output.trans hb.output, Nat.le_trans hb.size hk.size, fun k hlt => (hk.block k (Nat.lt_of_lt_of_le hlt hb.size) (by omega) (fun e => by have := hr k e.symm; omega)).trans (hb.block k hlt)⟩
/-- A block apart stays as it was. -/
theorem blk_nkept {T : Nat} {r : Option Nat} {Ty : TypeId} {cs : List Value} (hT : BlkAt w T Ty cs) (hk : NKept w w' b r) (hb : T ≠ b) (hr : some T ≠ r) : BlkAt w' T Ty cs := (hk.block T hT.lt hb hr).trans hT
/-- The network's own cells set. -/
theorem NetAt.set1 (h : NetAt B w b v L s t) (s' : Int) : NetAt B (w.setCell ⟨b, 1, none⟩ (.int .i64 s')) b v L s' t := by
  refine ⟨h.1, ?_, h.2.2.1.kept (grown_setCell w b 1 (.int .i64 s')) (.inr fun e => h.apart e.symm), h.2.2.2⟩
  have := h.2.1
  simp [World.setCell, Array.getElem?_modify, this]
theorem NetAt.set2 (h : NetAt B w b v L s t) (t' : Int) : NetAt B (w.setCell ⟨b, 2, none⟩ (.int .i64 t')) b v L s t' := by
  refine ⟨h.1, ?_, h.2.2.1.kept (grown_setCell w b 2 (.int .i64 t')) (.inr fun e => h.apart e.symm), h.2.2.2⟩
  have := h.2.1
  simp [World.setCell, Array.getElem?_modify, this]
theorem NetAt.put0 {u v' : Value} {L' : List MsgV} (hB : B ≤ b) (hb : w.heap[b]? = some (.cells #[u, .int .i64 s, .int .i64 t] 76 (0, 0))) (hown : w.ownsRow B 9 1 v' L'.length (strsCells (L'.map ptext))) (hL : ∀ M ∈ L', Goes M) :
    NetAt B (w.setCell ⟨b, 0, none⟩ v') b v' L' s t := by
  refine ⟨hB, ?_, hown.kept (grown_setCell w b 0 v') (.inr fun e => own_apartN hb hown (by decide) e.symm), hL⟩
  simp [World.setCell, Array.getElem?_modify, hb]
end

set_option maxRecDepth 100000 in
theorem nnew_any (w : World) : Calls Tryz.prog 11 #[] w fun e w' => ∃ b, e = .returned (.pointer (some ⟨b, 0, none⟩)) ∧ NetAt w.heap.size w' b (.slice none 0 0) [] 0 0 ∧ Below w.heap.size w w' := by
  go_enter Tryz.func11, Tryz.ntmps11
  go_wp2_with fail
  go_ret
  exact ⟨w.heap.size, rfl, ⟨Nat.le_refl _, heap_alloc_new _ _, World.ownsRow_nil _ _ _ _, by simp⟩, (Below.refl _ _).alloc (Nat.le_refl _) _⟩
set_option maxRecDepth 100000 in
theorem nlen_any {B b : Nat} {w : World} {v : Value} {L : List MsgV} {s t : Int} (h : NetAt B w b v L s t) :
    Calls Tryz.prog 15 #[.pointer (some ⟨b, 0, none⟩)] w fun e w' => e = .returned (.int .i64 (L.length : Nat)) ∧ w = w' := by
  obtain ⟨A, cap, rfl⟩ := h.form
  have c0 := h.cell0
  clear h
  go_enter Tryz.func15, Tryz.ntmps15
  go_wp2_with fail
  go_ret
  exact ⟨rfl, rfl⟩
set_option maxRecDepth 100000 in
theorem nlen_nil (w : World) : Calls Tryz.prog 15 #[.pointer none] w fun e w' => e = .returned (.int .i64 0) ∧ w = w' := by
  go_enter Tryz.func15, Tryz.ntmps15
  go_wp2_with fail
  go_ret
  exact ⟨rfl, rfl⟩
theorem mod_place (i : Int) {n : Nat} (h : 0 < n) : max i 0 % (n : Int) = (placeN i n : Nat) := by
  unfold placeN
  have : (max i 0) = (((max i 0).toNat : Nat) : Int) := by omega
  rw [this]
  simp only [Int.toNat_natCast]
  rw [← Int.natCast_emod]
set_option maxRecDepth 100000 in
set_option maxHeartbeats 1000000 in
theorem nplace_none {B b : Nat} {w : World} {v : Value} {s t : Int} (h : NetAt B w b v [] s t) (i : Int) :
    Calls Tryz.prog 29 #[.pointer (some ⟨b, 0, none⟩), .int .i64 i] w fun e w' => e = .returned (.tuple #[.int .i64 0, .int .i64 10]) ∧ w = w' := by
  obtain ⟨A, cap, rfl⟩ := h.form
  have c0 := h.cell0
  clear h
  go_enter Tryz.func29, Tryz.ntmps29
  go_wp2_with fail
  go_ret2
  exact ⟨rfl, rfl⟩
set_option maxRecDepth 100000 in
set_option maxHeartbeats 1000000 in
theorem nplace_any {B b : Nat} {w : World} {v : Value} {L : List MsgV} {s t : Int} (h : NetAt B w b v L s t) (hL : L ≠ []) (hl : L.length ≤ 1000000) {i : Int} (hi : W64 i) :
    Calls Tryz.prog 29 #[.pointer (some ⟨b, 0, none⟩), .int .i64 i] w fun e w' => e = .returned (.tuple #[.int .i64 (placeN i L.length : Nat), .int .i64 0]) ∧ w = w' := by
  obtain ⟨A, cap, rfl⟩ := h.form
  have c0 := h.cell0
  have hp : 0 < L.length := List.length_pos_iff.2 hL
  have hp0 : ((L.length : Int) == 0) = false := by simp; omega
  have hm := mod_place i hp
  have HM := Lib.hid hm
  clear h hm
  go_enter Tryz.func29, Tryz.ntmps29
  go_wp2_with fail
  go_ret2
  exact ⟨congrArg (fun x : Int => Ending.returned (.tuple #[.int .i64 x, .int .i64 0])) HM.out, rfl⟩
set_option maxRecDepth 100000 in
theorem nplace_nil (w : World) (i : Int) : Calls Tryz.prog 29 #[.pointer none, .int .i64 i] w fun e w' => e = .returned (.tuple #[.int .i64 0, .int .i64 12]) ∧ w = w' := by
  go_enter Tryz.func29, Tryz.ntmps29
  go_wp2_with fail
  go_ret2
  exact ⟨rfl, rfl⟩
set_option maxRecDepth 100000 in
theorem nput_full {B b : Nat} {w : World} {v : Value} {L : List MsgV} {s t : Int} (h : NetAt B w b v L s t) (hl : 2000 ≤ L.length) (p : ByteArray) :
    Calls Tryz.prog 27 #[.pointer (some ⟨b, 0, none⟩), .string p] w fun e w' => e = .returned (.int .i64 5) ∧ w = w' := by
  obtain ⟨A, cap, rfl⟩ := h.form
  have c0 := h.cell0
  have hl' : (2000 : Int) ≤ (L.length : Int) := by omega
  clear h
  go_enter Tryz.func27, Tryz.ntmps27
  go_wp2_with fail
  go_ret
  exact ⟨rfl, rfl⟩
set_option maxRecDepth 100000 in
set_option maxHeartbeats 2000000 in

theorem nput_room {B b : Nat} {w : World} {v : Value} {L : List MsgV} {s t : Int} (h : NetAt B w b v L s t) (hl : L.length < 2000) {M : MsgV} (hM : Goes M) :
    Calls Tryz.prog 27 #[.pointer (some ⟨b, 0, none⟩), .string ⟨(ptext M).toArray⟩] w fun e w' => e = .returned (.int .i64 0) ∧ ∃ v', NetAt B w' b v' (L ++ [M]) s t ∧ NKept w w' b v.ownBlock ∧ RNew w v v' := by
  obtain ⟨i0, hi0, hz0, hz1, hz2⟩ := strs_info
  obtain ⟨A, cap, rfl⟩ := h.form
  have c0 := h.cell0
  have hown := h.2.2.1
  have hbl := h.lt
  have hap := h.apart
  have hBw : B ≤ w.heap.size := by have := h.1; omega
  have hl' : ¬ (2000 : Int) ≤ (L.length : Int) := by omega
  have hbk := h.2.1
  have HB := Lib.hid h.1
  have HG := Lib.hid h.2.2.2
  have HM := Lib.hid hM
  generalize hp : ptext M = p at *
  have HP := Lib.hid hp
  clear h hM hp
  go_enter Tryz.func27, Tryz.ntmps27
  go_wp2_with (at_builtin; refine wpList_append_lies _ rfl (.tmp 15) (.tmp 17) 67 rfl B 9 i0 _ 1 16 Tryz.underlying67 hi0 hz0 hz1 hz2 rfl (by omega) _ _ _ rfl (hown.alloc _) ⟨w.heap.size, 0, none⟩ 1 1 [.string ⟨p.toArray⟩] rfl rfl ?c1 ?c2 (by omega) ?c3 ?c4 ?c5 (w.heap.size + 1) (by simp) ?_)
  case c2 => simp [Value.oneCell']
  case c3 => unfold maxLen; omega
  case c4 => omega
  case c5 => first | omega | (simp; omega)
  intro g' cap' w' hown' hg' hat' hlt'
  have hk := NKept.trans (NKept.of_below (b := b) (r := (Value.slice A L.length cap).ownBlock) ((Below.refl w.heap.size w).alloc (Nat.le_refl _) (.cells #[.string ⟨p.toArray⟩] 9))) (NKept.of_grown hg')
  have hbk' : w'.heap[b]? = some (.cells #[.slice A L.length cap, .int .i64 s, .int .i64 t] 76 (0, 0)) := (hg'.block b (by simp; omega) hap).trans ((heap_alloc_old _ _ hbl).trans hbk)
  have c0' := cell_of_row _ _ 0 _ _ _ hbk'
  have hf : w'.frozen? ⟨b, 0, none⟩ = false := by simp [World.frozen?, hbk']
  have hL2 : strsCells ((L ++ [M]).map ptext) = strsCells (L.map ptext) ++ [.string ⟨p.toArray⟩] := by rw [List.map_append, List.map_cons, List.map_nil, strsCells_snoc, HP.out]
  have hN := Lib.hid (NetAt.put0 (L' := L ++ [M]) HB.out hbk' (by rw [hL2, List.length_append]; exact hown') (by
    intro K hK
    rcases List.mem_append.1 hK with hK | hK
    · exact HG.out K hK
    · rw [List.mem_singleton.1 hK]; exact HM.out))
  have hK := Lib.hid (hk.trans (NKept.of_grownB (grown_setCell w' b 0 (.slice (some ⟨g', 0, none⟩) (L.length + 1) cap'))))
  have hR : Hid (RNew w (.slice A L.length cap) (.slice (some ⟨g', 0, none⟩) (L.length + 1) cap')) := Lib.hid (by
    intro j hj
    simp only [Value.ownBlock, Option.some.injEq] at hj
    subst hj
    rcases hat' with h1 | h1
    · exact .inl h1
    · exact .inr (by omega))
  clear hk hbk hg' hat' hown hown' hbk' hL2
  go_wp2_with fail
  go_ret
  exact ⟨rfl, _, hN.out, hK.out, hR.out⟩
end Go.Proofs.YtnaabaahfjklhaaGreat
