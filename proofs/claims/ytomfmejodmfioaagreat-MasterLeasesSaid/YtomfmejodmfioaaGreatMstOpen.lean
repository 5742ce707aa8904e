/- What comes in to the master's laws: setups, scripts, messages. -/
import Derived.Test.YtomfmejodmfioaaGreatMstAwake
import Derived.Test.YtomfmejodmfioaaGreatMstRMay
import Derived.Test.YtomfmejodmfioaaGreatMstStep
import Derived.Test.YtomfmejodmfioaaGreatCfgOpen
namespace Go.Proofs.YtomfmejodmfioaaGreat
open Go.RowKit Go.ChangeShapes Go.WideShapes Go.Joins Go.Deep
set_option linter.unusedVariables false

def SetOk (s : SetV) : Prop := W64 s.nodes ∧ W64 s.clients ∧ W64 s.timers ∧ W64 s.lease ∧ W64 s.suspect ∧ W64 s.skew ∧ W64 s.base
set_option maxRecDepth 100000 in
theorem open_setup {H : Type} {enc : TypeId × Value → H} {W : World} {base : Nat} {v : Value} {d : DataW H} {p : List MemPlace} (hv : Value.okWide Tryz.prog W .any base 23 v)
    (h : DataW.Trod enc Tryz.prog W 0 (fun _ => true) true 23 v d p) : ∃ s : SetV, SetOk s ∧ v = .agg (setC7 s).toArray := by
  obtain ⟨cs, rfl, hsz⟩ := okWide_struct Tryz.underlying23 hv
  obtain ⟨fuel, hf⟩ := h
  obtain ⟨ys, n', hcs, _, _, hyl, hg⟩ := DataW.trod_struct Tryz.underlying23 (cs := cs.toList) hf
  have hl : cs.toList.length = 7 := by rw [Array.length_toList]; exact hsz.trans (by kernel_rfl)
  obtain ⟨l⟩ := cs
  simp only at hl hg ⊢
  match l, hl with
  | [c0, c1, c2, c3, c4, c5, c6], _ =>
    have k1 : Tryz.prog.cellsOf 3 = 1 := by kernel_rfl
    have g0 := hg 0 _ rfl
    have g1 := hg 1 _ rfl
    have g2 := hg 2 _ rfl
    have g3 := hg 3 _ rfl
    have g4 := hg 4 _ rfl
    have g5 := hg 5 _ rfl
    have g6 := hg 6 _ rfl
    simp [k1] at g0 g1 g2 g3 g4 g5 g6
    rw [List.getElem?_eq_getElem (by rw [hyl]; decide)] at g0 g1 g2 g3 g4 g5 g6
    obtain ⟨z0, rfl, w0⟩ := trod_one_int g0
    obtain ⟨z1, rfl, w1⟩ := trod_one_int g1
    obtain ⟨z2, rfl, w2⟩ := trod_one_int g2
    obtain ⟨z3, rfl, w3⟩ := trod_one_int g3
    obtain ⟨z4, rfl, w4⟩ := trod_one_int g4
    obtain ⟨z5, rfl, w5⟩ := trod_one_int g5
    obtain ⟨z6, rfl, w6⟩ := trod_one_int g6
    exact ⟨⟨z0, z1, z2, z3, z4, z5, z6⟩, ⟨w0, w1, w2, w3, w4, w5, w6⟩, rfl⟩
set_option maxRecDepth 100000 in
/-- A message, not looked at: 28 cells. -/
theorem open_msg28 {W : World} {base : Nat} {v : Value} (hv : Value.okWide Tryz.prog W .any base 58 v) : ∃ ms : List Value, v = .agg ms.toArray ∧ ms.length = 28 := by
  obtain ⟨cs, rfl, hsz⟩ := okWide_struct Tryz.underlying58 hv
  exact ⟨cs.toList, rfl, by rw [Array.length_toList]; exact hsz.trans (by kernel_rfl)⟩
/-- A load of a whole struct behind a guard that holds. -/
theorem mload_want {P : Program} {ops : Array Oper} {rest : List Oper} {op : Oper} {a : Act} {w : World} {Q : Exit → Act → World → Prop} (hw : Region.wanted op (yielded ops a.tmps) = true) (ty : TypeId) (x : Operand) (ho : op.op = .load ty x)
    (b o : Nat) (hx : a.eval x = .pointer (some ⟨b, o, none⟩)) (cs : List Value) (d : TypeDesc) (hc : w.rangeAt b o cs)
    (hu : P.underlying ty = some d) (hd : d.isRow = true) (hi : (P.info? ty).map (·.size) = some cs.length)
    (h : wpList P ops Q rest (a.put op.dst (.agg cs.toArray)) w) : wpList P ops Q (op :: rest) a w := by
  rw [wpList, if_pos hw]
  exact .inl (wp_load_mid ty x ho b o hx cs d hc hu hd hi h)

/-! ### scripts -/
def MopOk (o : MopV) : Prop := W64 o.kind ∧ W64 o.d ∧ W64 o.e ∧ W64 o.keep ∧ W64 o.node ∧ W64 o.life
def mopC (o : MopV) : List Value := [.int .i64 o.kind, .int .i64 o.d, .int .i64 o.e, .int .i64 o.keep, .int .i64 o.node, .int .i64 o.life, .bool o.flag]
def MopAt (w : World) (b off : Nat) (o : MopV) : Prop := ∀ j u, (mopC o)[j]? = some u → w.cell? ⟨b, off + j, none⟩ = some u
def MopsAt (w : World) (a : Option Addr) (S : List MopV) : Prop :=
  S.length ≤ maxLen ∧ (∀ o ∈ S, MopOk o) ∧ (0 < S.length → ∃ b off, a = some ⟨b, off, none⟩ ∧ b < w.heap.size ∧ ∀ i o, S[i]? = some o → MopAt w b (off + i * 7) o)
theorem MopAt.of {w w' : World} {b off : Nat} {o : MopV} (h : MopAt w b off o) (he : ∀ j, w'.cell? ⟨b, j, none⟩ = w.cell? ⟨b, j, none⟩) : MopAt w' b off o := fun j u hj => (he _).trans (h j u hj)
set_option maxRecDepth 100000 in
theorem mop_of_trod {H : Type} {enc : TypeId × Value → H} {W : World} {base : Nat} {sp : Nat → Bool} {hd : Bool} {n : Nat} {cs : List Value} {x : DataW H × List MemPlace} (hl : cs.length = 7)
    (hf : DataW.trod enc Tryz.prog W base sp hd n 44 cs = some x) : ∃ o : MopV, MopOk o ∧ cs = mopC o := by
  obtain ⟨ys, n', rfl, _, _, hyl, hg⟩ := DataW.trod_struct Tryz.underlying44 hf
  match cs, hl with
  | [c0, c1, c2, c3, c4, c5, c6], _ =>
    have k1 : Tryz.prog.cellsOf 3 = 1 := by kernel_rfl
    have k2 : Tryz.prog.cellsOf 42 = 2 := by kernel_rfl
    have k3 : Tryz.prog.cellsOf 4 = 1 := by kernel_rfl
    have g0 := hg 0 _ rfl
    have g1 := hg 1 _ rfl
    have g2 := hg 2 _ rfl
    have g3 := hg 3 _ rfl
    have g4 := hg 4 _ rfl
    have g5 := hg 5 _ rfl
    simp [k1, k2, k3] at g0 g1 g2 g3 g4 g5
    rw [List.getElem?_eq_getElem (by rw [hyl]; decide)] at g0 g1 g2 g3 g4 g5
    obtain ⟨z0, rfl, w0⟩ := trod_one_int g0
    obtain ⟨z1, rfl, w1⟩ := trod_one_int g1
    obtain ⟨z2, rfl, w2⟩ := trod_one_int g2
    obtain ⟨z3, rfl, w3⟩ := trod_one_int g3
    obtain ⟨nd, lf, wn, wl, hm⟩ := mem_of_trod (by rfl) g4
    obtain ⟨rfl, rfl⟩ : c4 = .int .i64 nd ∧ c5 = .int .i64 lf := by simpa using hm
    obtain ⟨q, rfl⟩ := trod_one_bool g5
    exact ⟨⟨z0, z1, z2, z3, nd, lf, q⟩, ⟨w0, w1, w2, w3, wn, wl⟩, rfl⟩
set_option maxRecDepth 100000 in
theorem open_mops {H : Type} {enc : TypeId × Value → H} {W : World} {base : Nat} {v : Value} {d : DataW H} {p : List MemPlace} (hv : Value.okWide Tryz.prog W .any base 24 v)
    (h : DataW.Trod enc Tryz.prog W 0 (fun _ => true) true 24 v d p) : ∃ a S cap, v = .slice a (S : List MopV).length cap ∧ MopsAt W a S := by
  obtain ⟨a0, len0, cap0, rfl⟩ := okWide_slice Tryz.underlying24 hv
  obtain ⟨fuel, hf⟩ := h
  rcases open_slice Tryz.underlying24 hf with ⟨hcs, _⟩ | ⟨a, len, cap, m, n, D, Pl, hcs, _, hl, hm, hmm, _, hi⟩
  · simp [Value.cells] at hcs
    obtain ⟨rfl, rfl, rfl⟩ := hcs
    exact ⟨none, [], 0, rfl, Nat.zero_le _, by simp, by simp⟩
  · simp [Value.cells] at hcs
    obtain ⟨rfl, rfl, rfl⟩ := hcs
    have hmc : m = cap0 := by simpa using hmm
    subst hmc
    have hC : Tryz.prog.cellsOf 44 = 7 := by kernel_rfl
    have key : ∀ i, i < len0 → ∃ o : MopV, MopOk o ∧ ∀ j u, (mopC o)[j]? = some u → W.cell? ((a.add (i * 7)).add j) = some u := by
      intro i hil
      obtain ⟨cs', hc, ht⟩ := hi i (by omega)
      rw [hC] at hc
      obtain ⟨_, hlen, hcell⟩ := World.cells?_some hc
      obtain ⟨o, ho, rfl⟩ := mop_of_trod hlen ht
      refine ⟨o, ho, fun j u hj => ?_⟩
      have hjl := (List.getElem?_eq_some_iff.1 hj).1
      rw [hlen] at hjl
      rw [hcell j hjl, hj]
    obtain ⟨L, hLl, hL⟩ := choose_list len0 (fun i (o : MopV) => MopOk o ∧ ∀ j u, (mopC o)[j]? = some u → W.cell? ((a.add (i * 7)).add j) = some u) key
    subst hLl
    refine ⟨some a, L, m, rfl, by omega, fun s hs => ?_, fun hpos => ?_⟩
    · obtain ⟨i, hi⟩ := List.getElem?_of_mem hs
      exact (hL i s hi).1
    · obtain ⟨b, off, spot⟩ := a
      obtain ⟨o0, _, h0⟩ := key 0 hpos
      have h0 := h0 0 _ rfl
      have hspot : spot = none := by simpa [Addr.add] using World.cell?_spot h0
      subst hspot
      refine ⟨b, off, rfl, by have := World.block_lt_of_cell? _ _ h0; simpa [Addr.add] using this, fun i s hi j u hj => ?_⟩
      have h := (hL i s hi).2 j u hj
      rw [addr_add, addr_add] at h
      exact h
end Go.Proofs.YtomfmejodmfioaaGreat
