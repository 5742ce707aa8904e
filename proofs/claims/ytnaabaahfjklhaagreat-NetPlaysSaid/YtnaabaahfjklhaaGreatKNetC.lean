/- Rows of messages: that came in, of the call's own. Scripts of a network that came in; whether one is long; a row appended to a row. -/
import Derived.Test.YtnaabaahfjklhaaGreatKNetB
import Derived.Test.YtnaabaahfjklhaaGreatKWireO
import Derived.Deep.Slices
import Derived.Deep.AppendSrc
import Derived.Deep.Upon
namespace Go.Proofs.YtnaabaahfjklhaaGreat
open Go.RowKit Go.ChangeShapes Go.WideShapes Go.Joins Go.Deep
set_option linter.unusedVariables false

/-- A message's cells, what they lead to in w. -/
def CellsOf (w : World) (cs : List Value) (M : MsgV) : Prop := cs.length = 28 ∧ cs.toArray.all (·.oneCell') = true ∧ M.At w (.agg cs.toArray)
theorem CellsOf.below {w w' : World} {cs : List Value} {M : MsgV} (h : CellsOf w cs M) (hb : Below w.heap.size w w') : CellsOf w' cs M := ⟨h.1, h.2.1, h.2.2.below hb⟩
/-- A slice of messages that came in. -/
def MsgsAt (w : World) (a : Option Addr) (Ms : List MsgV) : Prop :=
  Ms.length ≤ maxLen ∧ (∀ M ∈ Ms, MOk M) ∧ (0 < Ms.length → ∃ b off, a = some ⟨b, off, none⟩ ∧ b < w.heap.size ∧ ∀ i M, Ms[i]? = some M → ∃ cs, CellsOf w cs M ∧ ∀ j u, cs[j]? = some u → w.cell? ⟨b, off + i * 28 + j, none⟩ = some u)
set_option maxRecDepth 100000 in
theorem open_msgs {H : Type} {enc : TypeId × Value → H} {W : World} {base : Nat} {v : Value} {d : DataW H} {p : List MemPlace} (hv : Value.okWide Tryz.prog W .any base 27 v)
    (h : DataW.Trod enc Tryz.prog W 0 (fun _ => true) true 27 v d p) : ∃ a Ms cap, v = .slice a (Ms : List MsgV).length cap ∧ MsgsAt W a Ms := by
  obtain ⟨a0, len0, cap0, rfl⟩ := okWide_slice Tryz.underlying27 hv
  obtain ⟨fuel, hf⟩ := h
  rcases open_slice Tryz.underlying27 hf with ⟨hcs, _⟩ | ⟨a, len, cap, m, n, D, Pl, hcs, _, hl, hm, hmm, _, hi⟩
  · simp [Value.cells] at hcs
    obtain ⟨rfl, rfl, rfl⟩ := hcs
    exact ⟨none, [], 0, rfl, Nat.zero_le _, by simp, by simp⟩
  · simp [Value.cells] at hcs
    obtain ⟨rfl, rfl, rfl⟩ := hcs
    have hmc : m = cap0 := by simpa using hmm
    subst hmc
    have hC : Tryz.prog.cellsOf 40 = 28 := by kernel_rfl
    have key : ∀ i, i < len0 → ∃ o : MsgV, MOk o ∧ ∃ cs, CellsOf W cs o ∧ ∀ j u, cs[j]? = some u → W.cell? ((a.add (i * 28)).add j) = some u := by
      intro i hil
      obtain ⟨cs', hc, ht⟩ := hi i (by omega)
      rw [hC] at hc
      obtain ⟨_, hlen, hcell⟩ := World.cells?_some hc
      obtain ⟨M, v1, v2, hok, h1, h2, rfl⟩ := msg_of_trod hlen ht
      refine ⟨M, hok, _, ⟨hlen, ?_, v1, v2, rfl, h1, h2⟩, fun j u hj => ?_⟩
      · rw [Array.all_eq_true_iff_forall_mem]
        intro x hx
        exact msgCells_one (chain_one h1) (fires_one h2) x (by simpa using hx)
      · have hjl := (List.getElem?_eq_some_iff.1 hj).1
        rw [hlen] at hjl
        rw [hcell j hjl, hj]
    obtain ⟨L, hLl, hL⟩ := choose_list len0 (fun i (o : MsgV) => MOk o ∧ ∃ cs, CellsOf W cs o ∧ ∀ j u, cs[j]? = some u → W.cell? ((a.add (i * 28)).add j) = some u) key
    subst hLl
    refine ⟨some a, L, m, rfl, by omega, fun s hs => ?_, fun hpos => ?_⟩
    · obtain ⟨i, hi⟩ := List.getElem?_of_mem hs
      exact (hL i s hi).1
    · obtain ⟨b, off, spot⟩ := a
      obtain ⟨o0, _, cs0, hc0, h0⟩ := key 0 hpos
      have h0l : 0 < cs0.length := by rw [hc0.1]; decide
      have h0 := h0 0 cs0[0] (List.getElem?_eq_getElem h0l)
      have hspot : spot = none := by simpa [Addr.add] using World.cell?_spot h0
      subst hspot
      refine ⟨b, off, rfl, by have := World.block_lt_of_cell? _ _ h0; simpa [Addr.add] using this, fun i s hi => ?_⟩
      obtain ⟨_, cs, hc, h⟩ := hL i s hi
      refine ⟨cs, hc, fun j u hj => ?_⟩
      have h2 := h j u hj
      rw [addr_add, addr_add] at h2
      exact h2
theorem msg_full : (Tryz.prog.info? 40).map (fun i => (i.zero, i.size, i.bytes)) = some (some (.agg (msgCells msgZero (.slice none 0 0) (.slice none 0 0)).toArray), 28, 264) := by kernel_rfl
/-- A row of the call's own (from block B on) that holds the messages Ms; what they lead to in w0. -/
def MsgsO (B : Nat) (w0 w : World) (v : Value) (Ms : List MsgV) : Prop :=
  ∃ css : List (List Value), css.length = Ms.length ∧ w.ownsRow B 40 28 v Ms.length css.flatten ∧ ∀ (i : Nat) (M : MsgV) (cs : List Value), Ms[i]? = some M → css[i]? = some cs → CellsOf w0 cs M
theorem MsgsO.nil (B : Nat) (w0 w : World) : MsgsO B w0 w (.slice none 0 0) [] := ⟨[], rfl, World.ownsRow_nil _ _ _ _, by simp⟩
theorem MsgsO.below {B : Nat} {w0 w w' : World} {v : Value} {Ms : List MsgV} (h : MsgsO B w0 w v Ms) (hb : Below w.heap.size w w') : MsgsO B w0 w' v Ms := by
  obtain ⟨css, h1, h2, h3⟩ := h
  exact ⟨css, h1, own_below' h2 hb, h3⟩
/-- Where a network changes, a row of messages stays as it was. -/
theorem own_nkept {B b : Nat} {w w' : World} {e : TypeId} {size : Nat} {v : Value} {n : Nat} {xs : List Value} {r : Option Nat} (h : w.ownsRow B e size v n xs) (hk : NKept w w' b r) (hb : some b ≠ v.ownBlock) (hr : v.ownBlock = none ∨ v.ownBlock ≠ r) : w'.ownsRow B e size v n xs := by
  obtain ⟨h1, h2⟩ := h
  refine ⟨h1, ?_⟩
  rcases h2 with h2 | ⟨g, cap, cur, rfl, hg, hh, hrest⟩
  · exact .inl h2
  · refine .inr ⟨g, cap, cur, rfl, hg, ?_, hrest⟩
    rw [hk.block g (Array.getElem?_eq_some_iff.1 hh).1 (fun e => hb (by rw [e]; rfl)) (fun e => by
      rcases hr with h3 | h3
      · simp [Value.ownBlock] at h3
      · exact h3 (by rw [← e]; rfl)), hh]
theorem MsgsO.nkept {B b : Nat} {w0 w w' : World} {v : Value} {Ms : List MsgV} {r : Option Nat} (h : MsgsO B w0 w v Ms) (hk : NKept w w' b r) (hb : some b ≠ v.ownBlock) (hr : v.ownBlock = none ∨ v.ownBlock ≠ r) : MsgsO B w0 w' v Ms := by
  obtain ⟨css, h1, h2, h3⟩ := h
  exact ⟨css, h1, own_nkept h2 hk hb hr, h3⟩
theorem own_two {B B' : Nat} {w : World} {e e' : TypeId} {s s' : Nat} {v v' : Value} {n n' : Nat} {xs xs' : List Value} (h : w.ownsRow B e s v n xs) (h' : w.ownsRow B' e' s' v' n' xs') (hne : e ≠ e') : v.ownBlock = none ∨ v.ownBlock ≠ v'.ownBlock := by
  rcases h.2 with ⟨rfl, _⟩ | ⟨g, cap, cur, rfl, _, hg, _⟩
  · exact .inl rfl
  · right
    intro he
    rcases h'.2 with ⟨rfl, _⟩ | ⟨g', cap', cur', rfl, _, hg', _⟩
    · simp [Value.ownBlock] at he
    · simp only [Value.ownBlock, Option.some.injEq] at he
      subst he
      rw [hg] at hg'
      simp only [Option.some.injEq, Obj.cells.injEq] at hg'
      exact hne hg'.2.1
theorem MsgsO.form {B : Nat} {w0 w : World} {v : Value} {Ms : List MsgV} (h : MsgsO B w0 w v Ms) : ∃ A cap, v = .slice A Ms.length cap := by
  obtain ⟨css, h1, h2, h3⟩ := h
  exact own_formN h2
theorem flat_at {css : List (List Value)} (h : ∀ cs ∈ css, cs.length = 28) {i : Nat} {cs : List Value} (hi : css[i]? = some cs) {j : Nat} (hj : j < 28) : css.flatten[i * 28 + j]? = cs[j]? := by
  induction css generalizing i with
  | nil => simp at hi
  | cons c css ih =>
    have hc := h c (by simp)
    cases i with
    | zero =>
      obtain rfl : c = cs := by simpa using hi
      rw [List.flatten_cons, List.getElem?_append_left (by omega), Nat.zero_mul, Nat.zero_add]
    | succ i =>
      have h2 := ih (fun x hx => h x (by simp [hx])) (by simpa using hi)
      rw [List.flatten_cons, List.getElem?_append_right (by omega), hc, ← h2]
      congr 1
      omega
/-- A message of a row of the call's own. -/
theorem MsgsO.at {B : Nat} {w0 w : World} {A : Option Addr} {cap : Nat} {Ms : List MsgV} (h : MsgsO B w0 w (.slice A Ms.length cap) Ms) {i : Nat} {M : MsgV} (hi : Ms[i]? = some M) : ∃ g cs, A = some ⟨g, 0, none⟩ ∧ CellsOf w0 cs M ∧ ∀ j u, cs[j]? = some u → w.cell? ⟨g, i * 28 + j, none⟩ = some u := by
  obtain ⟨css, h1, h2, h3⟩ := h
  have hil := (List.getElem?_eq_some_iff.1 hi).1
  obtain ⟨cs, hcs⟩ : ∃ cs, css[i]? = some cs := ⟨_, List.getElem?_eq_getElem (by omega)⟩
  have hC := h3 i M cs hi hcs
  have hall : ∀ c ∈ css, c.length = 28 := fun c hc => by
    obtain ⟨k, hk⟩ := List.getElem?_of_mem hc
    have hkl := (List.getElem?_eq_some_iff.1 hk).1
    exact (h3 k _ c (List.getElem?_eq_getElem (by omega)) hk).1
  rcases h2.2 with ⟨hv, h0⟩ | ⟨g, cap', cur, hv, hg, hr, hrest⟩
  · omega
  · simp only [Value.slice.injEq] at hv
    obtain ⟨rfl, _, rfl⟩ := hv
    refine ⟨g, cs, rfl, hC, fun j u hj => ?_⟩
    have hj28 : j < 28 := by have := (List.getElem?_eq_some_iff.1 hj).1; rw [hC.1] at this; exact this
    rw [World.ownsRow.cellAt h2 (i * 28 + j) (by omega), flat_at hall hcs hj28, hj]
theorem MsgsO.snoc {B : Nat} {w0 w' : World} {v' : Value} {Ms : List MsgV} {M : MsgV} {cs : List Value} {css : List (List Value)} (h1 : css.length = Ms.length) (h3 : ∀ (i : Nat) (M : MsgV) (cs : List Value), Ms[i]? = some M → css[i]? = some cs → CellsOf w0 cs M)
    (h2 : w'.ownsRow B 40 28 v' (Ms.length + 1) (css.flatten ++ cs)) (hc : CellsOf w0 cs M) : MsgsO B w0 w' v' (Ms ++ [M]) := by
  refine ⟨css ++ [cs], by simp [h1], by rw [List.length_append]; simpa using h2, fun i K ds hi hd => ?_⟩
  rcases Nat.lt_or_ge i Ms.length with h | h
  · rw [List.getElem?_append_left h] at hi
    rw [List.getElem?_append_left (by omega)] at hd
    exact h3 i K ds hi hd
  · rw [List.getElem?_append_right h] at hi
    rw [List.getElem?_append_right (by omega)] at hd
    rw [h1] at hd
    have h0 : i - Ms.length = 0 := by have := (List.getElem?_eq_some_iff.1 hi).1; simp at this; omega
    rw [h0] at hi hd
    simp at hi hd
    subst hi hd
    exact hc
end Go.Proofs.YtnaabaahfjklhaaGreat
namespace Go.Proofs.YtnaabaahfjklhaaGreat
open Go.RowKit Go.ChangeShapes Go.WideShapes Go.Joins Go.Deep
set_option linter.unusedVariables false

/-- A call: its kind, a number, a message. -/
structure NOpV where
  kind : Int
  n : Int
  m : MsgV
structure NOpOk (o : NOpV) : Prop where
  kind : W64 o.kind
  n : W64 o.n
  m : MOk o.m
def nopCells (o : NOpV) (cs : List Value) : List Value := .int .i64 o.kind :: .int .i64 o.n :: cs
def NOpsAt (w : World) (a : Option Addr) (S : List NOpV) : Prop :=
  S.length ≤ maxLen ∧ (∀ o ∈ S, NOpOk o) ∧ (0 < S.length → ∃ b off, a = some ⟨b, off, none⟩ ∧ b < w.heap.size ∧ ∀ (i : Nat) (o : NOpV), S[i]? = some o → ∃ cs, CellsOf w cs o.m ∧ ∀ j u, (nopCells o cs)[j]? = some u → w.cell? ⟨b, off + i * 30 + j, none⟩ = some u)
set_option maxRecDepth 100000 in
theorem nop_of_trod {H : Type} {enc : TypeId × Value → H} {W : World} {base : Nat} {sp : Nat → Bool} {hd : Bool} {n : Nat} {cs : List Value} {x : DataW H × List MemPlace} (hl : cs.length = 30)
    (hf : DataW.trod enc Tryz.prog W base sp hd n 42 cs = some x) : ∃ (o : NOpV) (ds : List Value), NOpOk o ∧ CellsOf W ds o.m ∧ cs = nopCells o ds := by
  obtain ⟨ys, n', rfl, _, _, hyl, hg⟩ := DataW.trod_struct Tryz.underlying42 hf
  match cs, hl with
  | c0 :: c1 :: ds, hl =>
    have hdl : ds.length = 28 := by simpa using hl
    have k1 : Tryz.prog.cellsOf 3 = 1 := by kernel_rfl
    have k2 : Tryz.prog.cellsOf 40 = 28 := by kernel_rfl
    have g0 := hg 0 _ rfl
    have g1 := hg 1 _ rfl
    have g2 := hg 2 _ rfl
    clear hg hf
    simp [k1, k2, List.take_of_length_le (Nat.le_of_eq hdl)] at g0 g1 g2
    rw [List.getElem?_eq_getElem (by rw [hyl]; decide)] at g0 g1 g2
    obtain ⟨z0, rfl, w0⟩ := trod_one_int g0
    obtain ⟨z1, rfl, w1⟩ := trod_one_int g1
    obtain ⟨M, v1, v2, hok, h1, h2, rfl⟩ := msg_of_trod hdl g2
    refine ⟨⟨z0, z1, M⟩, _, ⟨w0, w1, hok⟩, ⟨hdl, ?_, v1, v2, rfl, h1, h2⟩, rfl⟩
    rw [Array.all_eq_true_iff_forall_mem]
    intro x hx
    exact msgCells_one (chain_one h1) (fires_one h2) x (by simpa using hx)
set_option maxRecDepth 100000 in
theorem open_nops {H : Type} {enc : TypeId × Value → H} {W : World} {base : Nat} {v : Value} {d : DataW H} {p : List MemPlace} (hv : Value.okWide Tryz.prog W .any base 22 v)
    (h : DataW.Trod enc Tryz.prog W 0 (fun _ => true) true 22 v d p) : ∃ a S cap, v = .slice a (S : List NOpV).length cap ∧ NOpsAt W a S := by
  obtain ⟨a0, len0, cap0, rfl⟩ := okWide_slice Tryz.underlying22 hv
  obtain ⟨fuel, hf⟩ := h
  rcases open_slice Tryz.underlying22 hf with ⟨hcs, _⟩ | ⟨a, len, cap, m, n, D, Pl, hcs, _, hl, hm, hmm, _, hi⟩
  · simp [Value.cells] at hcs
    obtain ⟨rfl, rfl, rfl⟩ := hcs
    exact ⟨none, [], 0, rfl, Nat.zero_le _, by simp, by simp⟩
  · simp [Value.cells] at hcs
    obtain ⟨rfl, rfl, rfl⟩ := hcs
    have hmc : m = cap0 := by simpa using hmm
    subst hmc
    have hC : Tryz.prog.cellsOf 42 = 30 := by kernel_rfl
    have key : ∀ i, i < len0 → ∃ o : NOpV, NOpOk o ∧ ∃ cs, CellsOf W cs o.m ∧ ∀ j u, (nopCells o cs)[j]? = some u → W.cell? ((a.add (i * 30)).add j) = some u := by
      intro i hil
      obtain ⟨cs', hc, ht⟩ := hi i (by omega)
      rw [hC] at hc
      obtain ⟨_, hlen, hcell⟩ := World.cells?_some hc
      obtain ⟨o, ds, hok, hD, rfl⟩ := nop_of_trod hlen ht
      refine ⟨o, hok, ds, hD, fun j u hj => ?_⟩
      have hjl := (List.getElem?_eq_some_iff.1 hj).1
      rw [hlen] at hjl
      rw [hcell j hjl, hj]
    obtain ⟨L, hLl, hL⟩ := choose_list len0 (fun i (o : NOpV) => NOpOk o ∧ ∃ cs, CellsOf W cs o.m ∧ ∀ j u, (nopCells o cs)[j]? = some u → W.cell? ((a.add (i * 30)).add j) = some u) key
    subst hLl
    refine ⟨some a, L, m, rfl, by omega, fun s hs => ?_, fun hpos => ?_⟩
    · obtain ⟨i, hi⟩ := List.getElem?_of_mem hs
      exact (hL i s hi).1
    · obtain ⟨b, off, spot⟩ := a
      obtain ⟨o0, _, cs0, hc0, h0⟩ := key 0 hpos
      have h0 := h0 0 _ rfl
      have hspot : spot = none := by simpa [Addr.add] using World.cell?_spot h0
      subst hspot
      refine ⟨b, off, rfl, by have := World.block_lt_of_cell? _ _ h0; simpa [Addr.add] using this, fun i s hi => ?_⟩
      obtain ⟨_, cs, hc, h⟩ := hL i s hi
      refine ⟨cs, hc, fun j u hj => ?_⟩
      have h2 := h j u hj
      rw [addr_add, addr_add] at h2
      exact h2
theorem nop_info : (Tryz.prog.info? 42).map (·.size) = some 30 := by kernel_rfl

/-- Whether a script is long. -/
def NLong (S : List NOpV) (w : World) (e : Ending) (w' : World) : Prop := ∃ q, e = .returned (.bool q) ∧ Below w.heap.size w w' ∧ (q = false → S.length ≤ 300 ∧ ∀ o ∈ S, fewM o.m = true)
set_option maxRecDepth 100000 in
set_option maxHeartbeats 4000000 in

theorem nlong_any {w : World} {a : Option Addr} {cap : Nat} {S : List NOpV} (hS : NOpsAt w a S) :
    Calls Tryz.prog 10 #[.slice a S.length cap] w fun e w' => NLong S w e w' := by
  have hlen := hS.1
  unfold maxLen at hlen
  have HS := Lib.hid hS
  clear hS
  go_enter Tryz.func10, Tryz.ntmps10
  go_wp2_with fail
  go_loopw [7] (fun i wr => ∃ k : Nat, k ≤ S.length ∧ i = .int .i64 k ∧ Below w.heap.size w wr ∧ Aside (∀ j o, j < k → S[j]? = some o → fewM o.m = true)) (fun i _ => S.length - (intOf i).toNat)
  case atStart => exact ⟨0, Nat.zero_le _, rfl, Below.refl _ _, fun j o hj => by omega⟩
  case round =>
    obtain ⟨k, hk, rfl, hb, HA⟩ := hrel
    by_cases hlt : k < S.length
    · have hlt' : (k : Int) < (S.length : Int) := by omega
      obtain ⟨b, off, rfl, hab, hc⟩ := HS.out.2.2 (by omega)
      obtain ⟨o, ho⟩ : ∃ o, S[k]? = some o := ⟨_, List.getElem?_eq_getElem hlt⟩
      obtain ⟨cs, hC, hcell⟩ := hc k o ho
      have hok := HS.out.2.1 o (List.mem_of_getElem? ho)
      have hcl := hC.1
      obtain ⟨ds, hds⟩ : ∃ ds, ds = nopCells o cs := ⟨_, rfl⟩
      have hdl : ds.length = 30 := by rw [hds]; simp [nopCells, hcl]
      have hdone : ds.toArray.all (·.oneCell') = true := by
        have h1 := hC.2.1
        rw [hds]
        simpa [nopCells, Value.oneCell', Array.all_eq_true_iff_forall_mem] using h1
      have hrg : wr.rangeAt b (off + k * 30) ds := fun j u hj => (hb.cell (p := ⟨b, _, none⟩) hab).trans (hcell j u (by rw [← hds]; exact hj))
      have HO := Lib.hid ho
      clear hc hcell ho
      have hX := BlkAt.new wr 42 [.int .i64 0, .int .i64 0, .int .i64 0, .int .i64 0, .int .i64 0, .int .i64 0, .int .i64 0, .int .i64 0, .int .i64 0, .int .i64 0, .int .i64 0, .int .i64 0, .bool false, .int .i64 0, .int .i64 0, .int .i64 0, .int .i64 0, .int .i64 0, .int .i64 0, .int .i64 0, .int .i64 0, .int .i64 0, .string ⟨#[]⟩, .int .i64 0, .int .i64 0, .int .i64 0, .int .i64 0, .slice none 0 0, .slice none 0 0, .int .i64 0]
      have HL1 := Lib.hid (show ds.length = ([.int .i64 0, .int .i64 0, .int .i64 0, .int .i64 0, .int .i64 0, .int .i64 0, .int .i64 0, .int .i64 0, .int .i64 0, .int .i64 0, .int .i64 0, .int .i64 0, .bool false, .int .i64 0, .int .i64 0, .int .i64 0, .int .i64 0, .int .i64 0, .int .i64 0, .int .i64 0, .int .i64 0, .int .i64 0, .string ⟨#[]⟩, .int .i64 0, .int .i64 0, .int .i64 0, .int .i64 0, .slice none 0 0, .slice none 0 0, .int .i64 0] : List Value).length by rw [hdl]; rfl)
      have b4 := (Below.refl wr.heap.size wr).alloc (Nat.le_refl _) (.cells #[.int .i64 0, .int .i64 0, .int .i64 0, .int .i64 0, .int .i64 0, .int .i64 0, .int .i64 0, .int .i64 0, .int .i64 0, .int .i64 0, .int .i64 0, .int .i64 0, .bool false, .int .i64 0, .int .i64 0, .int .i64 0, .int .i64 0, .int .i64 0, .int .i64 0, .int .i64 0, .int .i64 0, .int .i64 0, .string ⟨#[]⟩, .int .i64 0, .int .i64 0, .int .i64 0, .int .i64 0, .slice none 0 0, .slice none 0 0, .int .i64 0] 42)
      have G4 := grown_setCells wr.heap.size ds 0 (wr.alloc (.cells #[.int .i64 0, .int .i64 0, .int .i64 0, .int .i64 0, .int .i64 0, .int .i64 0, .int .i64 0, .int .i64 0, .int .i64 0, .int .i64 0, .int .i64 0, .int .i64 0, .bool false, .int .i64 0, .int .i64 0, .int .i64 0, .int .i64 0, .int .i64 0, .int .i64 0, .int .i64 0, .int .i64 0, .int .i64 0, .string ⟨#[]⟩, .int .i64 0, .int .i64 0, .int .i64 0, .int .i64 0, .slice none 0 0, .slice none 0 0, .int .i64 0] 42))
      have b5 := b4.grown G4 b4.size (by intro j hj; cases hj; exact Nat.le_refl _)
      have hMn := hX.stored (vs := ds) HL1.out
      have HT := Lib.hid (blk_there2 hX HL1.out)
      have hbn := below_step hb b5
      clear hb
      have hb := hbn
      clear hbn
      clear hX b4 G4 b5 HL1
      go_upto_region 4 with (first | (refine wpList_store_mid rfl 42 (.tmp 4) (.tmp 10) rfl wr.heap.size 0 ds.toArray rfl rfl (by exact HT.out) (by rw [List.size_toArray, hdl]; exact nop_info) hdone ?_; rw [List.toList_toArray]) | (refine wpList_load_mid rfl 42 (.tmp 9) rfl b (off + k * 30) rfl ds _ hrg Tryz.underlying42 rfl (by rw [hdl]; exact nop_info) ?_; simp only [Act.put, List.setIfInBounds_toArray, List.set_cons_zero, List.set_cons_succ]))
      change Code.wp _ _ _ _ ((wr.alloc (.cells #[.int .i64 0, .int .i64 0, .int .i64 0, .int .i64 0, .int .i64 0, .int .i64 0, .int .i64 0, .int .i64 0, .int .i64 0, .int .i64 0, .int .i64 0, .int .i64 0, .bool false, .int .i64 0, .int .i64 0, .int .i64 0, .int .i64 0, .int .i64 0, .int .i64 0, .int .i64 0, .int .i64 0, .int .i64 0, .string ⟨#[]⟩, .int .i64 0, .int .i64 0, .int .i64 0, .int .i64 0, .slice none 0 0, .slice none 0 0, .int .i64 0] 42)).setCells wr.heap.size 0 ds)
      generalize (wr.alloc (.cells #[.int .i64 0, .int .i64 0, .int .i64 0, .int .i64 0, .int .i64 0, .int .i64 0, .int .i64 0, .int .i64 0, .int .i64 0, .int .i64 0, .int .i64 0, .int .i64 0, .bool false, .int .i64 0, .int .i64 0, .int .i64 0, .int .i64 0, .int .i64 0, .int .i64 0, .int .i64 0, .int .i64 0, .int .i64 0, .string ⟨#[]⟩, .int .i64 0, .int .i64 0, .int .i64 0, .int .i64 0, .slice none 0 0, .slice none 0 0, .int .i64 0] 42)).setCells wr.heap.size 0 ds = W1 at *
      have hM := hMn
      clear hMn HT
      obtain ⟨m, hLL⟩ : ∃ q, q = wr.heap.size := ⟨_, rfl⟩
      rw [← hLL] at hM ⊢
      have HEm := Lib.hid hLL
      clear hLL
      clear hrg
      have hA : o.m.At W1 (.agg cs.toArray) := hC.2.2.below hb
      have hrm : W1.rangeAt m 2 cs := fun j u hj => hM.cell (i := 2 + j) (by rw [hds, Nat.add_comm]; exact hj)
      cases hf : fewM o.m with
      | true =>
        have HF := Lib.hid hf
        clear hf
        go_wp2_with (refine wpList_load_mid rfl 40 (.tmp 11) rfl m 2 rfl cs _ hrm Tryz.underlying40 rfl (by rw [hcl]; exact msg_info) ?_; simp only [Act.put, List.setIfInBounds_toArray, List.set_cons_zero, List.set_cons_succ])
        refine (qfew_any (by exact hA) hok.m.op HF.out).mono ?_
        rintro en w3 ⟨rfl, b3⟩
        have HB := Lib.hid (below_step hb b3)
        clear hM hrm hA hb b3
        go_wp2_with fail
        go_roundw
        case rel => exact ⟨k + 1, by omega, by go_num, HB.out, fun j p hj hjp => by
          rcases Nat.lt_or_ge j k with h | h
          · exact HA.out j p h hjp
          · obtain rfl : j = k := by omega
            rw [HO.out] at hjp
            obtain rfl := Option.some.inj hjp
            exact HF.out⟩
        case measure => simp [intOf]; omega
      | false =>
        have HF := Lib.hid hf
        clear hf
        go_wp2_with (refine wpList_load_mid rfl 40 (.tmp 11) rfl m 2 rfl cs _ hrm Tryz.underlying40 rfl (by rw [hcl]; exact msg_info) ?_; simp only [Act.put, List.setIfInBounds_toArray, List.set_cons_zero, List.set_cons_succ])
        refine (qfew_any (by exact hA) hok.m.op HF.out).mono ?_
        rintro en w3 ⟨rfl, b3⟩
        have hb3 := below_step hb b3
        clear hM hrm hA hb b3
        go_wp2_with fail
        go_ret
        unfold NLong
        exact ⟨true, rfl, hb3, by simp⟩
    · have hlt' : ¬ (k : Int) < (S.length : Int) := by omega
      by_cases h3 : 300 < S.length
      · have h3' : (300 : Int) < (S.length : Int) := by omega
        go_wp2_with fail
        go_ret
        unfold NLong
        exact ⟨true, rfl, hb, by simp⟩
      · have h3' : ¬ (300 : Int) < (S.length : Int) := by omega
        go_wp2_with fail
        go_ret
        unfold NLong
        exact ⟨false, rfl, hb, fun _ => ⟨by omega, fun o ho => by
          obtain ⟨j, hj⟩ := List.getElem?_of_mem ho
          exact HA.out j o (by have := (List.getElem?_eq_some_iff.1 hj).1; omega) hj⟩⟩

set_option maxRecDepth 100000 in
set_option maxHeartbeats 400000 in

/-- A row of messages appended to a row of the call's own: some, or none. -/
theorem step_append_row {w : World} {ops : Array Oper} {o : Oper} {a : Act} {K : Act → World → Prop} {Q : Exit → Act → World → Prop} {E : Prop} (hgd : o.guard = none) (s x : Operand)
    (ho : o.op = .call { callee := .builtin .append, args := #[s, x], argTypes := #[27, 27] }) {base n cap m c : Nat} {A A2 : Option Addr} {xs news : List Value}
    (hs : a.eval s = .slice A n cap) (hown : w.ownsRow base 40 28 (.slice A n cap) n xs) (hx : a.eval x = .slice A2 m c) (hl : news.length = m * 28) (hnews : 0 < m → ∃ ad, A2 = some ad ∧ ∀ j u, news[j]? = some u → w.cell? (ad.add j) = some u)
    (h1 : ∀ u ∈ news, u.oneCell' = true) (hn : n + m ≤ 100000) (hbase : base ≤ w.heap.size)
    (h : ∀ A' cap' w', w'.ownsRow base 40 28 (.slice A' (n + m) cap') (n + m) (xs ++ news) → w.grownBy w' (Value.slice A n cap).ownBlock → RNew w (.slice A n cap) (.slice A' (n + m) cap') → K (a.put o.dst (.slice A' (n + m) cap')) w') :
    if Region.wanted o (yielded ops a.tmps) = true then Oper.wp Tryz.prog o a w K Q else E := by
  obtain ⟨i0, hi0, hz0, hz1, hz2⟩ := info_parts msg_full
  rcases Nat.eq_zero_or_pos m with h0 | hp
  · subst h0
    have hw : Region.wanted o (yielded ops a.tmps) = true := by simp [Region.wanted, hgd]
    rw [if_pos hw]
    have hnil : news = [] := List.length_eq_zero_iff.1 (by omega)
    subst hnil
    have hcap : n ≤ cap := by
      rcases hown.2 with ⟨hv, h0⟩ | ⟨g, cap', cur, hv, _, _, hn', _⟩
      · simp only [Value.slice.injEq] at hv
        omega
      · simp only [Value.slice.injEq] at hv
        omega
    have hsrc : Src Tryz.prog i0.size 27 (.slice A2 0 c) 0 [] w := by
      rw [hz1]
      cases A2 with
      | none => exact Src.ofNil w Tryz.underlying27 c
      | some ad => exact Src.ofSlice w Tryz.underlying27 ad 0 c [] (by simp) (by intro j u hj; simp at hj) (by simp)
    have hr := run_append_nothing (P := Tryz.prog) w 27 27 o.type 40 i0 Tryz.underlying27 hi0 A n cap hcap (.slice A2 0 c) hsrc
    unfold Oper.wp execOp
    simp only [ho, resolve, invoke, builtin, Sem.run_bind, Sem.run_pure, Result.andThen_ok, List.map_toArray, List.map_cons, List.map_nil, hs, hx, hr]
    have h2 := h A cap w (by rw [Nat.add_zero, List.append_nil]; exact hown) (World.grownBy.refl _ _) (RNew.refl _ _)
    rw [Nat.add_zero] at h2
    exact h2
  · obtain ⟨ad, rfl, hc⟩ := hnews hp
    refine step_append_lies w hgd s x 27 ho base 40 i0 _ 28 264 Tryz.underlying27 hi0 hz0 hz1 hz2 rfl (by omega) _ n xs hs hown ad m c news hx hl hc h1 hp (by unfold maxLen; omega) (by omega) hbase _ rfl ?_
    intro g' cap' w' hown' hg' hat' hlt'
    refine h _ cap' w' hown' hg' ?_
    intro j hj
    simp only [Value.ownBlock, Option.some.injEq] at hj
    subst hj
    rcases hat' with h2 | h2
    · exact .inl h2
    · exact .inr (by omega)
end Go.Proofs.YtnaabaahfjklhaaGreat
