/- Rows of messages: that came in, of the call's own. -/
import Derived.Test.YtnaabaahfjklhaaGreatNetTake
import Derived.Test.YtnaabaahfjklhaaGreatWireOpen
import Derived.Deep.Slices
namespace Go.Proofs.YtnaabaahfjklhaaGreat
open Go.RowKit Go.ChangeShapes Go.WideShapes Go.Joins Go.Deep
set_option linter.unusedVariables false

/-- A message's cells, what they lead to in w. -/
def CellsOf (w : World) (cs : List Value) (M : MsgV) : Prop := cs.length = 28 ∧ cs.toArray.all (·.oneCell') = true ∧ M.At w (.agg cs.toArray)
theorem CellsOf.below {w w' : World} {cs : List Value} {M : MsgV} (h : CellsOf w cs M) (hb : Below w.heap.size w w') : CellsOf w' cs M := ⟨h.1, h.2.1, h.2.2.below hb⟩
/-- A slice of messages that came in. -/
def MsgsAt (w : World) (a : Option Addr) (Ms : List MsgV) : Prop :=
  Ms.length ≤ maxLen ∧ (∀ M ∈ Ms, MOk M) ∧ (0 < Ms.length → ∃ b off, a = some ⟨b, off, none⟩ ∧ b < w.heap.size ∧ ∀ i M, Ms[i]? = some M → ∃ cs, CellsOf w cs M ∧ ∀ j u, cs[j]? = some u → w.cell? ⟨b, off + i * 28 + j, none⟩ = some u)
set_option maxRecDepth 100000 in
theorem open_msgs {H : Type} {enc : TypeId × Value → H} {W : World} {base : Nat} {v : Value} {d : DataW H} {p : List MemPlace} (hv : Value.okWide Tryz.prog W .any base 27 v)
    (h : DataW.Trod enc Tryz.prog W 0 (fun _ => true) true 27 v d p) : ∃ a Ms cap, v = .slice a (Ms : List MsgV).length cap ∧ MsgsAt W a Ms := by
  obtain ⟨a0, len0, cap0, rfl⟩ := okWide_slice Tryz.underlying27 hv
  obtain ⟨fuel, hf⟩ := h
  rcases open_slice Tryz.underlying27 hf with ⟨hcs, _⟩ | ⟨a, len, cap, m, n, D, Pl, hcs, _, hl, hm, hmm, _, hi⟩
  · simp [Value.cells] at hcs
    obtain ⟨rfl, rfl, rfl⟩ := hcs
    exact ⟨none, [], 0, rfl, Nat.zero_le _, by simp, by simp⟩
  · simp [Value.cells] at hcs
    obtain ⟨rfl, rfl, rfl⟩ := hcs
    have hmc : m = cap0 := by simpa using hmm
    subst hmc
    have hC : Tryz.prog.cellsOf 40 = 28 := by kernel_rfl
    have key : ∀ i, i < len0 → ∃ o : MsgV, MOk o ∧ ∃ cs, CellsOf W cs o ∧ ∀ j u, cs[j]? = some u → W.cell? ((a.add (i * 28)).add j) = some u := by
      intro i hil
      obtain ⟨cs', hc, ht⟩ := hi i (by omega)
      rw [hC] at hc
      obtain ⟨_, hlen, hcell⟩ := World.cells?_some hc
      obtain ⟨M, v1, v2, hok, h1, h2, rfl⟩ := msg_of_trod hlen ht
      refine ⟨M, hok, _, ⟨hlen, ?_, v1, v2, rfl, h1, h2⟩, fun j u hj => ?_⟩
      · rw [Array.all_eq_true_iff_forall_mem]
        intro x hx
        exact msgCells_one (chain_one h1) (fires_one h2) x (by simpa using hx)
      · have hjl := (List.getElem?_eq_some_iff.1 hj).1
        rw [hlen] at hjl
        rw [hcell j hjl, hj]
    obtain ⟨L, hLl, hL⟩ := choose_list len0 (fun i (o : MsgV) => MOk o ∧ ∃ cs, CellsOf W cs o ∧ ∀ j u, cs[j]? = some u → W.cell? ((a.add (i * 28)).add j) = some u) key
    subst hLl
    refine ⟨some a, L, m, rfl, by omega, fun s hs => ?_, fun hpos => ?_⟩
    · obtain ⟨i, hi⟩ := List.getElem?_of_mem hs
      exact (hL i s hi).1
    · obtain ⟨b, off, spot⟩ := a
      obtain ⟨o0, _, cs0, hc0, h0⟩ := key 0 hpos
      have h0l : 0 < cs0.length := by rw [hc0.1]; decide
      have h0 := h0 0 cs0[0] (List.getElem?_eq_getElem h0l)
      have hspot : spot = none := by simpa [Addr.add] using World.cell?_spot h0
      subst hspot
      refine ⟨b, off, rfl, by have := World.block_lt_of_cell? _ _ h0; simpa [Addr.add] using this, fun i s hi => ?_⟩
      obtain ⟨_, cs, hc, h⟩ := hL i s hi
      refine ⟨cs, hc, fun j u hj => ?_⟩
      have h2 := h j u hj
      rw [addr_add, addr_add] at h2
      exact h2
theorem msg_full : (Tryz.prog.info? 40).map (fun i => (i.zero, i.size, i.bytes)) = some (some (.agg (msgCells msgZero (.slice none 0 0) (.slice none 0 0)).toArray), 28, 264) := by kernel_rfl
/-- A row of the call's own (from block B on) that holds the messages Ms; what they lead to in w0. -/
def MsgsO (B : Nat) (w0 w : World) (v : Value) (Ms : List MsgV) : Prop :=
  ∃ css : List (List Value), css.length = Ms.length ∧ w.ownsRow B 40 28 v Ms.length css.flatten ∧ ∀ (i : Nat) (M : MsgV) (cs : List Value), Ms[i]? = some M → css[i]? = some cs → CellsOf w0 cs M
theorem MsgsO.nil (B : Nat) (w0 w : World) : MsgsO B w0 w (.slice none 0 0) [] := ⟨[], rfl, World.ownsRow_nil _ _ _ _, by simp⟩
theorem MsgsO.below {B : Nat} {w0 w w' : World} {v : Value} {Ms : List MsgV} (h : MsgsO B w0 w v Ms) (hb : Below w.heap.size w w') : MsgsO B w0 w' v Ms := by
  obtain ⟨css, h1, h2, h3⟩ := h
  exact ⟨css, h1, own_below' h2 hb, h3⟩
/-- Where a network changes, a row of messages stays as it was. -/
theorem own_nkept {B b : Nat} {w w' : World} {e : TypeId} {size : Nat} {v : Value} {n : Nat} {xs : List Value} {r : Option Nat} (h : w.ownsRow B e size v n xs) (hk : NKept w w' b r) (hb : some b ≠ v.ownBlock) (hr : v.ownBlock = none ∨ v.ownBlock ≠ r) : w'.ownsRow B e size v n xs := by
  obtain ⟨h1, h2⟩ := h
  refine ⟨h1, ?_⟩
  rcases h2 with h2 | ⟨g, cap, cur, rfl, hg, hh, hrest⟩
  · exact .inl h2
  · refine .inr ⟨g, cap, cur, rfl, hg, ?_, hrest⟩
    rw [hk.block g (Array.getElem?_eq_some_iff.1 hh).1 (fun e => hb (by rw [e]; rfl)) (fun e => by
      rcases hr with h3 | h3
      · simp [Value.ownBlock] at h3
      · exact h3 (by rw [← e]; rfl)), hh]
theorem MsgsO.nkept {B b : Nat} {w0 w w' : World} {v : Value} {Ms : List MsgV} {r : Option Nat} (h : MsgsO B w0 w v Ms) (hk : NKept w w' b r) (hb : some b ≠ v.ownBlock) (hr : v.ownBlock = none ∨ v.ownBlock ≠ r) : MsgsO B w0 w' v Ms := by
  obtain ⟨css, h1, h2, h3⟩ := h
  exact ⟨css, h1, own_nkept h2 hk hb hr, h3⟩
theorem own_two {B B' : Nat} {w : World} {e e' : TypeId} {s s' : Nat} {v v' : Value} {n n' : Nat} {xs xs' : List Value} (h : w.ownsRow B e s v n xs) (h' : w.ownsRow B' e' s' v' n' xs') (hne : e ≠ e') : v.ownBlock = none ∨ v.ownBlock ≠ v'.ownBlock := by
  rcases h.2 with ⟨rfl, _⟩ | ⟨g, cap, cur, rfl, _, hg, _⟩
  · exact .inl rfl
  · right
    intro he
    rcases h'.2 with ⟨rfl, _⟩ | ⟨g', cap', cur', rfl, _, hg', _⟩
    · simp [Value.ownBlock] at he
    · simp only [Value.ownBlock, Option.some.injEq] at he
      subst he
      rw [hg] at hg'
      simp only [Option.some.injEq, Obj.cells.injEq] at hg'
      exact hne hg'.2.1
theorem MsgsO.form {B : Nat} {w0 w : World} {v : Value} {Ms : List MsgV} (h : MsgsO B w0 w v Ms) : ∃ A cap, v = .slice A Ms.length cap := by
  obtain ⟨css, h1, h2, h3⟩ := h
  exact own_formN h2
theorem flat_at {css : List (List Value)} (h : ∀ cs ∈ css, cs.length = 28) {i : Nat} {cs : List Value} (hi : css[i]? = some cs) {j : Nat} (hj : j < 28) : css.flatten[i * 28 + j]? = cs[j]? := by
  induction css generalizing i with
  | nil => simp at hi
  | cons c css ih =>
    have hc := h c (by simp)
    cases i with
    | zero =>
      obtain rfl : c = cs := by simpa using hi
      rw [List.flatten_cons, List.getElem?_append_left (by omega), Nat.zero_mul, Nat.zero_add]
    | succ i =>
      have h2 := ih (fun x hx => h x (by simp [hx])) (by simpa using hi)
      rw [List.flatten_cons, List.getElem?_append_right (by omega), hc, ← h2]
      congr 1
      omega
/-- A message of a row of the call's own. -/
theorem MsgsO.at {B : Nat} {w0 w : World} {A : Option Addr} {cap : Nat} {Ms : List MsgV} (h : MsgsO B w0 w (.slice A Ms.length cap) Ms) {i : Nat} {M : MsgV} (hi : Ms[i]? = some M) : ∃ g cs, A = some ⟨g, 0, none⟩ ∧ CellsOf w0 cs M ∧ ∀ j u, cs[j]? = some u → w.cell? ⟨g, i * 28 + j, none⟩ = some u := by
  obtain ⟨css, h1, h2, h3⟩ := h
  have hil := (List.getElem?_eq_some_iff.1 hi).1
  obtain ⟨cs, hcs⟩ : ∃ cs, css[i]? = some cs := ⟨_, List.getElem?_eq_getElem (by omega)⟩
  have hC := h3 i M cs hi hcs
  have hall : ∀ c ∈ css, c.length = 28 := fun c hc => by
    obtain ⟨k, hk⟩ := List.getElem?_of_mem hc
    have hkl := (List.getElem?_eq_some_iff.1 hk).1
    exact (h3 k _ c (List.getElem?_eq_getElem (by omega)) hk).1
  rcases h2.2 with ⟨hv, h0⟩ | ⟨g, cap', cur, hv, hg, hr, hrest⟩
  · omega
  · simp only [Value.slice.injEq] at hv
    obtain ⟨rfl, _, rfl⟩ := hv
    refine ⟨g, cs, rfl, hC, fun j u hj => ?_⟩
    have hj28 : j < 28 := by have := (List.getElem?_eq_some_iff.1 hj).1; rw [hC.1] at this; exact this
    rw [World.ownsRow.cellAt h2 (i * 28 + j) (by omega), flat_at hall hcs hj28, hj]
theorem MsgsO.snoc {B : Nat} {w0 w' : World} {v' : Value} {Ms : List MsgV} {M : MsgV} {cs : List Value} {css : List (List Value)} (h1 : css.length = Ms.length) (h3 : ∀ (i : Nat) (M : MsgV) (cs : List Value), Ms[i]? = some M → css[i]? = some cs → CellsOf w0 cs M)
    (h2 : w'.ownsRow B 40 28 v' (Ms.length + 1) (css.flatten ++ cs)) (hc : CellsOf w0 cs M) : MsgsO B w0 w' v' (Ms ++ [M]) := by
  refine ⟨css ++ [cs], by simp [h1], by rw [List.length_append]; simpa using h2, fun i K ds hi hd => ?_⟩
  rcases Nat.lt_or_ge i Ms.length with h | h
  · rw [List.getElem?_append_left h] at hi
    rw [List.getElem?_append_left (by omega)] at hd
    exact h3 i K ds hi hd
  · rw [List.getElem?_append_right h] at hi
    rw [List.getElem?_append_right (by omega)] at hd
    rw [h1] at hd
    have h0 : i - Ms.length = 0 := by have := (List.getElem?_eq_some_iff.1 hi).1; simp at this; omega
    rw [h0] at hi hd
    simp at hi hd
    subst hi hd
    exact hc
end Go.Proofs.YtnaabaahfjklhaaGreat
