/- The contracts of package config and of its document, each with its answer by name; few; what came in. The law's first line: answers that the document fixes. -/
import Derived.Test.YtomfmejodmfioaaGreatKCfgD
import Derived.Test.YtomfmejodmfioaaGreatKCfgC
import Derived.Test.YtomfmejodmfioaaGreatStrOne
import Derived.Test.YtomfmejodmfioaaGreatCfgOpen
namespace Go.Proofs.YtomfmejodmfioaaGreat
open Go.RowKit Go.ChangeShapes Go.WideShapes Go.Joins Go.Deep
set_option linter.unusedVariables false

theorem cfirst_at {n : Int} (hn : W64 n) {pe : Int} {pL : List SeatV} {px : Int} (h : firstC n = (⟨pe, pL⟩, px)) (w : World) :
    Calls Tryz.prog 50 #[.int .i64 n] w fun en w' => ConfIs w w' en pe pL px := (cfirst_any n hn w).mono fun _ _ r => r.is h
theorem ctail_at {w : World} {v : Value} {L : List SeatV} (hv : ChainAt w v L) (e : Int) {n l : Int} {b : Bool} (h : atC L ((L.length : Int) - 1) = (n, l, b)) :
    Calls Tryz.prog 39 #[.agg #[.int .i64 e, v]] w fun en w' => en = .returned (.tuple #[.agg #[.int .i64 n, .int .i64 l], .bool b]) ∧ Below w.heap.size w w' := by
  have := ctail_any hv e
  rw [h] at this
  exact this
theorem cplace_at {w : World} {v : Value} {L : List SeatV} (hv : ChainAt w v L) (e : Int) {x y p : Int} (h : placeC L x y = p) :
    Calls Tryz.prog 67 #[.agg #[.int .i64 e, v], .agg #[.int .i64 x, .int .i64 y]] w fun en w' => en = .returned (.int .i64 p) ∧ Below w.heap.size w w' := by
  have := cplace_any hv e x y
  rw [h] at this
  exact this
theorem qcplace_at {w : World} {v : Value} {L : List SeatV} (hv : ChainAt w v L) (e : Int) {x y p : Int} (h : placeC L x y = p) :
    Calls Tryz.prog 15 #[.agg #[.int .i64 e, v], .agg #[.int .i64 x, .int .i64 y]] w fun en w' => en = .returned (.int .i64 p) ∧ Below w.heap.size w w' := by
  have := qcplace_any hv e x y
  rw [h] at this
  exact this
theorem cright_at {w : World} {v : Value} {L : List SeatV} (hv : ChainAt w v L) {e : Int} {b : Bool} (h : rightC ⟨e, L⟩ = b) :
    Calls Tryz.prog 34 #[.agg #[.int .i64 e, v]] w fun en w' => en = .returned (.bool b) ∧ Below w.heap.size w w' := by
  have := cright_any hv e
  rw [h] at this
  exact this
theorem qcright_at {w : World} {v : Value} {L : List SeatV} (hv : ChainAt w v L) {e : Int} {b : Bool} (h : rightC ⟨e, L⟩ = b) :
    Calls Tryz.prog 16 #[.agg #[.int .i64 e, v]] w fun en w' => en = .returned (.bool b) ∧ Below w.heap.size w w' := by
  have := qcright_any hv e
  rw [h] at this
  exact this
theorem cfollows_at {w : World} {v u : Value} {L M : List SeatV} (hv : ChainAt w v L) (hu : ChainAt w u M) {e f : Int} {b : Bool} (h : followsC ⟨e, L⟩ ⟨f, M⟩ = b) :
    Calls Tryz.prog 18 #[.agg #[.int .i64 e, v], .agg #[.int .i64 f, u]] w fun en w' => en = .returned (.bool b) ∧ Below w.heap.size w w' := by
  have := cfollows_any hv hu e f
  rw [h] at this
  exact this
theorem qcsame_at {w : World} {v u : Value} {L M : List SeatV} (hv : ChainAt w v L) (hu : ChainAt w u M) {e f : Int} {b : Bool} (h : sameC ⟨e, L⟩ ⟨f, M⟩ = b) :
    Calls Tryz.prog 17 #[.agg #[.int .i64 e, v], .agg #[.int .i64 f, u]] w fun en w' => en = .returned (.bool b) ∧ Below w.heap.size w w' := by
  have := qcsame_any (e := e) (f := f) hv hu
  rw [← sameC_lit, h] at this
  exact this
set_option maxRecDepth 100000 in
theorem open_mems {H : Type} {enc : TypeId × Value → H} {W : World} {base : Nat} {v : Value} {d : DataW H} {p : List MemPlace} (hv : Value.okWide Tryz.prog W .any base 97 v)
    (h : DataW.Trod enc Tryz.prog W 0 (fun _ => true) true 97 v d p) : ∃ a G cap, v = .slice a (G : List (Int × Int)).length cap ∧ MemsAt W a G ∧ ∀ g ∈ G, W64 g.1 ∧ W64 g.2 := by
  obtain ⟨a0, len0, cap0, rfl⟩ := okWide_slice Tryz.underlying97 hv
  obtain ⟨fuel, hf⟩ := h
  rcases open_slice Tryz.underlying97 hf with ⟨hcs, _⟩ | ⟨a, len, cap, m, n, D, Pl, hcs, _, hl, hm, hmm, _, hi⟩
  · simp [Value.cells] at hcs
    obtain ⟨rfl, rfl, rfl⟩ := hcs
    exact ⟨none, [], 0, rfl, ⟨Nat.zero_le _, by simp⟩, by simp⟩
  · simp [Value.cells] at hcs
    obtain ⟨rfl, rfl, rfl⟩ := hcs
    have hmc : m = cap0 := by simpa using hmm
    subst hmc
    have hC : Tryz.prog.cellsOf 42 = 2 := by kernel_rfl
    have key : ∀ i, i < len0 → ∃ g : Int × Int, (W64 g.1 ∧ W64 g.2) ∧ W.cell? ((a.add (i * 2)).add 0) = some (.int .i64 g.1) ∧ W.cell? ((a.add (i * 2)).add 1) = some (.int .i64 g.2) := by
      intro i hil
      obtain ⟨cs', hc, ht⟩ := hi i (by omega)
      rw [hC] at hc
      obtain ⟨_, hlen, hcell⟩ := World.cells?_some hc
      obtain ⟨x, y, hx, hy, rfl⟩ := mem_of_trod hlen ht
      exact ⟨(x, y), ⟨hx, hy⟩, hcell 0 (by omega), hcell 1 (by omega)⟩
    obtain ⟨L, hLl, hL⟩ := choose_list len0 (fun i (g : Int × Int) => (W64 g.1 ∧ W64 g.2) ∧ W.cell? ((a.add (i * 2)).add 0) = some (.int .i64 g.1) ∧ W.cell? ((a.add (i * 2)).add 1) = some (.int .i64 g.2)) key
    subst hLl
    refine ⟨some a, L, m, rfl, ⟨by omega, fun hpos => ?_⟩, fun g hg => ?_⟩
    · obtain ⟨b, off, spot⟩ := a
      obtain ⟨o0, _, h0, _⟩ := key 0 hpos
      have hspot : spot = none := by simpa [Addr.add] using World.cell?_spot h0
      subst hspot
      refine ⟨b, off, rfl, by have := World.block_lt_of_cell? _ _ h0; simpa [Addr.add] using this, fun i g hi => ?_⟩
      obtain ⟨_, t0, t1⟩ := hL i g hi
      rw [addr_add, addr_add] at t0 t1
      exact ⟨t0, t1⟩
    · obtain ⟨i, hi⟩ := List.getElem?_of_mem hg
      exact (hL i g hi).1
end Go.Proofs.YtomfmejodmfioaaGreat
namespace Go.Proofs.YtomfmejodmfioaaGreat
open Go.RowKit Go.ChangeShapes Go.WideShapes Go.Joins
set_option linter.unusedVariables false

theorem aw1 : firstC 2 = (⟨1, [⟨0, 1, true⟩, ⟨1, 1, true⟩]⟩, 0) := by decide
theorem aw2 : withoutC ⟨1, [⟨0, 1, true⟩, ⟨1, 1, true⟩]⟩ [(0, 1)] = (⟨2, [⟨1, 1, true⟩]⟩, 0) := by decide
theorem aw3 : joinC ⟨2, [⟨1, 1, true⟩]⟩ 0 2 = (⟨3, [⟨1, 1, true⟩, ⟨0, 2, false⟩]⟩, 0) := by decide
theorem aw4 : withoutC ⟨3, [⟨1, 1, true⟩, ⟨0, 2, false⟩]⟩ [(1, 1)] = (⟨0, []⟩, 13) := by decide
theorem aw5 : atC [⟨1, 1, true⟩, ⟨0, 2, false⟩] 0 = (1, 1, true) := by decide
theorem aw6 : printC ⟨1, [⟨0, 1, true⟩, ⟨1, 1, true⟩]⟩ = ([1, 2, 0, 1, 1, 1, 1, 1], 0) := by decide
theorem aw7 : followsC ⟨2, [⟨1, 1, true⟩]⟩ ⟨3, [⟨1, 1, true⟩, ⟨0, 2, false⟩]⟩ = true := by decide
theorem aw8 : followsC ⟨1, [⟨0, 1, true⟩, ⟨1, 1, true⟩]⟩ ⟨3, [⟨1, 1, true⟩, ⟨0, 2, false⟩]⟩ = false := by decide
theorem mems_new (w : World) (n l : Int) : MemsV (w.alloc (.cells #[.int .i64 n, .int .i64 l] 42)) (.slice (some ⟨w.heap.size, 0, none⟩) 1 1) [(n, l)] := by
  have h := BlkAt.new w 42 [.int .i64 n, .int .i64 l]
  refine ⟨_, 1, rfl, by unfold maxLen; simp, fun _ => ⟨_, 0, rfl, h.lt, fun i g hi => ?_⟩⟩
  match i, hi with
  | 0, hi =>
    simp at hi
    subst hi
    exact ⟨h.cell rfl, h.cell rfl⟩
theorem w64_lit (x : Int) (h : decide (-9223372036854775808 ≤ x ∧ x ≤ 9223372036854775807) = true) : W64 x := W64.mk (of_decide_eq_true h).1 (of_decide_eq_true h).2

end Go.Proofs.YtomfmejodmfioaaGreat
