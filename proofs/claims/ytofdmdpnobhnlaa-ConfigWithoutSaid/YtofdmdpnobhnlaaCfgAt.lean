/- The contracts of package config and of its document, each with its answer by name; few; what came in. -/
import Derived.Test.YtofdmdpnobhnlaaCfgQRead
import Derived.Test.YtofdmdpnobhnlaaCfgQFollows
import Derived.Test.YtofdmdpnobhnlaaStrOne
namespace Go.Proofs.Ytofdmdpnobhnlaa
open Go.RowKit Go.ChangeShapes Go.WideShapes Go.Joins Go.Deep
set_option linter.unusedVariables false

theorem cfirst_at {n : Int} (hn : W64 n) {pe : Int} {pL : List SeatV} {px : Int} (h : firstC n = (⟨pe, pL⟩, px)) (w : World) :
    Calls Try.prog 22 #[.int .i64 n] w fun en w' => ConfIs w w' en pe pL px := (cfirst_any n hn w).mono fun _ _ r => r.is h
theorem chead_at {w : World} {v : Value} {L : List SeatV} (hv : ChainAt w v L) (e : Int) {n l : Int} {b : Bool} (h : atC L 0 = (n, l, b)) :
    Calls Try.prog 23 #[.agg #[.int .i64 e, v]] w fun en w' => en = .returned (.tuple #[.agg #[.int .i64 n, .int .i64 l], .bool b]) ∧ Below w.heap.size w w' := by
  have := chead_any hv e
  rw [h] at this
  exact this
theorem ctail_at {w : World} {v : Value} {L : List SeatV} (hv : ChainAt w v L) (e : Int) {n l : Int} {b : Bool} (h : atC L ((L.length : Int) - 1) = (n, l, b)) :
    Calls Try.prog 25 #[.agg #[.int .i64 e, v]] w fun en w' => en = .returned (.tuple #[.agg #[.int .i64 n, .int .i64 l], .bool b]) ∧ Below w.heap.size w w' := by
  have := ctail_any hv e
  rw [h] at this
  exact this
theorem cnext_at {w : World} {v : Value} {L : List SeatV} (hv : ChainAt w v L) (e : Int) {x y n l : Int} {b : Bool} (h : nextC L x y = (n, l, b)) :
    Calls Try.prog 27 #[.agg #[.int .i64 e, v], .agg #[.int .i64 x, .int .i64 y]] w fun en w' => en = .returned (.tuple #[.agg #[.int .i64 n, .int .i64 l], .bool b]) ∧ Below w.heap.size w w' := by
  have := cnext_any hv e x y
  rw [h] at this
  exact this
theorem cahead_at {w : World} {v : Value} {L : List SeatV} (hv : ChainAt w v L) (e : Int) {x y n l : Int} {b : Bool} (h : aheadC L x y = (n, l, b)) :
    Calls Try.prog 28 #[.agg #[.int .i64 e, v], .agg #[.int .i64 x, .int .i64 y]] w fun en w' => en = .returned (.tuple #[.agg #[.int .i64 n, .int .i64 l], .bool b]) ∧ Below w.heap.size w w' := by
  have := cahead_any hv e x y
  rw [h] at this
  exact this
theorem qcat_at {w : World} {v : Value} {L : List SeatV} (hv : ChainAt w v L) (e i : Int) {n l : Int} {b : Bool} (h : atC L i = (n, l, b)) :
    Calls Try.prog 29 #[.agg #[.int .i64 e, v], .int .i64 i] w fun en w' => en = .returned (.tuple #[.agg #[.int .i64 n, .int .i64 l], .bool b]) ∧ Below w.heap.size w w' := by
  have := qcat_any hv e i
  rw [h] at this
  exact this
theorem qcbeside_at {w : World} {v : Value} {L : List SeatV} (hv : ChainAt w v L) (e : Int) {x y d n l : Int} {b : Bool} (hd1 : -1 ≤ d) (hd2 : d ≤ 1) (h : besideC L x y d = (n, l, b)) :
    Calls Try.prog 30 #[.agg #[.int .i64 e, v], .agg #[.int .i64 x, .int .i64 y], .int .i64 d] w fun en w' => en = .returned (.tuple #[.agg #[.int .i64 n, .int .i64 l], .bool b]) ∧ Below w.heap.size w w' := by
  have := qcbeside_any hv e x y d hd1 hd2
  rw [h] at this
  exact this
theorem cplace_at {w : World} {v : Value} {L : List SeatV} (hv : ChainAt w v L) (e : Int) {x y p : Int} (h : placeC L x y = p) :
    Calls Try.prog 24 #[.agg #[.int .i64 e, v], .agg #[.int .i64 x, .int .i64 y]] w fun en w' => en = .returned (.int .i64 p) ∧ Below w.heap.size w w' := by
  have := cplace_any hv e x y
  rw [h] at this
  exact this
theorem qcplace_at {w : World} {v : Value} {L : List SeatV} (hv : ChainAt w v L) (e : Int) {x y p : Int} (h : placeC L x y = p) :
    Calls Try.prog 32 #[.agg #[.int .i64 e, v], .agg #[.int .i64 x, .int .i64 y]] w fun en w' => en = .returned (.int .i64 p) ∧ Below w.heap.size w w' := by
  have := qcplace_any hv e x y
  rw [h] at this
  exact this
theorem cright_at {w : World} {v : Value} {L : List SeatV} (hv : ChainAt w v L) {e : Int} {b : Bool} (h : rightC ⟨e, L⟩ = b) :
    Calls Try.prog 21 #[.agg #[.int .i64 e, v]] w fun en w' => en = .returned (.bool b) ∧ Below w.heap.size w w' := by
  have := cright_any hv e
  rw [h] at this
  exact this
theorem qcright_at {w : World} {v : Value} {L : List SeatV} (hv : ChainAt w v L) {e : Int} {b : Bool} (h : rightC ⟨e, L⟩ = b) :
    Calls Try.prog 31 #[.agg #[.int .i64 e, v]] w fun en w' => en = .returned (.bool b) ∧ Below w.heap.size w w' := by
  have := qcright_any hv e
  rw [h] at this
  exact this
theorem cfollows_at {w : World} {v u : Value} {L M : List SeatV} (hv : ChainAt w v L) (hu : ChainAt w u M) {e f : Int} {b : Bool} (h : followsC ⟨e, L⟩ ⟨f, M⟩ = b) :
    Calls Try.prog 19 #[.agg #[.int .i64 e, v], .agg #[.int .i64 f, u]] w fun en w' => en = .returned (.bool b) ∧ Below w.heap.size w w' := by
  have := cfollows_any hv hu e f
  rw [h] at this
  exact this
theorem qcfollows_at {w : World} {v u : Value} {L M : List SeatV} (hv : ChainAt w v L) (hu : ChainAt w u M) {e f : Int} {b : Bool} (h : followsC ⟨e, L⟩ ⟨f, M⟩ = b) :
    Calls Try.prog 20 #[.agg #[.int .i64 e, v], .agg #[.int .i64 f, u]] w fun en w' => en = .returned (.bool b) ∧ Below w.heap.size w w' := by
  have := qcfollows_any hv hu e f
  rw [h] at this
  exact this
theorem qcsame_at {w : World} {v u : Value} {L M : List SeatV} (hv : ChainAt w v L) (hu : ChainAt w u M) {e f : Int} {b : Bool} (h : sameC ⟨e, L⟩ ⟨f, M⟩ = b) :
    Calls Try.prog 18 #[.agg #[.int .i64 e, v], .agg #[.int .i64 f, u]] w fun en w' => en = .returned (.bool b) ∧ Below w.heap.size w w' := by
  have := qcsame_any (e := e) (f := f) hv hu
  rw [← sameC_lit, h] at this
  exact this
theorem cprint_at {w : World} {v : Value} {L : List SeatV} (hv : ChainAt w v L) {e : Int} {s : List UInt8} {x : Int} (h : printC ⟨e, L⟩ = (s, x)) :
    Calls Try.prog 39 #[.agg #[.int .i64 e, v]] w fun en w' => en = .returned (.tuple #[.string ⟨s.toArray⟩, .int .i64 x]) ∧ Below w.heap.size w w' := by
  have := cprint_any hv e
  rw [h] at this
  exact this

set_option maxRecDepth 100000 in
set_option maxHeartbeats 1000000 in

theorem few_one {w : World} {a cap : Nat} {e : Int} {v : Value} {L : List SeatV} (hA : BlkAt w a 24 [.int .i64 e, v]) (hv : ChainAt w v L) :
    Calls Try.prog 11 #[.slice (some ⟨a, 0, none⟩) 1 cap] w fun en w' => en = .returned (.bool (decide (L.length ≤ 40))) ∧ Below w.heap.size w w' := by
  obtain ⟨a1, cap1, rfl, hs⟩ := hv
  have c0 : w.cell? ⟨a, 0, none⟩ = some (.int .i64 e) := hA.cell rfl
  have c1 : w.cell? ⟨a, 1, none⟩ = some (.slice a1 L.length cap1) := hA.cell rfl
  have hb := (Below.refl w.heap.size w).alloc (Nat.le_refl _) (.cells #[.int .i64 e, .slice a1 L.length cap1] 24)
  clear hs hA
  by_cases h : 40 < L.length
  · have h' : (40 : Int) < (L.length : Int) := by omega
    have hd : decide (L.length ≤ 40) = false := by simpa using h
    have HE := Lib.hid hd
    clear h hd
    go_enter Try.func11, Try.ntmps11
    go_wp2_with fail
    refine wp_loop_rounds 2 ?_
    rw [rounds_succ]
    go_wp2_with fail
    go_ret
    exact ⟨by rw [HE.out]; rfl, hb⟩
  · have h' : ¬ (40 : Int) < (L.length : Int) := by omega
    have hd : decide (L.length ≤ 40) = true := by simpa using h
    have HE := Lib.hid hd
    clear h hd
    go_enter Try.func11, Try.ntmps11
    go_wp2_with fail
    refine wp_loop_rounds 2 ?_
    rw [rounds_succ]
    go_wp2_with fail
    rw [rounds_succ]
    go_wp2_with fail
    go_ret
    exact ⟨by rw [HE.out]; rfl, hb⟩
set_option maxRecDepth 100000 in
set_option maxHeartbeats 1000000 in

theorem few_two {w : World} {a cap : Nat} {e f : Int} {v u : Value} {L M : List SeatV} (hA : BlkAt w a 24 [.int .i64 e, v, .int .i64 f, u]) (hv : ChainAt w v L) (hu : ChainAt w u M) :
    Calls Try.prog 11 #[.slice (some ⟨a, 0, none⟩) 2 cap] w fun en w' => en = .returned (.bool (decide (L.length ≤ 40 ∧ M.length ≤ 40))) ∧ Below w.heap.size w w' := by
  obtain ⟨a1, cap1, rfl, hs⟩ := hv
  obtain ⟨a2, cap2, rfl, hs2⟩ := hu
  have hA2 := hA.alloc (.cells #[.int .i64 e, .slice a1 L.length cap1] 24)
  have c0 : w.cell? ⟨a, 0, none⟩ = some (.int .i64 e) := hA.cell rfl
  have c1 : w.cell? ⟨a, 1, none⟩ = some (.slice a1 L.length cap1) := hA.cell rfl
  have c2 : (w.alloc (.cells #[.int .i64 e, .slice a1 L.length cap1] 24)).cell? ⟨a, 2, none⟩ = some (.int .i64 f) := hA2.cell rfl
  have c3 : (w.alloc (.cells #[.int .i64 e, .slice a1 L.length cap1] 24)).cell? ⟨a, 3, none⟩ = some (.slice a2 M.length cap2) := hA2.cell rfl
  have hb := (Below.refl w.heap.size w).alloc (Nat.le_refl _) (.cells #[.int .i64 e, .slice a1 L.length cap1] 24)
  have hb2 := hb.alloc hb.size (.cells #[.int .i64 f, .slice a2 M.length cap2] 24)
  clear hs hA hA2 hs2
  by_cases h : 40 < L.length
  · have h' : (40 : Int) < (L.length : Int) := by omega
    have hd : decide (L.length ≤ 40 ∧ M.length ≤ 40) = false := by simp; omega
    have HE := Lib.hid hd
    clear h hd
    go_enter Try.func11, Try.ntmps11
    go_wp2_with fail
    refine wp_loop_rounds 3 ?_
    rw [rounds_succ]
    go_wp2_with fail
    go_ret
    exact ⟨by rw [HE.out]; rfl, hb⟩
  · have h' : ¬ (40 : Int) < (L.length : Int) := by omega
    by_cases g : 40 < M.length
    · have g' : (40 : Int) < (M.length : Int) := by omega
      have hd : decide (L.length ≤ 40 ∧ M.length ≤ 40) = false := by simp; omega
      have HE := Lib.hid hd
      clear h hd g
      go_enter Try.func11, Try.ntmps11
      go_wp2_with fail
      refine wp_loop_rounds 3 ?_
      rw [rounds_succ]
      go_wp2_with fail
      rw [rounds_succ]
      go_wp2_with fail
      go_ret
      exact ⟨by rw [HE.out]; rfl, hb2⟩
    · have g' : ¬ (40 : Int) < (M.length : Int) := by omega
      have hd : decide (L.length ≤ 40 ∧ M.length ≤ 40) = true := by simp; omega
      have HE := Lib.hid hd
      clear h hd g
      go_enter Try.func11, Try.ntmps11
      go_wp2_with fail
      refine wp_loop_rounds 3 ?_
      rw [rounds_succ]
      go_wp2_with fail
      rw [rounds_succ]
      go_wp2_with fail
      rw [rounds_succ]
      go_wp2_with fail
      go_ret
      exact ⟨by rw [HE.out]; rfl, hb2⟩

set_option maxRecDepth 100000 in
/-- A seat's three cells, as they come in. -/
theorem trod_one_bool {H : Type} {enc : TypeId × Value → H} {W : World} {base : Nat} {sp : Nat → Bool} {hd : Bool} {n : Nat} {c : Value} {x : DataW H × List MemPlace} (h : DataW.trod enc Try.prog W base sp hd n 4 [c] = some x) : ∃ b : Bool, c = .bool b := by
  obtain ⟨b, g, rfl⟩ := DataW.trod_bool Try.underlying4 h
  injection g with g
  exact ⟨b, g⟩
set_option maxRecDepth 100000 in
theorem mem_of_trod {H : Type} {enc : TypeId × Value → H} {W : World} {base : Nat} {sp : Nat → Bool} {hd : Bool} {n : Nat} {cs : List Value} {x : DataW H × List MemPlace} (hl : cs.length = 2)
    (hf : DataW.trod enc Try.prog W base sp hd n 27 cs = some x) : ∃ a b : Int, W64 a ∧ W64 b ∧ cs = [.int .i64 a, .int .i64 b] := by
  obtain ⟨ys, n', rfl, _, _, hyl, hg⟩ := DataW.trod_struct Try.underlying27 hf
  match cs, hl with
  | [c0, c1], _ =>
    have k1 : Try.prog.cellsOf 3 = 1 := by kernel_rfl
    have g0 := hg 0 _ rfl
    have g1 := hg 1 _ rfl
    simp [k1] at g0 g1
    rw [List.getElem?_eq_getElem (by rw [hyl]; decide)] at g0 g1
    obtain ⟨z0, rfl, w0⟩ := trod_one_int g0
    obtain ⟨z1, rfl, w1⟩ := trod_one_int g1
    exact ⟨z0, z1, w0, w1, rfl⟩
set_option maxRecDepth 100000 in
theorem seat_of_trod {H : Type} {enc : TypeId × Value → H} {W : World} {base : Nat} {sp : Nat → Bool} {hd : Bool} {n : Nat} {cs : List Value} {x : DataW H × List MemPlace} (hl : cs.length = 3)
    (hf : DataW.trod enc Try.prog W base sp hd n 50 cs = some x) : ∃ s : SeatV, SeatOk s ∧ cs = seatCells s := by
  obtain ⟨ys, n', rfl, _, _, hyl, hg⟩ := DataW.trod_struct Try.underlying50 hf
  match cs, hl with
  | [c0, c1, c2], _ =>
    have k1 : Try.prog.cellsOf 27 = 2 := by kernel_rfl
    have k2 : Try.prog.cellsOf 4 = 1 := by kernel_rfl
    have g0 := hg 0 _ rfl
    have g1 := hg 1 _ rfl
    simp [k1, k2] at g0 g1
    rw [List.getElem?_eq_getElem (by rw [hyl]; decide)] at g0 g1
    obtain ⟨z0, z1, w0, w1, he⟩ := mem_of_trod (by simp) g0
    simp only [List.cons.injEq, and_true] at he
    obtain ⟨rfl, rfl⟩ := he
    obtain ⟨b, rfl⟩ := trod_one_bool g1
    exact ⟨⟨z0, z1, b⟩, ⟨w0, w1⟩, rfl⟩
set_option maxRecDepth 100000 in
theorem chain_of_trod {H : Type} {enc : TypeId × Value → H} {W : World} {base : Nat} {sp : Nat → Bool} {hd : Bool} {fuel : Nat} {v : Value} {x : DataW H × List MemPlace} (hf : DataW.trod enc Try.prog W base sp hd fuel 22 [v] = some x) : ∃ L : List SeatV, ChainAt W v L := by
  rcases open_slice Try.underlying22 hf with ⟨hcs, _⟩ | ⟨a, len, cap, m, n, D, Pl, hcs, _, hl, hm, hmm, _, hi⟩
  · simp at hcs
    subst hcs
    exact ⟨[], ChainAt.nil W⟩
  · simp at hcs
    subst hcs
    have hC : Try.prog.cellsOf 50 = 3 := by kernel_rfl
    have hlm : len ≤ m := by rw [hmm]; split <;> omega
    have key : ∀ i, i < len → ∃ s : SeatV, SeatOk s ∧ ∀ j u, (seatCells s)[j]? = some u → W.cell? ((a.add (i * 3)).add j) = some u := by
      intro i hil
      obtain ⟨cs', hc, ht⟩ := hi i (by omega)
      rw [hC] at hc
      obtain ⟨_, hlen, hcell⟩ := World.cells?_some hc
      obtain ⟨s, ho, rfl⟩ := seat_of_trod hlen ht
      refine ⟨s, ho, fun j u hj => ?_⟩
      have hjl := (List.getElem?_eq_some_iff.1 hj).1
      rw [hlen] at hjl
      rw [hcell j hjl, hj]
    obtain ⟨L, hLl, hL⟩ := choose_list len (fun i (s : SeatV) => SeatOk s ∧ ∀ j u, (seatCells s)[j]? = some u → W.cell? ((a.add (i * 3)).add j) = some u) key
    subst hLl
    refine ⟨L, some a, cap, rfl, by omega, fun s hs => ?_, fun hpos => ?_⟩
    · obtain ⟨i, hi⟩ := List.getElem?_of_mem hs
      exact (hL i s hi).1
    · obtain ⟨b, off, spot⟩ := a
      obtain ⟨o0, _, h0⟩ := key 0 hpos
      have h0 := h0 0 _ rfl
      have hspot : spot = none := by simpa [Addr.add] using World.cell?_spot h0
      subst hspot
      refine ⟨b, off, rfl, by have := World.block_lt_of_cell? _ _ h0; simpa [Addr.add] using this, fun i s hi => ?_⟩
      have h := (hL i s hi).2
      have t0 := h 0 _ rfl
      have t1 := h 1 _ rfl
      have t2 := h 2 _ rfl
      rw [addr_add, addr_add] at t0 t1 t2
      exact ⟨t0, t1, t2⟩
set_option maxRecDepth 100000 in
theorem conf_of_trod {H : Type} {enc : TypeId × Value → H} {W : World} {base : Nat} {sp : Nat → Bool} {hd : Bool} {n : Nat} {cs : List Value} {x : DataW H × List MemPlace} (hl : cs.length = 2)
    (hf : DataW.trod enc Try.prog W base sp hd n 24 cs = some x) : ∃ (e : Int) (v : Value) (L : List SeatV), W64 e ∧ ChainAt W v L ∧ cs = [.int .i64 e, v] := by
  obtain ⟨ys, n', rfl, _, _, hyl, hg⟩ := DataW.trod_struct Try.underlying24 hf
  match cs, hl with
  | [c0, c1], _ =>
    have k1 : Try.prog.cellsOf 3 = 1 := by kernel_rfl
    have k2 : Try.prog.cellsOf 22 = 1 := by kernel_rfl
    have g0 := hg 0 _ rfl
    have g1 := hg 1 _ rfl
    simp [k1, k2] at g0 g1
    rw [List.getElem?_eq_getElem (by rw [hyl]; decide)] at g0 g1
    obtain ⟨z0, rfl, w0⟩ := trod_one_int g0
    obtain ⟨L, hL⟩ := chain_of_trod g1
    exact ⟨z0, c1, L, w0, hL, rfl⟩
set_option maxRecDepth 100000 in
theorem open_conf {H : Type} {enc : TypeId × Value → H} {W : World} {base : Nat} {v : Value} {d : DataW H} {p : List MemPlace} (hv : Value.okWide Try.prog W .any base 24 v)
    (h : DataW.Trod enc Try.prog W 0 (fun _ => true) true 24 v d p) : ∃ (e : Int) (a : Option Addr) (cap : Nat) (L : List SeatV), W64 e ∧ ChainAt W (.slice a L.length cap) L ∧ v = .agg #[.int .i64 e, .slice a L.length cap] := by
  obtain ⟨cs, rfl, hsz⟩ := okWide_struct Try.underlying24 hv
  obtain ⟨fuel, hf⟩ := h
  obtain ⟨e, u, L, he, hL, hc⟩ := conf_of_trod (cs := cs.toList) (by rw [Array.length_toList]; exact hsz.trans (by kernel_rfl)) hf
  obtain ⟨a, cap, rfl, hs⟩ := hL
  exact ⟨e, a, cap, L, he, ⟨a, cap, rfl, hs⟩, by rw [show cs = #[.int .i64 e, .slice a L.length cap] from Array.toList_inj.1 hc]⟩
set_option maxRecDepth 100000 in
theorem open_mems {H : Type} {enc : TypeId × Value → H} {W : World} {base : Nat} {v : Value} {d : DataW H} {p : List MemPlace} (hv : Value.okWide Try.prog W .any base 25 v)
    (h : DataW.Trod enc Try.prog W 0 (fun _ => true) true 25 v d p) : ∃ a G cap, v = .slice a (G : List (Int × Int)).length cap ∧ MemsAt W a G ∧ ∀ g ∈ G, W64 g.1 ∧ W64 g.2 := by
  obtain ⟨a0, len0, cap0, rfl⟩ := okWide_slice Try.underlying25 hv
  obtain ⟨fuel, hf⟩ := h
  rcases open_slice Try.underlying25 hf with ⟨hcs, _⟩ | ⟨a, len, cap, m, n, D, Pl, hcs, _, hl, hm, hmm, _, hi⟩
  · simp [Value.cells] at hcs
    obtain ⟨rfl, rfl, rfl⟩ := hcs
    exact ⟨none, [], 0, rfl, ⟨Nat.zero_le _, by simp⟩, by simp⟩
  · simp [Value.cells] at hcs
    obtain ⟨rfl, rfl, rfl⟩ := hcs
    have hmc : m = cap0 := by simpa using hmm
    subst hmc
    have hC : Try.prog.cellsOf 27 = 2 := by kernel_rfl
    have key : ∀ i, i < len0 → ∃ g : Int × Int, (W64 g.1 ∧ W64 g.2) ∧ W.cell? ((a.add (i * 2)).add 0) = some (.int .i64 g.1) ∧ W.cell? ((a.add (i * 2)).add 1) = some (.int .i64 g.2) := by
      intro i hil
      obtain ⟨cs', hc, ht⟩ := hi i (by omega)
      rw [hC] at hc
      obtain ⟨_, hlen, hcell⟩ := World.cells?_some hc
      obtain ⟨x, y, hx, hy, rfl⟩ := mem_of_trod hlen ht
      exact ⟨(x, y), ⟨hx, hy⟩, hcell 0 (by omega), hcell 1 (by omega)⟩
    obtain ⟨L, hLl, hL⟩ := choose_list len0 (fun i (g : Int × Int) => (W64 g.1 ∧ W64 g.2) ∧ W.cell? ((a.add (i * 2)).add 0) = some (.int .i64 g.1) ∧ W.cell? ((a.add (i * 2)).add 1) = some (.int .i64 g.2)) key
    subst hLl
    refine ⟨some a, L, m, rfl, ⟨by omega, fun hpos => ?_⟩, fun g hg => ?_⟩
    · obtain ⟨b, off, spot⟩ := a
      obtain ⟨o0, _, h0, _⟩ := key 0 hpos
      have hspot : spot = none := by simpa [Addr.add] using World.cell?_spot h0
      subst hspot
      refine ⟨b, off, rfl, by have := World.block_lt_of_cell? _ _ h0; simpa [Addr.add] using this, fun i g hi => ?_⟩
      obtain ⟨_, t0, t1⟩ := hL i g hi
      rw [addr_add, addr_add] at t0 t1
      exact ⟨t0, t1⟩
    · obtain ⟨i, hi⟩ := List.getElem?_of_mem hg
      exact (hL i g hi).1
end Go.Proofs.Ytofdmdpnobhnlaa
