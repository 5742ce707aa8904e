/- Chains, and members, that came in by value. -/
import Derived.Test.YtomfmejodmfioaaGreatKCfg
import Derived.Test.YtomfmejodmfioaaGreatStrOne
import Derived.Deep.Slices
namespace Go.Proofs.YtomfmejodmfioaaGreat
open Go.RowKit Go.ChangeShapes Go.WideShapes Go.Joins Go.Deep
set_option linter.unusedVariables false

set_option maxRecDepth 100000 in
/-- A seat's three cells, as they come in. -/
theorem trod_one_bool {H : Type} {enc : TypeId × Value → H} {W : World} {base : Nat} {sp : Nat → Bool} {hd : Bool} {n : Nat} {c : Value} {x : DataW H × List MemPlace} (h : DataW.trod enc Tryz.prog W base sp hd n 4 [c] = some x) : ∃ b : Bool, c = .bool b := by
  obtain ⟨b, g, rfl⟩ := DataW.trod_bool Tryz.underlying4 h
  injection g with g
  exact ⟨b, g⟩
set_option maxRecDepth 100000 in
theorem mem_of_trod {H : Type} {enc : TypeId × Value → H} {W : World} {base : Nat} {sp : Nat → Bool} {hd : Bool} {n : Nat} {cs : List Value} {x : DataW H × List MemPlace} (hl : cs.length = 2)
    (hf : DataW.trod enc Tryz.prog W base sp hd n 42 cs = some x) : ∃ a b : Int, W64 a ∧ W64 b ∧ cs = [.int .i64 a, .int .i64 b] := by
  obtain ⟨ys, n', rfl, _, _, hyl, hg⟩ := DataW.trod_struct Tryz.underlying42 hf
  match cs, hl with
  | [c0, c1], _ =>
    have k1 : Tryz.prog.cellsOf 3 = 1 := by kernel_rfl
    have g0 := hg 0 _ rfl
    have g1 := hg 1 _ rfl
    simp [k1] at g0 g1
    rw [List.getElem?_eq_getElem (by rw [hyl]; decide)] at g0 g1
    obtain ⟨z0, rfl, w0⟩ := trod_one_int g0
    obtain ⟨z1, rfl, w1⟩ := trod_one_int g1
    exact ⟨z0, z1, w0, w1, rfl⟩
set_option maxRecDepth 100000 in
theorem seat_of_trod {H : Type} {enc : TypeId × Value → H} {W : World} {base : Nat} {sp : Nat → Bool} {hd : Bool} {n : Nat} {cs : List Value} {x : DataW H × List MemPlace} (hl : cs.length = 3)
    (hf : DataW.trod enc Tryz.prog W base sp hd n 49 cs = some x) : ∃ s : SeatV, SeatOk s ∧ cs = seatCells s := by
  obtain ⟨ys, n', rfl, _, _, hyl, hg⟩ := DataW.trod_struct Tryz.underlying49 hf
  match cs, hl with
  | [c0, c1, c2], _ =>
    have k1 : Tryz.prog.cellsOf 42 = 2 := by kernel_rfl
    have k2 : Tryz.prog.cellsOf 4 = 1 := by kernel_rfl
    have g0 := hg 0 _ rfl
    have g1 := hg 1 _ rfl
    simp [k1, k2] at g0 g1
    rw [List.getElem?_eq_getElem (by rw [hyl]; decide)] at g0 g1
    obtain ⟨z0, z1, w0, w1, he⟩ := mem_of_trod (by simp) g0
    simp only [List.cons.injEq, and_true] at he
    obtain ⟨rfl, rfl⟩ := he
    obtain ⟨b, rfl⟩ := trod_one_bool g1
    exact ⟨⟨z0, z1, b⟩, ⟨w0, w1⟩, rfl⟩
set_option maxRecDepth 100000 in
theorem chain_of_trod {H : Type} {enc : TypeId × Value → H} {W : World} {base : Nat} {sp : Nat → Bool} {hd : Bool} {fuel : Nat} {v : Value} {x : DataW H × List MemPlace} (hf : DataW.trod enc Tryz.prog W base sp hd fuel 33 [v] = some x) : ∃ L : List SeatV, ChainAt W v L := by
  rcases open_slice Tryz.underlying33 hf with ⟨hcs, _⟩ | ⟨a, len, cap, m, n, D, Pl, hcs, _, hl, hm, hmm, _, hi⟩
  · simp at hcs
    subst hcs
    exact ⟨[], ChainAt.nil W⟩
  · simp at hcs
    subst hcs
    have hC : Tryz.prog.cellsOf 49 = 3 := by kernel_rfl
    have hlm : len ≤ m := by rw [hmm]; split <;> omega
    have key : ∀ i, i < len → ∃ s : SeatV, SeatOk s ∧ ∀ j u, (seatCells s)[j]? = some u → W.cell? ((a.add (i * 3)).add j) = some u := by
      intro i hil
      obtain ⟨cs', hc, ht⟩ := hi i (by omega)
      rw [hC] at hc
      obtain ⟨_, hlen, hcell⟩ := World.cells?_some hc
      obtain ⟨s, ho, rfl⟩ := seat_of_trod hlen ht
      refine ⟨s, ho, fun j u hj => ?_⟩
      have hjl := (List.getElem?_eq_some_iff.1 hj).1
      rw [hlen] at hjl
      rw [hcell j hjl, hj]
    obtain ⟨L, hLl, hL⟩ := choose_list len (fun i (s : SeatV) => SeatOk s ∧ ∀ j u, (seatCells s)[j]? = some u → W.cell? ((a.add (i * 3)).add j) = some u) key
    subst hLl
    refine ⟨L, some a, cap, rfl, by omega, fun s hs => ?_, fun hpos => ?_⟩
    · obtain ⟨i, hi⟩ := List.getElem?_of_mem hs
      exact (hL i s hi).1
    · obtain ⟨b, off, spot⟩ := a
      obtain ⟨o0, _, h0⟩ := key 0 hpos
      have h0 := h0 0 _ rfl
      have hspot : spot = none := by simpa [Addr.add] using World.cell?_spot h0
      subst hspot
      refine ⟨b, off, rfl, by have := World.block_lt_of_cell? _ _ h0; simpa [Addr.add] using this, fun i s hi => ?_⟩
      have h := (hL i s hi).2
      have t0 := h 0 _ rfl
      have t1 := h 1 _ rfl
      have t2 := h 2 _ rfl
      rw [addr_add, addr_add] at t0 t1 t2
      exact ⟨t0, t1, t2⟩
set_option maxRecDepth 100000 in
theorem conf_of_trod {H : Type} {enc : TypeId × Value → H} {W : World} {base : Nat} {sp : Nat → Bool} {hd : Bool} {n : Nat} {cs : List Value} {x : DataW H × List MemPlace} (hl : cs.length = 2)
    (hf : DataW.trod enc Tryz.prog W base sp hd n 35 cs = some x) : ∃ (e : Int) (v : Value) (L : List SeatV), W64 e ∧ ChainAt W v L ∧ cs = [.int .i64 e, v] := by
  obtain ⟨ys, n', rfl, _, _, hyl, hg⟩ := DataW.trod_struct Tryz.underlying35 hf
  match cs, hl with
  | [c0, c1], _ =>
    have k1 : Tryz.prog.cellsOf 3 = 1 := by kernel_rfl
    have k2 : Tryz.prog.cellsOf 33 = 1 := by kernel_rfl
    have g0 := hg 0 _ rfl
    have g1 := hg 1 _ rfl
    simp [k1, k2] at g0 g1
    rw [List.getElem?_eq_getElem (by rw [hyl]; decide)] at g0 g1
    obtain ⟨z0, rfl, w0⟩ := trod_one_int g0
    obtain ⟨L, hL⟩ := chain_of_trod g1
    exact ⟨z0, c1, L, w0, hL, rfl⟩
set_option maxRecDepth 100000 in
theorem open_conf {H : Type} {enc : TypeId × Value → H} {W : World} {base : Nat} {v : Value} {d : DataW H} {p : List MemPlace} (hv : Value.okWide Tryz.prog W .any base 35 v)
    (h : DataW.Trod enc Tryz.prog W 0 (fun _ => true) true 35 v d p) : ∃ (e : Int) (a : Option Addr) (cap : Nat) (L : List SeatV), W64 e ∧ ChainAt W (.slice a L.length cap) L ∧ v = .agg #[.int .i64 e, .slice a L.length cap] := by
  obtain ⟨cs, rfl, hsz⟩ := okWide_struct Tryz.underlying35 hv
  obtain ⟨fuel, hf⟩ := h
  obtain ⟨e, u, L, he, hL, hc⟩ := conf_of_trod (cs := cs.toList) (by rw [Array.length_toList]; exact hsz.trans (by kernel_rfl)) hf
  obtain ⟨a, cap, rfl, hs⟩ := hL
  exact ⟨e, a, cap, L, he, ⟨a, cap, rfl, hs⟩, by rw [show cs = #[.int .i64 e, .slice a L.length cap] from Array.toList_inj.1 hc]⟩
end Go.Proofs.YtomfmejodmfioaaGreat
