/- Messages that came in by value. Is a message small enough to be gone over? -/
import Derived.Test.YtnaabaahfjklhaaGreatWireAwake
import Derived.Test.YtnaabaahfjklhaaGreatCfgOpen
import Derived.Test.YtnaabaahfjklhaaGreatOpOpen
namespace Go.Proofs.YtnaabaahfjklhaaGreat
open Go.RowKit Go.ChangeShapes Go.WideShapes Go.Joins Go.Deep
set_option linter.unusedVariables false

theorem trod_one_errno {H : Type} {enc : TypeId × Value → H} {W : World} {base : Nat} {sp : Nat → Bool} {hd : Bool} {n : Nat} {c : Value} {x : DataW H × List MemPlace} (h : DataW.trod enc Tryz.prog W base sp hd n 32 [c] = some x) : ∃ z, c = .int .i64 z ∧ W64 z := by
  obtain ⟨z, g, rfl, w⟩ := DataW.trod_int Tryz.underlying32 h
  simp at g
  exact ⟨z, g, w⟩
set_option maxRecDepth 100000 in
theorem fire_of_trod {H : Type} {enc : TypeId × Value → H} {W : World} {base : Nat} {sp : Nat → Bool} {hd : Bool} {n : Nat} {cs : List Value} {x : DataW H × List MemPlace} (hl : cs.length = 6)
    (hf : DataW.trod enc Tryz.prog W base sp hd n 99 cs = some x) : ∃ f : FireV, (∀ x ∈ f.nums, W64 x) ∧ cs = icells f.nums := by
  obtain ⟨ys, n', rfl, _, _, hyl, hg⟩ := DataW.trod_struct Tryz.underlying99 hf
  match cs, hl with
  | [c0, c1, c2, c3, c4, c5], _ =>
    have k1 : Tryz.prog.cellsOf 3 = 1 := by kernel_rfl
    have g0 := hg 0 _ rfl
    have g1 := hg 1 _ rfl
    have g2 := hg 2 _ rfl
    have g3 := hg 3 _ rfl
    have g4 := hg 4 _ rfl
    have g5 := hg 5 _ rfl
    simp [k1] at g0 g1 g2 g3 g4 g5
    rw [List.getElem?_eq_getElem (by rw [hyl]; decide)] at g0 g1 g2 g3 g4 g5
    obtain ⟨z0, rfl, w0⟩ := trod_one_int g0
    obtain ⟨z1, rfl, w1⟩ := trod_one_int g1
    obtain ⟨z2, rfl, w2⟩ := trod_one_int g2
    obtain ⟨z3, rfl, w3⟩ := trod_one_int g3
    obtain ⟨z4, rfl, w4⟩ := trod_one_int g4
    obtain ⟨z5, rfl, w5⟩ := trod_one_int g5
    refine ⟨⟨z0, z1, z2, z3, z4, z5⟩, ?_, rfl⟩
    intro y hy
    simp only [FireV.nums, List.mem_cons, List.not_mem_nil, or_false] at hy
    rcases hy with rfl | rfl | rfl | rfl | rfl | rfl <;> assumption
set_option maxRecDepth 100000 in
theorem reply_of_trod {H : Type} {enc : TypeId × Value → H} {W : World} {base : Nat} {sp : Nat → Bool} {hd : Bool} {n : Nat} {cs : List Value} {x : DataW H × List MemPlace} (hl : cs.length = 3)
    (hf : DataW.trod enc Tryz.prog W base sp hd n 34 cs = some x) : ∃ a b c : Int, W64 a ∧ W64 b ∧ W64 c ∧ cs = [.int .i64 a, .int .i64 b, .int .i64 c] := by
  obtain ⟨ys, n', rfl, _, _, hyl, hg⟩ := DataW.trod_struct Tryz.underlying34 hf
  match cs, hl with
  | [c0, c1, c2], _ =>
    have k1 : Tryz.prog.cellsOf 3 = 1 := by kernel_rfl
    have k2 : Tryz.prog.cellsOf 32 = 1 := by kernel_rfl
    have g0 := hg 0 _ rfl
    have g1 := hg 1 _ rfl
    have g2 := hg 2 _ rfl
    simp [k1, k2] at g0 g1 g2
    rw [List.getElem?_eq_getElem (by rw [hyl]; decide)] at g0 g1 g2
    obtain ⟨z0, rfl, w0⟩ := trod_one_errno g0
    obtain ⟨z1, rfl, w1⟩ := trod_one_int g1
    obtain ⟨z2, rfl, w2⟩ := trod_one_int g2
    exact ⟨z0, z1, z2, w0, w1, w2, rfl⟩
set_option maxRecDepth 100000 in
theorem fires_of_trod {H : Type} {enc : TypeId × Value → H} {W : World} {base : Nat} {sp : Nat → Bool} {hd : Bool} {fuel : Nat} {v : Value} {x : DataW H × List MemPlace} (hf : DataW.trod enc Tryz.prog W base sp hd fuel 38 [v] = some x) : ∃ L : List FireV, FiresAt W v L ∧ ∀ f ∈ L, ∀ x ∈ f.nums, W64 x := by
  rcases open_slice Tryz.underlying38 hf with ⟨hcs, _⟩ | ⟨a, len, cap, m, n, D, Pl, hcs, _, hl, hm, hmm, _, hi⟩
  · simp at hcs
    subst hcs
    exact ⟨[], FiresAt.nil W, by simp⟩
  · simp at hcs
    subst hcs
    have hC : Tryz.prog.cellsOf 99 = 6 := by kernel_rfl
    have hlm : len ≤ m := by rw [hmm]; split <;> omega
    have key : ∀ i, i < len → ∃ s : FireV, (∀ x ∈ s.nums, W64 x) ∧ ∀ j u, (icells s.nums)[j]? = some u → W.cell? ((a.add (i * 6)).add j) = some u := by
      intro i hil
      obtain ⟨cs', hc, ht⟩ := hi i (by omega)
      rw [hC] at hc
      obtain ⟨_, hlen, hcell⟩ := World.cells?_some hc
      obtain ⟨s, ho, rfl⟩ := fire_of_trod hlen ht
      refine ⟨s, ho, fun j u hj => ?_⟩
      have hjl := (List.getElem?_eq_some_iff.1 hj).1
      rw [hlen] at hjl
      rw [hcell j hjl, hj]
    obtain ⟨L, hLl, hL⟩ := choose_list len (fun i (s : FireV) => (∀ x ∈ s.nums, W64 x) ∧ ∀ j u, (icells s.nums)[j]? = some u → W.cell? ((a.add (i * 6)).add j) = some u) key
    subst hLl
    refine ⟨L, ⟨some a, cap, rfl, by omega, fun hpos => ?_⟩, fun s hs => ?_⟩
    · obtain ⟨b, off, spot⟩ := a
      obtain ⟨o0, _, h0⟩ := key 0 hpos
      have h0 := h0 0 _ rfl
      have hspot : spot = none := by simpa [Addr.add] using World.cell?_spot h0
      subst hspot
      refine ⟨b, off, rfl, by have := World.block_lt_of_cell? _ _ h0; simpa [Addr.add] using this, fun i s hi j x hj => ?_⟩
      have h := (hL i s hi).2 j _ (icells_get hj)
      rw [addr_add, addr_add] at h
      exact h
    · obtain ⟨i, hi⟩ := List.getElem?_of_mem hs
      exact (hL i s hi).1
set_option maxRecDepth 100000 in
theorem list28 {l : List Value} (h : l.length = 28) : ∃ c0 c1 c2 c3 c4 c5 c6 c7 c8 c9 c10 c11 c12 c13 c14 c15 c16 c17 c18 c19 c20 c21 c22 c23 c24 c25 c26 c27, l = [c0, c1, c2, c3, c4, c5, c6, c7, c8, c9, c10, c11, c12, c13, c14, c15, c16, c17, c18, c19, c20, c21, c22, c23, c24, c25, c26, c27] := by
  match l, h with
  | [c0, c1, c2, c3, c4, c5, c6, c7, c8, c9, c10, c11, c12, c13, c14, c15, c16, c17, c18, c19, c20, c21, c22, c23, c24, c25, c26, c27], _ => exact ⟨c0, c1, c2, c3, c4, c5, c6, c7, c8, c9, c10, c11, c12, c13, c14, c15, c16, c17, c18, c19, c20, c21, c22, c23, c24, c25, c26, c27, rfl⟩
set_option maxRecDepth 100000 in
set_option maxHeartbeats 2000000 in
theorem msg_of_trod {H : Type} {enc : TypeId × Value → H} {W : World} {base : Nat} {sp : Nat → Bool} {hd : Bool} {n : Nat} {cs : List Value} {x : DataW H × List MemPlace} (hl : cs.length = 28)
    (hf : DataW.trod enc Tryz.prog W base sp hd n 40 cs = some x) : ∃ (M : MsgV) (v1 v2 : Value), MOk M ∧ ChainAt W v1 M.cf.chain ∧ FiresAt W v2 M.fires ∧ cs = msgCells M v1 v2 := by
  obtain ⟨ys, n', rfl, _, _, hyl, hg⟩ := DataW.trod_struct Tryz.underlying40 hf
  obtain ⟨c0, c1, c2, c3, c4, c5, c6, c7, c8, c9, c10, c11, c12, c13, c14, c15, c16, c17, c18, c19, c20, c21, c22, c23, c24, c25, c26, c27, rfl⟩ := list28 hl
  have k1 : Tryz.prog.cellsOf 3 = 1 := by kernel_rfl
  have k2 : Tryz.prog.cellsOf 29 = 2 := by kernel_rfl
  have k3 : Tryz.prog.cellsOf 4 = 1 := by kernel_rfl
  have k4 : Tryz.prog.cellsOf 31 = 10 := by kernel_rfl
  have k5 : Tryz.prog.cellsOf 34 = 3 := by kernel_rfl
  have k6 : Tryz.prog.cellsOf 37 = 2 := by kernel_rfl
  have k7 : Tryz.prog.cellsOf 38 = 1 := by kernel_rfl
  have g0 := hg 0 _ rfl
  have g1 := hg 1 _ rfl
  have g2 := hg 2 _ rfl
  have g3 := hg 3 _ rfl
  have g4 := hg 4 _ rfl
  have g5 := hg 5 _ rfl
  have g6 := hg 6 _ rfl
  have g7 := hg 7 _ rfl
  have g8 := hg 8 _ rfl
  have g9 := hg 9 _ rfl
  have g10 := hg 10 _ rfl
  have g11 := hg 11 _ rfl
  have g12 := hg 12 _ rfl
  have g13 := hg 13 _ rfl
  have g14 := hg 14 _ rfl
  clear hg hf
  simp [k1, k2, k3, k4, k5, k6, k7] at g0 g1 g2 g3 g4 g5 g6 g7 g8 g9 g10 g11 g12 g13 g14
  rw [List.getElem?_eq_getElem (by rw [hyl]; decide)] at g0 g1 g2 g3 g4 g5 g6 g7 g8 g9 g10 g11 g12 g13 g14
  obtain ⟨z0, rfl, w0⟩ := trod_one_int g0
  obtain ⟨z1, rfl, w1⟩ := trod_one_int g1
  obtain ⟨z4, rfl, w4⟩ := trod_one_int g3
  obtain ⟨z5, rfl, w5⟩ := trod_one_int g4
  obtain ⟨z6, rfl, w6⟩ := trod_one_int g5
  obtain ⟨z7, rfl, w7⟩ := trod_one_int g6
  obtain ⟨z8, rfl, w8⟩ := trod_one_int g7
  obtain ⟨z9, rfl, w9⟩ := trod_one_int g8
  obtain ⟨z27, rfl, w27⟩ := trod_one_int g14
  obtain ⟨fn, fl, wn, wl, he⟩ := mem_of_trod (by simp) g2
  simp only [List.cons.injEq, and_true] at he
  obtain ⟨rfl, rfl⟩ := he
  obtain ⟨flag, rfl⟩ := trod_one_bool g9
  obtain ⟨o, ho, he⟩ := op_of_trod (by simp) g10
  obtain ⟨re, rg, rd, wre, wrg, wrd, he2⟩ := reply_of_trod (by simp) g11
  simp only [List.cons.injEq, and_true] at he2
  obtain ⟨rfl, rfl, rfl⟩ := he2
  obtain ⟨ce, v1, L, wce, hL, he3⟩ := conf_of_trod (by simp) g12
  simp only [List.cons.injEq, and_true] at he3
  obtain ⟨rfl, rfl⟩ := he3
  obtain ⟨F, hF, wF⟩ := fires_of_trod g13
  refine ⟨⟨z0, z1, fn, fl, z4, z5, z6, z7, z8, z9, flag, o, re, rg, rd, ⟨ce, L⟩, F, z27⟩, _, _, MOk.mk' w0 w1 wn wl w4 w5 w6 w7 w8 w9 wre wrg wrd w27 wce ho wF, hL, hF, ?_⟩
  rw [msgCells, ← he]
  rfl
set_option maxRecDepth 100000 in
theorem open_msg {H : Type} {enc : TypeId × Value → H} {W : World} {base : Nat} {v : Value} {d : DataW H} {p : List MemPlace} (hv : Value.okWide Tryz.prog W .any base 40 v)
    (h : DataW.Trod enc Tryz.prog W 0 (fun _ => true) true 40 v d p) : ∃ M : MsgV, MOk M ∧ M.At W v := by
  obtain ⟨cs, rfl, hsz⟩ := okWide_struct Tryz.underlying40 hv
  obtain ⟨fuel, hf⟩ := h
  obtain ⟨M, v1, v2, hok, h1, h2, hc⟩ := msg_of_trod (cs := cs.toList) (by rw [Array.length_toList]; exact hsz.trans (by kernel_rfl)) hf
  exact ⟨M, hok, v1, v2, by rw [← hc], h1, h2⟩
end Go.Proofs.YtnaabaahfjklhaaGreat
namespace Go.Proofs.YtnaabaahfjklhaaGreat
open Go.RowKit Go.ChangeShapes Go.WideShapes Go.Joins Go.Deep
set_option linter.unusedVariables false

def fewM (M : MsgV) : Bool := decide (M.op.cron.length ≤ 1000) && (decide (M.cf.chain.length ≤ 40) && decide (M.fires.length ≤ 40))
theorem fewM_iff {M : MsgV} : fewM M = true ↔ M.op.cron.length ≤ 1000 ∧ M.cf.chain.length ≤ 40 ∧ M.fires.length ≤ 40 := by simp [fewM]
theorem msg_cells3 {M : MsgV} (h : M.op.v.length = 8) (v1 v2 : Value) : (msgCells M v1 v2)[20]? = some (.string ⟨M.op.cron.toArray⟩) ∧ (msgCells M v1 v2)[25]? = some v1 ∧ (msgCells M v1 v2)[26]? = some v2 := by
  obtain ⟨k, dst, fn, fl, ep, seq, req, cl, id, un, flag, op, re, rg, rd, cf, fires, life⟩ := M
  obtain ⟨ok, ov, oc⟩ := op
  obtain ⟨a1, a2, a3, a4, a5, a6, a7, a8, rfl⟩ := list8 h
  exact ⟨rfl, rfl, rfl⟩

set_option maxRecDepth 100000 in
set_option maxHeartbeats 1000000 in

theorem qfew_any {w : World} {M : MsgV} {v : Value} (hv : M.At w v) (hop : OpOk M.op) {b : Bool} (hb : fewM M = b) :
    Calls Tryz.prog 16 #[v] w fun en w' => en = .returned (.bool b) ∧ Below w.heap.size w w' := by
  obtain ⟨v1, v2, rfl, ⟨a1, cap1, rfl, hs⟩, ⟨a2, cap2, rfl, hfl, hfs⟩⟩ := hv
  have hl1 := hs.1
  have hl3 := hop.2.2.2
  unfold maxLen at hl1 hfl hl3
  obtain ⟨h20, h25, h26⟩ := msg_cells3 hop.1 (.slice a1 M.cf.chain.length cap1) (.slice a2 M.fires.length cap2)
  generalize msgCells M (.slice a1 M.cf.chain.length cap1) (.slice a2 M.fires.length cap2) = cs at *
  have hM := BlkAt.new w 40 cs
  have hbb := (Below.refl w.heap.size w).alloc (Nat.le_refl _) (.cells cs.toArray 40)
  clear hs hfs
  go_enter Tryz.func16, Tryz.ntmps16
  go_upto_region 1 with (fail)
  change Code.wp _ _ _ _ (w.alloc (.cells cs.toArray 40))
  change BlkAt (w.alloc (.cells cs.toArray 40)) _ _ _ at hM
  generalize w.alloc (.cells cs.toArray 40) = W at *
  obtain ⟨m, hm⟩ : ∃ m, m = w.heap.size := ⟨_, rfl⟩
  rw [← hm] at hM ⊢
  clear hm
  have c20 : W.cell? ⟨m, 20, none⟩ = some (.string ⟨M.op.cron.toArray⟩) := hM.cell h20
  have c25 : W.cell? ⟨m, 25, none⟩ = some (.slice a1 M.cf.chain.length cap1) := hM.cell h25
  have c26 : W.cell? ⟨m, 26, none⟩ = some (.slice a2 M.fires.length cap2) := hM.cell h26
  have HB := Lib.hid hb
  clear hb hop
  by_cases k1 : M.op.cron.length ≤ 1000
  · have k1' : (M.op.cron.length : Int) ≤ 1000 := by omega
    by_cases k2 : M.cf.chain.length ≤ 40
    · have k2' : (M.cf.chain.length : Int) ≤ 40 := by omega
      by_cases k3 : M.fires.length ≤ 40
      · have k3' : (M.fires.length : Int) ≤ 40 := by omega
        have HE := Lib.hid (show fewM M = true from fewM_iff.2 ⟨k1, k2, k3⟩)
        clear k1 k2 k3
        go_wp2_with fail
        go_ret
        exact ⟨by rw [← HB.out, HE.out]; rfl, hbb⟩
      · have k3' : ¬ (M.fires.length : Int) ≤ 40 := by omega
        have HE := Lib.hid (show fewM M = false from by rw [Bool.eq_false_iff]; exact fun h => k3 (fewM_iff.1 h).2.2)
        clear k1 k2 k3
        go_wp2_with fail
        go_ret
        exact ⟨by rw [← HB.out, HE.out]; rfl, hbb⟩
    · have k2' : ¬ (M.cf.chain.length : Int) ≤ 40 := by omega
      have HE := Lib.hid (show fewM M = false from by rw [Bool.eq_false_iff]; exact fun h => k2 (fewM_iff.1 h).2.1)
      clear k1 k2
      go_wp2_with fail
      go_ret
      exact ⟨by rw [← HB.out, HE.out]; rfl, hbb⟩
  · have k1' : ¬ (M.op.cron.length : Int) ≤ 1000 := by omega
    have HE := Lib.hid (show fewM M = false from by rw [Bool.eq_false_iff]; exact fun h => k1 (fewM_iff.1 h).1)
    clear k1
    go_wp2_with fail
    go_ret
    exact ⟨by rw [← HB.out, HE.out]; rfl, hbb⟩
end Go.Proofs.YtnaabaahfjklhaaGreat
