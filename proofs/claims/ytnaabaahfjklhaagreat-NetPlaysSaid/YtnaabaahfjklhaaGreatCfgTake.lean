/- The reading half of package config: count, Take, Read. -/
import Derived.Test.YtnaabaahfjklhaaGreatCfgPut
import Derived.Test.YtnaabaahfjklhaaGreatKCodec
namespace Go.Proofs.YtnaabaahfjklhaaGreat
open Go.RowKit Go.ChangeShapes Go.WideShapes Go.Joins
set_option linter.unusedVariables false

theorem fst_E (e x : Int) : fst_ e x = fstE e x := rfl
set_option maxRecDepth 100000 in
set_option maxHeartbeats 1000000 in

theorem ccount_any {w : World} {b : Nat} {l : List UInt8} {e : Int} (h : RdAt w b l e) (hl : l.length ≤ 1000000) :
    Calls Tryz.prog 103 #[.pointer (some ⟨b, 0, none⟩)] w fun en w' => en = .returned (.int .i64 (cntC l e).1) ∧ RdAt w' b (cntC l e).2.1 (cntC l e).2.2 ∧ w.grownBy w' (some b) := by
  have hc := cntC.eq_1 l e
  have HL := Lib.hid (rdU_len l e)
  have hr := ruint_any h hl
  obtain ⟨n, l1, e1, hu⟩ : ∃ n l1 e1, rdU l e = (n, l1, e1) := ⟨_, _, _, rfl⟩
  rw [hu] at hc hr
  simp only at hc hr
  go_enter Tryz.func103, Tryz.ntmps103
  by_cases hn : 1099511627776 < n
  · rw [if_pos hn] at hc
    have HC := Lib.hid hc
    have hn' : (1099511627776 : Int) < (n : Int) := by omega
    clear hc hu hn
    go_wp2_with fail
    refine hr.mono ?_
    rintro en w1 ⟨rfl, hR, hg⟩
    go_wp2_with fail
    refine (fail_any hR).mono ?_
    rintro en w2 ⟨rfl, hR2, hg2⟩
    go_wp2_with fail
    go_ret
    rw [HC.out]
    exact ⟨rfl, hR2, grown_two hg hg2⟩
  · rw [if_neg hn] at hc
    have HC := Lib.hid hc
    have hn' : ¬ (1099511627776 : Int) < (n : Int) := by omega
    have hn1 : (0 : Int) ≤ (n : Int) := by omega
    have hn2 : (n : Int) ≤ 1099511627776 := by omega
    clear hc hu hn
    go_wp2_with fail
    refine hr.mono ?_
    rintro en w1 ⟨rfl, hR, hg⟩
    go_wp2_with fail
    go_ret
    rw [HC.out]
    exact ⟨rfl, hR, hg⟩
theorem ccount_at {w : World} {b : Nat} {l l' : List UInt8} {e e' : Int} {n : Nat} (h : RdAt w b l e) (hl : l.length ≤ 1000000) (hc : cntC l e = (n, l', e')) :
    Calls Tryz.prog 103 #[.pointer (some ⟨b, 0, none⟩)] w fun en w' => en = .returned (.int .i64 n) ∧ RdAt w' b l' e' ∧ w.grownBy w' (some b) := by
  have := ccount_any h hl
  rw [hc] at this
  exact this
theorem rbyte_at {w : World} {b : Nat} {l l' : List UInt8} {e e' : Int} {n : Nat} (h : RdAt w b l e) (hl : l.length ≤ 1000000) (hc : rdB l e = (n, l', e')) :
    Calls Tryz.prog 62 #[.pointer (some ⟨b, 0, none⟩)] w fun en w' => en = .returned (.int .u8 n) ∧ RdAt w' b l' e' ∧ w.grownBy w' (some b) := by
  have := rbyte_any h hl
  rw [hc] at this
  exact this
theorem RdAt.alloc {w : World} {b : Nat} {l : List UInt8} {e : Int} (h : RdAt w b l e) (o : Obj) : RdAt (w.alloc o) b l e := h.below ((Below.refl _ _).alloc (Nat.le_refl _) o)
theorem own_far {w w' : World} {base D : Nat} {e : TypeId} {size : Nat} {v : Value} {n : Nat} {xs : List Value} (h : w.ownsRow base e size v n xs) (hg : w.grownBy w' (some D)) (hD : D < base) : w'.ownsRow base e size v n xs :=
  h.kept hg (.inr (own_ne h hD).symm)

theorem own_farN {w w' : World} {base S : Nat} {e : TypeId} {size : Nat} {v : Value} {n : Nat} {xs : List Value} (h : w.ownsRow base e size v n xs) (hg : w.grownBy w' (some S)) (hS : some S ≠ v.ownBlock) : w'.ownsRow base e size v n xs :=
  h.kept hg (.inr hS.symm)
theorem grown_own {w w1 w2 : World} {row : Option Nat} {r : Option Nat} (h : w.grownBy w1 row) (g : w1.grownBy w2 r) (hr : ∀ k, r = some k → w.heap.size ≤ k) : w.grownBy w2 row :=
  ⟨g.os.trans h.os, g.tape.trans h.tape, g.output.trans h.output, Nat.le_trans h.size g.size, fun k hk hne => (g.block k (Nat.lt_of_lt_of_le hk h.size) (fun e => by have := hr k e.symm; omega)).trans (h.block k hk hne)⟩
/-- A chain whose block is new. -/
def ChainFrom (n : Nat) (w : World) (v : Value) (L : List SeatV) : Prop := ChainAt w v L ∧ ∀ k, v.ownBlock = some k → n ≤ k
theorem ChainFrom.nil (n : Nat) (w : World) : ChainFrom n w (.slice none 0 0) [] := ⟨ChainAt.nil w, by simp [Value.ownBlock]⟩
theorem ChainFrom.own {n base : Nat} {w : World} {e : TypeId} {v : Value} {L : List SeatV} (h : w.ownsRow base e 3 v L.length (seatsCells L)) (hok : ∀ s ∈ L, SeatOk s) (hn : n ≤ base) : ChainFrom n w v L :=
  ⟨chain_of_own h hok, fun k hk => Nat.le_trans hn (h.lt k hk).1⟩
set_option maxRecDepth 100000 in
set_option maxHeartbeats 4000000 in

theorem ctake_own {w : World} {b : Nat} {l l' : List UInt8} {e e' : Int} {c : ConfV} (h : RdAt w b l e) (hl : l.length ≤ 1000000) (hT : takeC l e = (c, l', e')) :
    Calls Tryz.prog 95 #[.pointer (some ⟨b, 0, none⟩)] w fun en w' => ∃ v, en = .returned (.agg #[.int .i64 c.epoch, v]) ∧ ChainFrom w.heap.size w' v c.chain ∧ RdAt w' b l' e' ∧ w.grownBy w' (some b) := by
  obtain ⟨i0, hi0, hz0, hz1, hz2⟩ := info_parts seat_full
  obtain ⟨n1, l1, e1, h1⟩ : ∃ n1 l1 e1, cntC l e = (n1, l1, e1) := ⟨_, _, _, rfl⟩
  obtain ⟨n2, l2, e2, h2⟩ : ∃ n2 l2 e2, cntC l1 e1 = (n2, l2, e2) := ⟨_, _, _, rfl⟩
  obtain ⟨L, l3, e3, h3⟩ : ∃ L l3 e3, takeN n2 l2 e2 = (L, l3, e3) := ⟨_, _, _, rfl⟩
  rw [takeC_of h1 h2 h3] at hT
  have hl1 := cntC_len l e
  rw [h1] at hl1
  have hl2 := cntC_len l1 e1
  rw [h2] at hl2
  have hn1 := cntC_le l e
  rw [h1] at hn1
  simp only at hl1 hl2 hn1
  have H1 := Lib.hid h1
  have H2 := Lib.hid h2
  have H3 := Lib.hid h3
  have HT := Lib.hid hT
  have hbl := h.lt
  clear h1 h2 h3 hT
  go_enter Tryz.func95, Tryz.ntmps95
  go_upto_region 1 with (fail)
  have hD := BlkAt.new w 37 [.int .i64 0, .slice none 0 0]
  have hR := h.alloc (.cells #[.int .i64 0, .slice none 0 0] 37)
  have hg : w.grownBy (w.alloc (.cells #[.int .i64 0, .slice none 0 0] 37)) (some b) := (World.grownBy.refl w _).trans (World.grownBy_alloc w _ _)
  have hsz : w.heap.size + 1 ≤ (w.alloc (.cells #[.int .i64 0, .slice none 0 0] 37)).heap.size := by simp
  change Code.wp _ _ _ _ (w.alloc (.cells #[.int .i64 0, .slice none 0 0] 37))
  change BlkAt (w.alloc (.cells #[.int .i64 0, .slice none 0 0] 37)) _ _ _ at hD
  generalize w.alloc (.cells #[.int .i64 0, .slice none 0 0] 37) = w0 at *
  generalize hDD : w.heap.size = D at hD hsz hbl ⊢
  have hDw : w.heap.size ≤ D := Nat.le_of_eq hDD
  clear hDD
  have hDb : D ≠ b := by omega
  go_wp2_with fail
  refine (ccount_at (by exact hR) hl H1.out).mono ?_
  rintro en w1 ⟨rfl, hR, hg1⟩
  have hD := hD.grown hg1 hDb
  have hg := hg.trans hg1
  have hsz : D + 1 ≤ w1.heap.size := by have := hg1.size; omega
  clear hg1
  have d0 : w1.cell? ⟨D, 0, none⟩ = some (.int .i64 0) := hD.cell rfl
  have hf := hD.free 0
  go_upto_region 2 with (fail)
  have hD := hD.set 0 (.int .i64 n1)
  have hR := hR.grown (grown_setCell w1 D 0 (.int .i64 n1)) hDb.symm
  have hg := grown_far hg (grown_setCell w1 D 0 (.int .i64 n1)) hDw
  have hsz : D + 1 ≤ (w1.setCell ⟨D, 0, none⟩ (.int .i64 n1)).heap.size := by simpa [World.setCell] using hsz
  change Code.wp _ _ _ _ (w1.setCell ⟨D, 0, none⟩ (.int .i64 n1))
  change BlkAt _ D 37 [.int .i64 n1, .slice none 0 0] at hD
  generalize w1.setCell ⟨D, 0, none⟩ (.int .i64 n1) = w2 at *
  clear d0 hf
  go_wp2_with fail
  refine (ccount_at (by exact hR) (by omega) H2.out).mono ?_
  rintro en w3 ⟨rfl, hR, hg1⟩
  have hD := hD.grown hg1 hDb
  have hg := hg.trans hg1
  have hsz : D + 1 ≤ w3.heap.size := by have := hg1.size; omega
  clear hg1
  by_cases hn8 : 8 < n2
  · rw [if_pos hn8] at HT
    have hn8' : (8 : Int) < (n2 : Int) := by omega
    clear hn8
    go_wp2_with fail
    refine (fail_any hR).mono ?_
    rintro en w4 ⟨rfl, hR, hg1⟩
    have hD := hD.grown hg1 hDb
    have hg := hg.trans hg1
    have d0 : w4.cell? ⟨D, 0, none⟩ = some (.int .i64 n1) := hD.cell rfl
    have d1 : w4.cell? ⟨D, 1, none⟩ = some (.slice none 0 0) := hD.cell rfl
    have hf := hD.free
    clear hg1
    go_wp2_with fail
    have hE := (hD.set 0 (.int .i64 0)).set 1 (.slice none 0 0)
    have hR := (hR.grown (grown_setCell w4 D 0 (.int .i64 0)) hDb.symm).grown (grown_setCell _ D 1 (.slice none 0 0)) hDb.symm
    have hg := grown_far (grown_far hg (grown_setCell w4 D 0 (.int .i64 0)) hDw) (grown_setCell _ D 1 (.slice none 0 0)) hDw
    change BlkAt _ D 37 [.int .i64 0, .slice none 0 0] at hE
    change bodyPost _ _ _ _ _ ((w4.setCell ⟨D, 0, none⟩ (.int .i64 0)).setCell ⟨D, 1, none⟩ (.slice none 0 0))
    generalize (w4.setCell ⟨D, 0, none⟩ (.int .i64 0)).setCell ⟨D, 1, none⟩ (.slice none 0 0) = w9 at *
    clear d0 d1
    have d0 := hE.cell (i := 0) rfl
    have d1 := hE.cell (i := 1) rfl
    have HT := HT.out
    simp only [Prod.mk.injEq] at HT
    obtain ⟨rfl, rfl, rfl⟩ := HT
    exact bodyPost_ret (v := .agg #[.int .i64 0, .slice none 0 0]) (by simp [results, Tryz.results95, go_sem, d0, d1] <;> rfl) rfl ⟨_, rfl, ChainFrom.nil _ _, hR, hg⟩
  · rw [if_neg hn8] at HT
    have hn8' : ¬ (8 : Int) < (n2 : Int) := by omega
    go_wp2_with fail
    go_loopw [17] (fun i wr => ∃ (k : Nat) (v : Value), k ≤ n2 ∧ i = .int .i64 k ∧ BlkAt wr D 37 [.int .i64 n1, v] ∧ wr.ownsRow (D + 1) 97 3 v k (seatsCells (takeN k l2 e2).1) ∧ RdAt wr b (takeN k l2 e2).2.1 (takeN k l2 e2).2.2 ∧ w.grownBy wr (some b) ∧ D + 1 ≤ wr.heap.size) (fun i _ => n2 - (intOf i).toNat)
    case atStart => exact ⟨0, .slice none 0 0, Nat.zero_le _, rfl, hD, World.ownsRow_nil _ _ _ _, hR, hg, hsz⟩
    case round =>
      obtain ⟨k, v, hk, rfl, hD, hown, hR, hg, hsz⟩ := hrel
      have hll := takeN_len k l2 e2
      by_cases hlt : k < n2
      · have HN := Lib.hid (show takeN (k + 1) l2 e2 = ((takeN k l2 e2).1 ++ [(seat1 (takeN k l2 e2).2.1 (takeN k l2 e2).2.2).1], (seat1 (takeN k l2 e2).2.1 (takeN k l2 e2).2.2).2) from rfl)
        obtain ⟨P, q, x, hP⟩ : ∃ P q x, takeN k l2 e2 = (P, q, x) := ⟨_, _, _, rfl⟩
        rw [hP] at hown hR hll HN
        simp only at hown hR hll HN
        obtain ⟨m1, q1, x1, hm1⟩ : ∃ m1 q1 x1, cntC q x = (m1, q1, x1) := ⟨_, _, _, rfl⟩
        obtain ⟨m2, q2, x2, hm2⟩ : ∃ m2 q2 x2, cntC q1 x1 = (m2, q2, x2) := ⟨_, _, _, rfl⟩
        obtain ⟨m3, q3, x3, hm3⟩ : ∃ m3 q3 x3, rdB q2 x2 = (m3, q3, x3) := ⟨_, _, _, rfl⟩
        have hs1 := seat1_of hm1 hm2 hm3
        rw [hs1] at HN
        have hq1 := cntC_len q x
        rw [hm1] at hq1
        have hq2 := cntC_len q1 x1
        rw [hm2] at hq2
        simp only at HN hq1 hq2
        have HM1 := Lib.hid hm1
        have HM2 := Lib.hid hm2
        have HM3 := Lib.hid hm3
        clear hm1 hm2 hm3 hs1 hP
        go_wp2_with fail
        refine (ccount_at (by exact hR) (by omega) HM1.out).mono ?_
        rintro en w4 ⟨rfl, hR, hg1⟩
        have hD := hD.grown hg1 hDb
        have hown := own_far hown hg1 (by omega)
        have hg := hg.trans hg1
        have hsz : D + 1 ≤ w4.heap.size := by have := hg1.size; omega
        clear hg1
        go_wp2_with fail
        refine (ccount_at (by exact hR) (by omega) HM2.out).mono ?_
        rintro en w5 ⟨rfl, hR, hg1⟩
        have hD := hD.grown hg1 hDb
        have hown := own_far hown hg1 (by omega)
        have hg := hg.trans hg1
        have hsz : D + 1 ≤ w5.heap.size := by have := hg1.size; omega
        clear hg1
        go_upto_region 9 with (fail)
        have hSn : some w5.heap.size ≠ v.ownBlock := fun he => by have := (hown.lt _ he.symm).2; omega
        have hS := BlkAt.new w5 97 [.int .i64 m1, .int .i64 m2, .bool false]
        have hD := hD.alloc (.cells #[.int .i64 m1, .int .i64 m2, .bool false] 97)
        have hR := hR.alloc (.cells #[.int .i64 m1, .int .i64 m2, .bool false] 97)
        have hown := hown.alloc (.cells #[.int .i64 m1, .int .i64 m2, .bool false] 97)
        have hg := grown_alloc hg (.cells #[.int .i64 m1, .int .i64 m2, .bool false] 97)
        have hszq : D + 1 ≤ (w5.alloc (.cells #[.int .i64 m1, .int .i64 m2, .bool false] 97)).heap.size := by simp; omega
        have hSD : D ≠ w5.heap.size := by omega
        have hSb : w5.heap.size ≠ b := by omega
        have hSw : w.heap.size ≤ w5.heap.size := by omega
        clear hsz
        have hsz := hszq
        clear hszq
        change Code.wp _ _ _ _ (w5.alloc (.cells #[.int .i64 m1, .int .i64 m2, .bool false] 97))
        generalize w5.alloc (.cells #[.int .i64 m1, .int .i64 m2, .bool false] 97) = w6 at *
        generalize w5.heap.size = S at *
        go_wp2_with fail
        refine (rbyte_at (by exact hR) (by omega) HM3.out).mono ?_
        rintro en w7 ⟨rfl, hR, hg1⟩
        have hD := hD.grown hg1 hDb
        have hS := hS.grown hg1 hSb
        have hown := own_far hown hg1 (by omega)
        have hg := hg.trans hg1
        have hszq : D + 1 ≤ w7.heap.size := by have := hg1.size; omega
        clear hg1 hsz
        have hsz := hszq
        clear hszq
        obtain ⟨q5, hq5⟩ : ∃ q5, q5 = decide (m3 = 1) := ⟨_, rfl⟩
        have hqq : ((m3 : Int) == 1) = q5 := by rw [hq5, Bool.eq_iff_iff]; simp; omega
        rw [← hq5] at HN
        clear hq5
        by_cases hm : 1 < m3
        · have hm' : (1 : Int) < (m3 : Int) := by omega
          rw [if_pos hm] at HN
          have HQ := Lib.hid hqq
          clear hm hqq
          go_wp2_with fail
          refine (fail_any hR).mono ?_
          rintro en w7b ⟨rfl, hR, hg1⟩
          have hD := hD.grown hg1 hDb
          have hS := hS.grown hg1 hSb
          have hown := own_far hown hg1 (by omega)
          have hg := hg.trans hg1
          have hszq : D + 1 ≤ w7b.heap.size := by have := hg1.size; omega
          clear hg1 hsz
          have hsz := hszq
          clear hszq
          have hqq := HQ.out
          have s2 : w7b.cell? ⟨S, 2, none⟩ = some (.bool false) := hS.cell rfl
          have hf := hS.free 2
          go_upto_region 13 with (fail)
          have hS := hS.set 2 (.bool q5)
          have hD := hD.grown (grown_setCell w7b S 2 (.bool q5)) hSD
          have hR := hR.grown (grown_setCell w7b S 2 (.bool q5)) hSb.symm
          have hown := own_farN hown (grown_setCell w7b S 2 (.bool q5)) hSn
          have hg := grown_far hg (grown_setCell w7b S 2 (.bool q5)) hSw
          have hszq : D + 1 ≤ (w7b.setCell ⟨S, 2, none⟩ (.bool q5)).heap.size := by simpa [World.setCell] using hsz
          clear hsz
          have hsz := hszq
          clear hszq
          change Code.wp _ _ _ _ (w7b.setCell ⟨S, 2, none⟩ (.bool q5))
          change BlkAt _ S 97 (seatCells ⟨m1, m2, q5⟩) at hS
          generalize w7b.setCell ⟨S, 2, none⟩ (.bool q5) = w8 at *
          clear s2 hf
          have s0 : w8.cell? ⟨S, 0, none⟩ = some (.int .i64 m1) := hS.cell rfl
          have s1 : w8.cell? ⟨S, 1, none⟩ = some (.int .i64 m2) := hS.cell rfl
          have s2 : w8.cell? ⟨S, 2, none⟩ = some (.bool q5) := hS.cell rfl
          have d1 : w8.cell? ⟨D, 1, none⟩ = some v := hD.cell rfl
          go_wp2_with (at_builtin; refine wpList_append_lies _ rfl (.tmp 35) (.tmp 37) 35 rfl (D + 1) 97 i0 _ 3 24 Tryz.underlying35 hi0 hz0 hz1 hz2 rfl (by omega) _ _ _ rfl (hown.alloc _) ⟨w8.heap.size, 0, none⟩ 1 1 (seatCells ⟨m1, m2, q5⟩) rfl rfl ?c1 ?c2 (by omega) ?c3 ?c4 ?c5 (w8.heap.size + 1) (by simp) ?_)
          case c1 => first | exact World.news_of_block (heap_alloc_new _ _) | exact fun _ _ h => h
          case c2 => exact seatCells_one
          case c3 => unfold maxLen; omega
          case c4 => omega
          case c5 => first | omega | (simp; omega)
          intro g' cap' w' hown' hg' hat' hlt'
          have hneD := own_ne hown (D := D) (by omega)
          have hDl := hD.lt
          have hRl := hR.lt
          have hD2 : BlkAt w' D 37 [.int .i64 n1, v] := (hg'.block _ (by simp; omega) hneD).trans (hD.alloc (.cells (seatCells ⟨m1, m2, q5⟩).toArray 97))
          have hneb := own_ne hown (D := b) (by omega)
          have hR2 : RdAt w' b q3 (fst_ x3 3) := (hg'.block _ (by simp; omega) hneb).trans (hR.alloc (.cells (seatCells ⟨m1, m2, q5⟩).toArray 97))
          have hgw : w.grownBy w' (some b) := grown_own (grown_alloc hg (.cells (seatCells ⟨m1, m2, q5⟩).toArray 97)) hg' (fun j hj => by have := (hown.lt j hj).1; omega)
          have hsz2 : D + 1 ≤ w'.heap.size := by have := hg'.size; simp at this; omega
          clear hg' hat' hD hR hown hg hsz s0 s1 s2 d1 hS
          have d1 : w'.cell? ⟨D, 1, none⟩ = some v := hD2.cell rfl
          have hf := hD2.free 1
          go_wp2_with fail
          go_roundw
          case rel => exact ⟨k + 1, _, by omega, by go_num, hD2.set 1 _, by rw [HN.out, seatsCells_snoc]; exact own_set hown' (by omega), by rw [HN.out]; exact hR2.grown (grown_setCell w' D 1 _) hDb.symm, grown_far hgw (grown_setCell w' D 1 _) hDw, by simp [World.setCell]; omega⟩
          case measure => simp [intOf]; omega
        · have hm' : ¬ (1 : Int) < (m3 : Int) := by omega
          rw [if_neg hm] at HN
          have s2 : w7.cell? ⟨S, 2, none⟩ = some (.bool false) := hS.cell rfl
          have hf := hS.free 2
          clear hm
          go_upto_region 13 with (fail)
          have hS := hS.set 2 (.bool q5)
          have hD := hD.grown (grown_setCell w7 S 2 (.bool q5)) hSD
          have hR := hR.grown (grown_setCell w7 S 2 (.bool q5)) hSb.symm
          have hown := own_farN hown (grown_setCell w7 S 2 (.bool q5)) hSn
          have hg := grown_far hg (grown_setCell w7 S 2 (.bool q5)) hSw
          have hszq : D + 1 ≤ (w7.setCell ⟨S, 2, none⟩ (.bool q5)).heap.size := by simpa [World.setCell] using hsz
          clear hsz
          have hsz := hszq
          clear hszq
          change Code.wp _ _ _ _ (w7.setCell ⟨S, 2, none⟩ (.bool q5))
          change BlkAt _ S 97 (seatCells ⟨m1, m2, q5⟩) at hS
          generalize w7.setCell ⟨S, 2, none⟩ (.bool q5) = w8 at *
          clear s2 hf
          have s0 : w8.cell? ⟨S, 0, none⟩ = some (.int .i64 m1) := hS.cell rfl
          have s1 : w8.cell? ⟨S, 1, none⟩ = some (.int .i64 m2) := hS.cell rfl
          have s2 : w8.cell? ⟨S, 2, none⟩ = some (.bool q5) := hS.cell rfl
          have d1 : w8.cell? ⟨D, 1, none⟩ = some v := hD.cell rfl
          go_wp2_with (at_builtin; refine wpList_append_lies _ rfl (.tmp 35) (.tmp 37) 35 rfl (D + 1) 97 i0 _ 3 24 Tryz.underlying35 hi0 hz0 hz1 hz2 rfl (by omega) _ _ _ rfl (hown.alloc _) ⟨w8.heap.size, 0, none⟩ 1 1 (seatCells ⟨m1, m2, q5⟩) rfl rfl ?c1 ?c2 (by omega) ?c3 ?c4 ?c5 (w8.heap.size + 1) (by simp) ?_)
          case c1 => first | exact World.news_of_block (heap_alloc_new _ _) | exact fun _ _ h => h
          case c2 => exact seatCells_one
          case c3 => unfold maxLen; omega
          case c4 => omega
          case c5 => first | omega | (simp; omega)
          intro g' cap' w' hown' hg' hat' hlt'
          have hneD := own_ne hown (D := D) (by omega)
          have hDl := hD.lt
          have hRl := hR.lt
          have hD2 : BlkAt w' D 37 [.int .i64 n1, v] := (hg'.block _ (by simp; omega) hneD).trans (hD.alloc (.cells (seatCells ⟨m1, m2, q5⟩).toArray 97))
          have hneb := own_ne hown (D := b) (by omega)
          have hR2 : RdAt w' b q3 x3 := (hg'.block _ (by simp; omega) hneb).trans (hR.alloc (.cells (seatCells ⟨m1, m2, q5⟩).toArray 97))
          have hgw : w.grownBy w' (some b) := grown_own (grown_alloc hg (.cells (seatCells ⟨m1, m2, q5⟩).toArray 97)) hg' (fun j hj => by have := (hown.lt j hj).1; omega)
          have hsz2 : D + 1 ≤ w'.heap.size := by have := hg'.size; simp at this; omega
          clear hg' hat' hD hR hown hg hsz s0 s1 s2 d1 hS
          have d1 : w'.cell? ⟨D, 1, none⟩ = some v := hD2.cell rfl
          have hf := hD2.free 1
          go_wp2_with fail
          go_roundw
          case rel => exact ⟨k + 1, _, by omega, by go_num, hD2.set 1 _, by rw [HN.out, seatsCells_snoc]; exact own_set hown' (by omega), by rw [HN.out]; exact hR2.grown (grown_setCell w' D 1 _) hDb.symm, grown_far hgw (grown_setCell w' D 1 _) hDw, by simp [World.setCell]; omega⟩
          case measure => simp [intOf]; omega
      · obtain rfl : k = n2 := by omega
        rw [H3.out] at hown hR
        simp only at hown hR
        have hlo := hll.2
        rw [H3.out] at hlo
        simp only at hlo
        subst hlo
        have hok := takeN_ok L.length l2 e2
        rw [H3.out] at hok
        simp only at hok
        have hcv := chain_of_own hown hok
        have HOK := Lib.hid hok
        clear hok hll
        obtain ⟨A, capv, rfl⟩ := own_form hown
        have d0 : wr.cell? ⟨D, 0, none⟩ = some (.int .i64 n1) := hD.cell rfl
        have d1 : wr.cell? ⟨D, 1, none⟩ = some (.slice A L.length capv) := hD.cell rfl
        go_wp2_with fail
        refine (cright_any (by exact hcv) n1).mono ?_
        rintro en w4 ⟨rfl, b4⟩
        have hD := hD.below b4
        have hR := hR.below b4
        have hown := own_below hown b4
        have hg := hg.trans (below_any' (row := some b) b4)
        clear b4 d0 d1 hsz hcv
        cases hr : rightC ⟨n1, L⟩ with
        | false =>
          rw [hr] at HT
          have HT := Lib.hid (show ((confZero : ConfV), l3, fstE e3 3) = (c, l', e') by
            have := HT.out
            simp only [Bool.false_eq_true, if_false] at this
            rw [if_neg (fstE_ne (by decide))] at this
            exact this)
          have hne : ¬ fstE e3 3 = 0 := fstE_ne (by decide)
          have hnb : (fstE e3 3 != 0) = true := by simpa using hne
          clear hr
          go_wp2_with fail
          refine (fail_any hR).mono ?_
          rintro en w5 ⟨rfl, hR, hg1⟩
          have hD := hD.grown hg1 hDb
          have hg := hg.trans hg1
          rw [fst_E] at hR
          generalize fstE e3 3 = x at *
          clear hg1
          go_wp2_with fail
          refine (err_any hR).mono ?_
          rintro en w6 ⟨rfl, rfl⟩
          have d0 : w5.cell? ⟨D, 0, none⟩ = some (.int .i64 n1) := hD.cell rfl
          have d1 : w5.cell? ⟨D, 1, none⟩ = some (.slice A L.length capv) := hD.cell rfl
          have hf := hD.free
          clear hown
          go_wp2_with fail
          have hE := (hD.set 0 (.int .i64 0)).set 1 (.slice none 0 0)
          have hR := (hR.grown (grown_setCell w5 D 0 (.int .i64 0)) hDb.symm).grown (grown_setCell _ D 1 (.slice none 0 0)) hDb.symm
          have hg := grown_far (grown_far hg (grown_setCell w5 D 0 (.int .i64 0)) hDw) (grown_setCell _ D 1 (.slice none 0 0)) hDw
          change BlkAt _ D 37 [.int .i64 0, .slice none 0 0] at hE
          change bodyPost _ _ _ _ _ ((w5.setCell ⟨D, 0, none⟩ (.int .i64 0)).setCell ⟨D, 1, none⟩ (.slice none 0 0))
          generalize (w5.setCell ⟨D, 0, none⟩ (.int .i64 0)).setCell ⟨D, 1, none⟩ (.slice none 0 0) = w9 at *
          clear d0 d1
          have d0 := hE.cell (i := 0) rfl
          have d1 := hE.cell (i := 1) rfl
          have HT := HT.out
          simp only [Prod.mk.injEq] at HT
          obtain ⟨rfl, rfl, rfl⟩ := HT
          exact bodyPost_ret (v := .agg #[.int .i64 0, .slice none 0 0]) (by simp [results, Tryz.results95, go_sem, d0, d1] <;> rfl) rfl ⟨_, rfl, ChainFrom.nil _ _, hR, hg⟩
        | true =>
          rw [hr] at HT
          simp only [if_true] at HT
          clear hr
          by_cases h3 : e3 = 0
          · subst h3
            have HT := Lib.hid (show ((⟨n1, L⟩ : ConfV), l3, (0 : Int)) = (c, l', e') by
              have := HT.out
              rwa [if_pos rfl] at this)
            go_wp2_with fail
            refine (err_any hR).mono ?_
            rintro en w6 ⟨rfl, rfl⟩
            have d0 : w4.cell? ⟨D, 0, none⟩ = some (.int .i64 n1) := hD.cell rfl
            have d1 : w4.cell? ⟨D, 1, none⟩ = some (.slice A L.length capv) := hD.cell rfl
            have hf := hD.free
            have hoE := own_set (D := D) (i := 1) (u := .slice A L.length capv) (own_set (D := D) (i := 0) (u := .int .i64 n1) hown (by omega)) (by omega)
            go_wp2_with fail
            have hE := (hD.set 0 (.int .i64 n1)).set 1 (.slice A L.length capv)
            have hR := (hR.grown (grown_setCell w4 D 0 (.int .i64 n1)) hDb.symm).grown (grown_setCell _ D 1 (.slice A L.length capv)) hDb.symm
            have hg := grown_far (grown_far hg (grown_setCell w4 D 0 (.int .i64 n1)) hDw) (grown_setCell _ D 1 (.slice A L.length capv)) hDw
            change BlkAt _ D 37 [.int .i64 n1, .slice A L.length capv] at hE
            change bodyPost _ _ _ _ _ ((w4.setCell ⟨D, 0, none⟩ (.int .i64 n1)).setCell ⟨D, 1, none⟩ (.slice A L.length capv))
            generalize (w4.setCell ⟨D, 0, none⟩ (.int .i64 n1)).setCell ⟨D, 1, none⟩ (.slice A L.length capv) = w9 at *
            clear d0 d1
            have d0 := hE.cell (i := 0) rfl
            have d1 := hE.cell (i := 1) rfl
            have HT := HT.out
            simp only [Prod.mk.injEq] at HT
            obtain ⟨rfl, rfl, rfl⟩ := HT
            exact bodyPost_ret (v := .agg #[.int .i64 n1, .slice A L.length capv]) (by simp [results, Tryz.results95, go_sem, d0, d1] <;> rfl) rfl ⟨_, rfl, ChainFrom.own hoE HOK.out (by omega), hR, hg⟩
          · have hnb : (e3 != 0) = true := by simpa using h3
            have HT := Lib.hid (show ((confZero : ConfV), l3, e3) = (c, l', e') by
              have := HT.out
              rwa [if_neg h3] at this)
            go_wp2_with fail
            refine (err_any hR).mono ?_
            rintro en w6 ⟨rfl, rfl⟩
            have d0 : w4.cell? ⟨D, 0, none⟩ = some (.int .i64 n1) := hD.cell rfl
            have d1 : w4.cell? ⟨D, 1, none⟩ = some (.slice A L.length capv) := hD.cell rfl
            have hf := hD.free
            clear hown
            go_wp2_with fail
            have hE := (hD.set 0 (.int .i64 0)).set 1 (.slice none 0 0)
            have hR := (hR.grown (grown_setCell w4 D 0 (.int .i64 0)) hDb.symm).grown (grown_setCell _ D 1 (.slice none 0 0)) hDb.symm
            have hg := grown_far (grown_far hg (grown_setCell w4 D 0 (.int .i64 0)) hDw) (grown_setCell _ D 1 (.slice none 0 0)) hDw
            change BlkAt _ D 37 [.int .i64 0, .slice none 0 0] at hE
            change bodyPost _ _ _ _ _ ((w4.setCell ⟨D, 0, none⟩ (.int .i64 0)).setCell ⟨D, 1, none⟩ (.slice none 0 0))
            generalize (w4.setCell ⟨D, 0, none⟩ (.int .i64 0)).setCell ⟨D, 1, none⟩ (.slice none 0 0) = w9 at *
            clear d0 d1
            have d0 := hE.cell (i := 0) rfl
            have d1 := hE.cell (i := 1) rfl
            have HT := HT.out
            simp only [Prod.mk.injEq] at HT
            obtain ⟨rfl, rfl, rfl⟩ := HT
            exact bodyPost_ret (v := .agg #[.int .i64 0, .slice none 0 0]) (by simp [results, Tryz.results95, go_sem, d0, d1] <;> rfl) rfl ⟨_, rfl, ChainFrom.nil _ _, hR, hg⟩
theorem ctake_at {w : World} {b : Nat} {l l' : List UInt8} {e e' : Int} {c : ConfV} (h : RdAt w b l e) (hl : l.length ≤ 1000000) (hT : takeC l e = (c, l', e')) :
    Calls Tryz.prog 95 #[.pointer (some ⟨b, 0, none⟩)] w fun en w' => ∃ v, en = .returned (.agg #[.int .i64 c.epoch, v]) ∧ ChainAt w' v c.chain ∧ RdAt w' b l' e' ∧ w.grownBy w' (some b) := by
  refine (ctake_own h hl hT).mono ?_
  rintro en w' ⟨v, rfl, hv, h1, h2⟩
  exact ⟨v, rfl, hv.1, h1, h2⟩
end Go.Proofs.YtnaabaahfjklhaaGreat
