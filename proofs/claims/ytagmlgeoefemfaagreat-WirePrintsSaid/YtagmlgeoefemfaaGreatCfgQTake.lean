/- The document's count and Take. -/
import Derived.Test.YtagmlgeoefemfaaGreatCfgTake
import Derived.Test.YtagmlgeoefemfaaGreatKCodec
namespace Go.Proofs.YtagmlgeoefemfaaGreat
open Go.RowKit Go.ChangeShapes Go.WideShapes Go.Joins
set_option linter.unusedVariables false

theorem RfAt.alloc {w : World} {b : Nat} {S : List UInt8} {a : Nat} {e : Int} (h : RfAt w b S a e) (o : Obj) : RfAt (w.alloc o) b S a e := h.below ((Below.refl _ _).alloc (Nat.le_refl _) o)
/-- Where the document's reader stands. -/
def RfOn (w : World) (b : Nat) (S l : List UInt8) (e : Int) : Prop := ∃ a, a ≤ S.length ∧ S.drop a = l ∧ RfAt w b S a e
theorem RfOn.below {w w' : World} {b : Nat} {S l : List UInt8} {e : Int} (h : RfOn w b S l e) (hb : Below w.heap.size w w') : RfOn w' b S l e := by
  obtain ⟨a, h1, h2, h3⟩ := h
  exact ⟨a, h1, h2, h3.below hb⟩
theorem RfOn.alloc {w : World} {b : Nat} {S l : List UInt8} {e : Int} (h : RfOn w b S l e) (o : Obj) : RfOn (w.alloc o) b S l e := h.below ((Below.refl _ _).alloc (Nat.le_refl _) o)
theorem RfOn.grown {w w' : World} {b c : Nat} {S l : List UInt8} {e : Int} (h : RfOn w b S l e) (hg : w.grownBy w' (some c)) (hne : b ≠ c) : RfOn w' b S l e := by
  obtain ⟨a, h1, h2, h3⟩ := h
  exact ⟨a, h1, h2, h3.grown hg hne⟩
theorem RfOn.kept {w w' : World} {b : Nat} {S l : List UInt8} {e : Int} (h : RfOn w b S l e) {r : Option Nat} (hg : w.grownBy w' r) (hne : some b ≠ r) : RfOn w' b S l e := by
  obtain ⟨a, h1, h2, h3⟩ := h
  exact ⟨a, h1, h2, (hg.block _ h3.lt hne).trans h3⟩
theorem RfOn.lt {w : World} {b : Nat} {S l : List UInt8} {e : Int} (h : RfOn w b S l e) : b < w.heap.size := by
  obtain ⟨a, h1, h2, h3⟩ := h
  exact h3.lt
theorem RfOn.err {w : World} {b : Nat} {S l : List UInt8} {e : Int} (h : RfOn w b S l e) : w.cell? ⟨b, 2, none⟩ = some (.int .i64 e) := by
  obtain ⟨a, h1, h2, h3⟩ := h
  exact h3.cell2
theorem RfOn.free {w : World} {b : Nat} {S l : List UInt8} {e : Int} (h : RfOn w b S l e) (i : Nat) : w.frozen? ⟨b, i, none⟩ = false := by
  obtain ⟨a, h1, h2, h3⟩ := h
  exact h3.free i
theorem RfOn.set2 {w : World} {b : Nat} {S l : List UInt8} {e : Int} (h : RfOn w b S l e) (e' : Int) : RfOn (w.setCell ⟨b, 2, none⟩ (.int .i64 e')) b S l e' := by
  obtain ⟨a, h1, h2, h3⟩ := h
  exact ⟨a, h1, h2, h3.set2 e'⟩
theorem RfOn.len {w : World} {b : Nat} {S l : List UInt8} {e : Int} (h : RfOn w b S l e) : l.length ≤ S.length := by
  obtain ⟨a, h1, h2, h3⟩ := h
  rw [← h2]
  simp

set_option maxRecDepth 100000 in
set_option maxHeartbeats 1000000 in

theorem qccount_at {w : World} {b : Nat} {S l l' : List UInt8} {e e' : Int} {n : Nat} (h : RfOn w b S l e) (hS : S.length ≤ 1000000) (hc : cntC l e = (n, l', e')) :
    Calls Tryz.prog 73 #[.pointer (some ⟨b, 0, none⟩)] w fun en w' => en = .returned (.int .i64 n) ∧ RfOn w' b S l' e' ∧ w.grownBy w' (some b) := by
  obtain ⟨a, ha, rfl, hR⟩ := h
  have hcc := cntC.eq_1 (S.drop a) e
  rw [hc] at hcc
  have hr := quintr_any hR hS ha
  obtain ⟨n1, l1, e1, hu⟩ : ∃ n l1 e1, rdU (S.drop a) e = (n, l1, e1) := ⟨_, _, _, rfl⟩
  rw [hu] at hcc hr
  simp only at hcc hr
  go_enter Tryz.func73, Tryz.ntmps73
  by_cases hn : 1099511627776 < n1
  · rw [if_pos hn] at hcc
    have HC := Lib.hid hcc
    have hn' : (1099511627776 : Int) < (n1 : Int) := by omega
    clear hcc hu hn hc
    go_wp2_with fail
    refine hr.mono ?_
    rintro en w1 ⟨rfl, ⟨a', ha', hd', hR⟩, hg⟩
    have c2 := hR.cell2
    have hf := hR.free 2
    by_cases h0 : e1 = 0
    · subst h0
      go_wp2_with fail
      go_ret
      have HC := HC.out
      simp only [Prod.mk.injEq] at HC
      obtain ⟨rfl, rfl, rfl⟩ := HC
      exact ⟨rfl, ⟨a', ha', hd', hR.set2 3⟩, grown_two hg (grown_setCell w1 b 2 _)⟩
    · have h0' : (e1 == 0) = false := by simpa using h0
      go_wp2_with fail
      go_ret
      have HC := HC.out
      rw [fstE_keep h0] at HC
      simp only [Prod.mk.injEq] at HC
      obtain ⟨rfl, rfl, rfl⟩ := HC
      exact ⟨rfl, ⟨a', ha', hd', hR⟩, hg⟩
  · rw [if_neg hn] at hcc
    have HC := Lib.hid hcc
    have hn' : ¬ (1099511627776 : Int) < (n1 : Int) := by omega
    have hn1 : (0 : Int) ≤ (n1 : Int) := by omega
    have hn2 : (n1 : Int) ≤ 1099511627776 := by omega
    clear hcc hu hn hc
    go_wp2_with fail
    refine hr.mono ?_
    rintro en w1 ⟨rfl, ⟨a', ha', hd', hR⟩, hg⟩
    go_wp2_with fail
    go_ret
    have HC := HC.out
    simp only [Prod.mk.injEq] at HC
    obtain ⟨rfl, rfl, rfl⟩ := HC
    exact ⟨rfl, ⟨a', ha', hd', hR⟩, hg⟩
theorem qbyte_at {w : World} {b : Nat} {S l l' : List UInt8} {e e' : Int} {n : Nat} (h : RfOn w b S l e) (hS : S.length ≤ 1000000) (hc : rdB l e = (n, l', e')) :
    Calls Tryz.prog 28 #[.pointer (some ⟨b, 0, none⟩)] w fun en w' => en = .returned (.int .u8 n) ∧ RfOn w' b S l' e' ∧ w.grownBy w' (some b) := by
  obtain ⟨a, ha, rfl, hR⟩ := h
  have := qbyte_any hR hS ha
  rw [hc] at this
  exact this

/-- What the document's Take leaves: the chain, or none. -/
def QTook (w w' : World) (en : Ending) (b : Nat) (S l' : List UInt8) (e' : Int) (c : ConfV) : Prop :=
  ∃ v l'' e'', en = .returned (.tuple #[.agg #[.int .i64 c.epoch, v], .bool (e' == 0)]) ∧ ChainAt w' v c.chain ∧ RfOn w' b S l'' e'' ∧ (e' = 0 → l'' = l' ∧ e'' = 0) ∧ w.grownBy w' (some b)
/-- The same, the chain's row in a block of its own. -/
def QTookN (w w' : World) (en : Ending) (b : Nat) (S l' : List UInt8) (e' : Int) (c : ConfV) : Prop :=
  ∃ v l'' e'', en = .returned (.tuple #[.agg #[.int .i64 c.epoch, v], .bool (e' == 0)]) ∧ ChainAt w' v c.chain ∧ RfOn w' b S l'' e'' ∧ (e' = 0 → l'' = l' ∧ e'' = 0) ∧ w.grownBy w' (some b) ∧ ∀ k, v.ownBlock = some k → w.heap.size ≤ k
theorem take_bad {n2 k : Nat} {l2 l3 l' : List UInt8} {e2 e3 e' : Int} {n1 : Nat} {L : List SeatV} {c : ConfV} (h3 : takeN n2 l2 e2 = (L, l3, e3)) (hk : k ≤ n2) (he : (takeN k l2 e2).2.2 ≠ 0)
    (hT : (if (if rightC ⟨n1, L⟩ = true then e3 else fstE e3 3) = 0 then (⟨n1, L⟩ : ConfV) else confZero, l3, if rightC ⟨n1, L⟩ = true then e3 else fstE e3 3) = (c, l', e')) : c = confZero ∧ e' ≠ 0 := by
  have h := takeN_err he (n2 - k)
  rw [show k + (n2 - k) = n2 by omega, h3] at h
  simp only at h
  have hx : (if rightC ⟨n1, L⟩ = true then e3 else fstE e3 3) ≠ 0 := by
    split
    · exact h
    · rw [fstE_keep h]; exact h
  rw [if_neg hx] at hT
  simp only [Prod.mk.injEq] at hT
  exact ⟨hT.1.symm, by rw [← hT.2.2]; exact hx⟩

set_option maxRecDepth 100000 in
set_option maxHeartbeats 4000000 in

theorem qctake_new {w : World} {b : Nat} {S l l' : List UInt8} {e e' : Int} {c : ConfV} (h : RfOn w b S l e) (hl : S.length ≤ 1000000) (hT : takeC l e = (c, l', e')) :
    Calls Tryz.prog 49 #[.pointer (some ⟨b, 0, none⟩)] w fun en w' => QTookN w w' en b S l' e' c := by
  obtain ⟨i0, hi0, hz0, hz1, hz2⟩ := info_parts seat_full
  obtain ⟨n1, l1, e1, h1⟩ : ∃ n1 l1 e1, cntC l e = (n1, l1, e1) := ⟨_, _, _, rfl⟩
  obtain ⟨n2, l2, e2, h2⟩ : ∃ n2 l2 e2, cntC l1 e1 = (n2, l2, e2) := ⟨_, _, _, rfl⟩
  obtain ⟨L, l3, e3, h3⟩ : ∃ L l3 e3, takeN n2 l2 e2 = (L, l3, e3) := ⟨_, _, _, rfl⟩
  rw [takeC_of h1 h2 h3] at hT
  have hn1 := cntC_le l e
  rw [h1] at hn1
  simp only at hn1
  have H1 := Lib.hid h1
  have H2 := Lib.hid h2
  have H3 := Lib.hid h3
  have HT := Lib.hid hT
  have hbl := h.lt
  clear h1 h2 h3 hT
  go_enter Tryz.func49, Tryz.ntmps49
  go_upto_region 1 with (fail)
  have hD := BlkAt.new w 31 [.int .i64 0, .slice none 0 0]
  have hR := h.alloc (.cells #[.int .i64 0, .slice none 0 0] 31)
  have hg : w.grownBy (w.alloc (.cells #[.int .i64 0, .slice none 0 0] 31)) (some b) := (World.grownBy.refl w _).trans (World.grownBy_alloc w _ _)
  have hsz : w.heap.size + 1 ≤ (w.alloc (.cells #[.int .i64 0, .slice none 0 0] 31)).heap.size := by simp
  change Code.wp _ _ _ _ (w.alloc (.cells #[.int .i64 0, .slice none 0 0] 31))
  change BlkAt (w.alloc (.cells #[.int .i64 0, .slice none 0 0] 31)) _ _ _ at hD
  generalize w.alloc (.cells #[.int .i64 0, .slice none 0 0] 31) = w0 at *
  generalize hDD : w.heap.size = D at hD hsz hbl ⊢
  have hDw : w.heap.size ≤ D := Nat.le_of_eq hDD
  clear hDD
  have hDb : D ≠ b := by omega
  go_wp2_with fail
  refine (qccount_at (by exact hR) hl H1.out).mono ?_
  rintro en w1 ⟨rfl, hR, hg1⟩
  have hD := hD.grown hg1 hDb
  have hg := hg.trans hg1
  have hszq : D + 1 ≤ w1.heap.size := by have := hg1.size; omega
  clear hg1 hsz
  have hsz := hszq
  clear hszq
  go_upto_region 2 with (fail)
  have hX := BlkAt.new w1 31 [.int .i64 n1, .slice none 0 0]
  have hD := hD.alloc (.cells #[.int .i64 n1, .slice none 0 0] 31)
  have hR := hR.alloc (.cells #[.int .i64 n1, .slice none 0 0] 31)
  have hg := grown_alloc hg (.cells #[.int .i64 n1, .slice none 0 0] 31)
  have hXs : w1.heap.size + 1 ≤ (w1.alloc (.cells #[.int .i64 n1, .slice none 0 0] 31)).heap.size := by simp
  have hXD : D ≠ w1.heap.size := by omega
  have hDX : D < w1.heap.size := by omega
  have hXb : w1.heap.size ≠ b := by omega
  have hXw : w.heap.size ≤ w1.heap.size := by omega
  change Code.wp _ _ _ _ (w1.alloc (.cells #[.int .i64 n1, .slice none 0 0] 31))
  change BlkAt (w1.alloc (.cells #[.int .i64 n1, .slice none 0 0] 31)) _ _ _ at hX
  generalize w1.alloc (.cells #[.int .i64 n1, .slice none 0 0] 31) = w2 at *
  generalize w1.heap.size = X at *
  go_wp2_with fail
  refine (qccount_at (by exact hR) (by omega) H2.out).mono ?_
  rintro en w3 ⟨rfl, hR, hg1⟩
  have hD := hD.grown hg1 hDb
  have hX := hX.grown hg1 hXb
  have hg := hg.trans hg1
  have hXsq : X + 1 ≤ w3.heap.size := by have := hg1.size; omega
  clear hg1 hXs
  have hXs := hXsq
  clear hXsq
  by_cases hn8 : 8 < n2
  · rw [if_pos hn8] at HT
    have hn8' : (8 : Int) < (n2 : Int) := by omega
    clear hn8
    have d0 : w3.cell? ⟨D, 0, none⟩ = some (.int .i64 0) := hD.cell rfl
    have d1 : w3.cell? ⟨D, 1, none⟩ = some (.slice none 0 0) := hD.cell rfl
    have hf := hD.free
    have HC : c = confZero ∧ e' ≠ 0 := by
      have := HT.out
      simp only [Prod.mk.injEq] at this
      exact ⟨this.1.symm, by rw [← this.2.2]; exact fstE_ne (by decide)⟩
    go_wp2_with fail
    have hE := (hD.set 0 (.int .i64 0)).set 1 (.slice none 0 0)
    have hR := (hR.grown (grown_setCell w3 D 0 (.int .i64 0)) hDb.symm).grown (grown_setCell _ D 1 (.slice none 0 0)) hDb.symm
    have hg := grown_far (grown_far hg (grown_setCell w3 D 0 (.int .i64 0)) hDw) (grown_setCell _ D 1 (.slice none 0 0)) hDw
    change BlkAt _ D 31 [.int .i64 0, .slice none 0 0] at hE
    change bodyPost _ _ _ _ _ ((w3.setCell ⟨D, 0, none⟩ (.int .i64 0)).setCell ⟨D, 1, none⟩ (.slice none 0 0))
    generalize (w3.setCell ⟨D, 0, none⟩ (.int .i64 0)).setCell ⟨D, 1, none⟩ (.slice none 0 0) = w99 at *
    clear d0 d1
    have d0 := hE.cell (i := 0) rfl
    have d1 := hE.cell (i := 1) rfl
    obtain ⟨rfl, hne⟩ := HC
    exact bodyPost_ret (v := .tuple #[.agg #[.int .i64 0, .slice none 0 0], .bool false]) (by simp [results, Tryz.results49, go_sem, d0, d1] <;> rfl) rfl ⟨_, _, _, by rw [show (e' == 0) = false by simpa using hne]; rfl, ChainAt.nil _, hR, fun h => absurd h hne, hg, by simp [Value.ownBlock]⟩
  · rw [if_neg hn8] at HT
    have hn8' : ¬ (8 : Int) < (n2 : Int) := by omega
    go_wp2_with fail
    go_loopw [6] (fun i wr => ∃ (k : Nat) (v : Value), k ≤ n2 ∧ i = .int .i64 k ∧ BlkAt wr D 31 [.int .i64 0, .slice none 0 0] ∧ BlkAt wr X 31 [.int .i64 n1, v] ∧ wr.ownsRow (X + 1) 76 3 v k (seatsCells (takeN k l2 e2).1) ∧ RfOn wr b S (takeN k l2 e2).2.1 (takeN k l2 e2).2.2 ∧ w.grownBy wr (some b) ∧ X + 1 ≤ wr.heap.size) (fun i _ => n2 - (intOf i).toNat)
    case atStart => exact ⟨0, .slice none 0 0, Nat.zero_le _, rfl, hD, hX, World.ownsRow_nil _ _ _ _, hR, hg, hXs⟩
    case round =>
      obtain ⟨k, v, hk, rfl, hD, hX, hown, hR, hg, hXs⟩ := hrel
      have hll := takeN_len k l2 e2
      clear hsz
      by_cases hlt : k < n2
      · have HN := Lib.hid (show takeN (k + 1) l2 e2 = ((takeN k l2 e2).1 ++ [(seat1 (takeN k l2 e2).2.1 (takeN k l2 e2).2.2).1], (seat1 (takeN k l2 e2).2.1 (takeN k l2 e2).2.2).2) from rfl)
        obtain ⟨P, q, x, hP⟩ : ∃ P q x, takeN k l2 e2 = (P, q, x) := ⟨_, _, _, rfl⟩
        rw [hP] at hown hR hll HN
        simp only at hown hR hll HN
        obtain ⟨m1, q1, x1, hm1⟩ : ∃ m1 q1 x1, cntC q x = (m1, q1, x1) := ⟨_, _, _, rfl⟩
        obtain ⟨m2, q2, x2, hm2⟩ : ∃ m2 q2 x2, cntC q1 x1 = (m2, q2, x2) := ⟨_, _, _, rfl⟩
        obtain ⟨m3, q3, x3, hm3⟩ : ∃ m3 q3 x3, rdB q2 x2 = (m3, q3, x3) := ⟨_, _, _, rfl⟩
        have hs1 := seat1_of hm1 hm2 hm3
        rw [hs1] at HN
        simp only at HN
        have HM1 := Lib.hid hm1
        have HM2 := Lib.hid hm2
        have HM3 := Lib.hid hm3
        clear hm1 hm2 hm3 hs1 hP
        have hSn : some wr.heap.size ≠ v.ownBlock := fun he => by have := (hown.lt _ he.symm).2; omega
        go_upto_region 9 with (fail)
        have hS := BlkAt.new wr 76 [.int .i64 0, .int .i64 0, .bool false]
        have hD := hD.alloc (.cells #[.int .i64 0, .int .i64 0, .bool false] 76)
        have hX := hX.alloc (.cells #[.int .i64 0, .int .i64 0, .bool false] 76)
        have hR := hR.alloc (.cells #[.int .i64 0, .int .i64 0, .bool false] 76)
        have hown := hown.alloc (.cells #[.int .i64 0, .int .i64 0, .bool false] 76)
        have hg := grown_alloc hg (.cells #[.int .i64 0, .int .i64 0, .bool false] 76)
        have hszq : X + 1 ≤ (wr.alloc (.cells #[.int .i64 0, .int .i64 0, .bool false] 76)).heap.size := by simp; omega
        have hSD : D ≠ wr.heap.size := by omega
        have hZX : X < wr.heap.size := by omega
        have hSX : X ≠ wr.heap.size := by omega
        have hSb : wr.heap.size ≠ b := by omega
        have hSw : w.heap.size ≤ wr.heap.size := by omega
        clear hXs
        have hXs := hszq
        clear hszq
        change Code.wp _ _ _ _ (wr.alloc (.cells #[.int .i64 0, .int .i64 0, .bool false] 76))
        change BlkAt (wr.alloc (.cells #[.int .i64 0, .int .i64 0, .bool false] 76)) _ _ _ at hS
        generalize wr.alloc (.cells #[.int .i64 0, .int .i64 0, .bool false] 76) = w6 at *
        generalize wr.heap.size = Z at *
        go_wp2_with fail
        refine (qccount_at (by exact hR) hl HM1.out).mono ?_
        rintro en w7 ⟨rfl, hR, hg1⟩
        have hD := hD.grown hg1 hDb
        have hX := hX.grown hg1 hXb
        have hS := hS.grown hg1 hSb
        have hown := own_far hown hg1 (by omega)
        have hg := hg.trans hg1
        have hszq : X + 1 ≤ w7.heap.size := by have := hg1.size; omega
        clear hg1 hXs
        have hXs := hszq
        clear hszq
        have s0 : w7.cell? ⟨Z, 0, none⟩ = some (.int .i64 0) := hS.cell rfl
        have hf := hS.free 0
        go_upto_region 10 with (fail)
        have hS := hS.set 0 (.int .i64 m1)
        have hD := hD.grown (grown_setCell w7 Z 0 (.int .i64 m1)) hSD
        have hX := hX.grown (grown_setCell w7 Z 0 (.int .i64 m1)) hSX
        have hR := hR.grown (grown_setCell w7 Z 0 (.int .i64 m1)) hSb.symm
        have hown := own_farN hown (grown_setCell w7 Z 0 (.int .i64 m1)) hSn
        have hg := grown_far hg (grown_setCell w7 Z 0 (.int .i64 m1)) hSw
        have hszq : X + 1 ≤ (w7.setCell ⟨Z, 0, none⟩ (.int .i64 m1)).heap.size := by simpa [World.setCell] using hXs
        clear hXs
        have hXs := hszq
        clear hszq
        change Code.wp _ _ _ _ (w7.setCell ⟨Z, 0, none⟩ (.int .i64 m1))
        change BlkAt _ Z 76 [.int .i64 m1, .int .i64 0, .bool false] at hS
        generalize w7.setCell ⟨Z, 0, none⟩ (.int .i64 m1) = w8 at *
        clear s0 hf
        go_wp2_with fail
        refine (qccount_at (by exact hR) hl HM2.out).mono ?_
        rintro en w9 ⟨rfl, hR, hg1⟩
        have hD := hD.grown hg1 hDb
        have hX := hX.grown hg1 hXb
        have hS := hS.grown hg1 hSb
        have hown := own_far hown hg1 (by omega)
        have hg := hg.trans hg1
        have hszq : X + 1 ≤ w9.heap.size := by have := hg1.size; omega
        clear hg1 hXs
        have hXs := hszq
        clear hszq
        have s1 : w9.cell? ⟨Z, 1, none⟩ = some (.int .i64 0) := hS.cell rfl
        have hf := hS.free 1
        go_upto_region 11 with (fail)
        have hS := hS.set 1 (.int .i64 m2)
        have hD := hD.grown (grown_setCell w9 Z 1 (.int .i64 m2)) hSD
        have hX := hX.grown (grown_setCell w9 Z 1 (.int .i64 m2)) hSX
        have hR := hR.grown (grown_setCell w9 Z 1 (.int .i64 m2)) hSb.symm
        have hown := own_farN hown (grown_setCell w9 Z 1 (.int .i64 m2)) hSn
        have hg := grown_far hg (grown_setCell w9 Z 1 (.int .i64 m2)) hSw
        have hszq : X + 1 ≤ (w9.setCell ⟨Z, 1, none⟩ (.int .i64 m2)).heap.size := by simpa [World.setCell] using hXs
        clear hXs
        have hXs := hszq
        clear hszq
        change Code.wp _ _ _ _ (w9.setCell ⟨Z, 1, none⟩ (.int .i64 m2))
        change BlkAt _ Z 76 [.int .i64 m1, .int .i64 m2, .bool false] at hS
        generalize w9.setCell ⟨Z, 1, none⟩ (.int .i64 m2) = w10 at *
        clear s1 hf
        go_wp2_with fail
        refine (qbyte_at (by exact hR) hl HM3.out).mono ?_
        rintro en w11 ⟨rfl, hR, hg1⟩
        have hD := hD.grown hg1 hDb
        have hX := hX.grown hg1 hXb
        have hS := hS.grown hg1 hSb
        have hown := own_far hown hg1 (by omega)
        have hg := hg.trans hg1
        have hszq : X + 1 ≤ w11.heap.size := by have := hg1.size; omega
        clear hg1 hXs
        have hXs := hszq
        clear hszq
        by_cases hm : 1 < m3
        · have hm' : (1 : Int) < (m3 : Int) := by omega
          rw [if_pos hm] at HN
          have HC := take_bad H3.out (k := k + 1) (by omega) (by rw [HN.out]; exact fstE_ne (by decide)) HT.out
          have d0 : w11.cell? ⟨D, 0, none⟩ = some (.int .i64 0) := hD.cell rfl
          have d1 : w11.cell? ⟨D, 1, none⟩ = some (.slice none 0 0) := hD.cell rfl
          have hf := hD.free
          go_wp2_with fail
          have hE := (hD.set 0 (.int .i64 0)).set 1 (.slice none 0 0)
          have hR := (hR.grown (grown_setCell w11 D 0 (.int .i64 0)) hDb.symm).grown (grown_setCell _ D 1 (.slice none 0 0)) hDb.symm
          have hg := grown_far (grown_far hg (grown_setCell w11 D 0 (.int .i64 0)) hDw) (grown_setCell _ D 1 (.slice none 0 0)) hDw
          change BlkAt _ D 31 [.int .i64 0, .slice none 0 0] at hE
          change bodyPost _ _ _ _ _ ((w11.setCell ⟨D, 0, none⟩ (.int .i64 0)).setCell ⟨D, 1, none⟩ (.slice none 0 0))
          generalize (w11.setCell ⟨D, 0, none⟩ (.int .i64 0)).setCell ⟨D, 1, none⟩ (.slice none 0 0) = w99 at *
          clear d0 d1
          have d0 := hE.cell (i := 0) rfl
          have d1 := hE.cell (i := 1) rfl
          obtain ⟨rfl, hne⟩ := HC
          exact bodyPost_ret (v := .tuple #[.agg #[.int .i64 0, .slice none 0 0], .bool false]) (by simp [results, Tryz.results49, go_sem, d0, d1] <;> rfl) rfl ⟨_, _, _, by rw [show (e' == 0) = false by simpa using hne]; rfl, ChainAt.nil _, hR, fun h => absurd h hne, hg, by simp [Value.ownBlock]⟩
        · have hm' : ¬ (1 : Int) < (m3 : Int) := by omega
          rw [if_neg hm] at HN
          obtain ⟨q5, hq5⟩ : ∃ q5, q5 = decide (m3 = 1) := ⟨_, rfl⟩
          have hqq : ((m3 : Int) == 1) = q5 := by rw [hq5, Bool.eq_iff_iff]; simp; omega
          rw [← hq5] at HN
          clear hq5 hm
          have s2 : w11.cell? ⟨Z, 2, none⟩ = some (.bool false) := hS.cell rfl
          have hf := hS.free 2
          go_upto_region 15 with (fail)
          have hS := hS.set 2 (.bool q5)
          have hD := hD.grown (grown_setCell w11 Z 2 (.bool q5)) hSD
          have hX := hX.grown (grown_setCell w11 Z 2 (.bool q5)) hSX
          have hR := hR.grown (grown_setCell w11 Z 2 (.bool q5)) hSb.symm
          have hown := own_farN hown (grown_setCell w11 Z 2 (.bool q5)) hSn
          have hg := grown_far hg (grown_setCell w11 Z 2 (.bool q5)) hSw
          have hszq : X + 1 ≤ (w11.setCell ⟨Z, 2, none⟩ (.bool q5)).heap.size := by simpa [World.setCell] using hXs
          clear hXs
          have hXs := hszq
          clear hszq
          change Code.wp _ _ _ _ (w11.setCell ⟨Z, 2, none⟩ (.bool q5))
          change BlkAt _ Z 76 (seatCells ⟨m1, m2, q5⟩) at hS
          generalize w11.setCell ⟨Z, 2, none⟩ (.bool q5) = w12 at *
          clear s2 hf
          have s0 : w12.cell? ⟨Z, 0, none⟩ = some (.int .i64 m1) := hS.cell rfl
          have s1 : w12.cell? ⟨Z, 1, none⟩ = some (.int .i64 m2) := hS.cell rfl
          have s2 : w12.cell? ⟨Z, 2, none⟩ = some (.bool q5) := hS.cell rfl
          have d1 : w12.cell? ⟨X, 1, none⟩ = some v := hX.cell rfl
          go_wp2_with (at_builtin; refine wpList_append_lies _ rfl (.tmp 40) (.tmp 42) 29 rfl (X + 1) 76 i0 _ 3 24 Tryz.underlying29 hi0 hz0 hz1 hz2 rfl (by omega) _ _ _ rfl (hown.alloc _) ⟨w12.heap.size, 0, none⟩ 1 1 (seatCells ⟨m1, m2, q5⟩) rfl rfl ?c1 ?c2 (by omega) ?c3 ?c4 ?c5 (w12.heap.size + 1) (by simp) ?_)
          case c1 => first | exact World.news_of_block (heap_alloc_new _ _) | exact fun _ _ h => h
          case c2 => exact seatCells_one
          case c3 => unfold maxLen; omega
          case c4 => omega
          case c5 => first | omega | (simp; omega)
          intro g' cap' w' hown' hg' hat' hlt'
          have hneD := own_ne hown (D := D) (by omega)
          have hneX := own_ne hown (D := X) (by omega)
          have hneb := own_ne hown (D := b) (by omega)
          have hDl := hD.lt
          have hXl := hX.lt
          have hRl := hR.lt
          have hD2 : BlkAt w' D 31 [.int .i64 0, .slice none 0 0] := (hg'.block _ (by simp; omega) hneD).trans (hD.alloc (.cells (seatCells ⟨m1, m2, q5⟩).toArray 76))
          have hX2 : BlkAt w' X 31 [.int .i64 n1, v] := (hg'.block _ (by simp; omega) hneX).trans (hX.alloc (.cells (seatCells ⟨m1, m2, q5⟩).toArray 76))
          have hR2 : RfOn w' b S q3 x3 := (hR.alloc (.cells (seatCells ⟨m1, m2, q5⟩).toArray 76)).kept hg' hneb
          have hgw : w.grownBy w' (some b) := grown_own (grown_alloc hg (.cells (seatCells ⟨m1, m2, q5⟩).toArray 76)) hg' (fun j hj => by have := (hown.lt j hj).1; omega)
          have hsz2 : X + 1 ≤ w'.heap.size := by have := hg'.size; simp at this; omega
          clear hg' hat' hD hR hown hg hXs s0 s1 s2 d1 hS hX
          have d1 : w'.cell? ⟨X, 1, none⟩ = some v := hX2.cell rfl
          have hf := hX2.free 1
          go_wp2_with fail
          go_roundw
          case rel => exact ⟨k + 1, _, by omega, by go_num, hD2.grown (grown_setCell w' X 1 _) hXD, hX2.set 1 _, by rw [HN.out, seatsCells_snoc]; exact own_set hown' (by omega), by rw [HN.out]; exact hR2.grown (grown_setCell w' X 1 _) hXb.symm, grown_far hgw (grown_setCell w' X 1 _) hXw, by simp [World.setCell]; omega⟩
          case measure => simp [intOf]; omega
      · obtain rfl : k = n2 := by omega
        have HB : (takeN k l2 e2).2.2 ≠ 0 → c = confZero ∧ e' ≠ 0 := fun he => take_bad H3.out (Nat.le_refl _) he HT.out
        rw [H3.out] at hown hR HB
        simp only at hown hR HB
        have hlo := hll.2
        rw [H3.out] at hlo
        simp only at hlo
        subst hlo
        have hok := takeN_ok L.length l2 e2
        rw [H3.out] at hok
        simp only at hok
        have hcv := chain_of_own hown hok
        have HOK := Lib.hid hok
        have ce := hR.err
        clear hok hll
        obtain ⟨A, capv, rfl⟩ := own_form hown
        by_cases h3 : e3 = 0
        · subst h3
          have k0 : wr.cell? ⟨X, 0, none⟩ = some (.int .i64 n1) := hX.cell rfl
          have k1 : wr.cell? ⟨X, 1, none⟩ = some (.slice A L.length capv) := hX.cell rfl
          go_wp2_with fail
          refine (qcright_any (by exact hcv) n1).mono ?_
          rintro en w4 ⟨rfl, b4⟩
          have hD := hD.below b4
          have hX := hX.below b4
          have hR := hR.below b4
          have hown := own_below hown b4
          have hg := hg.trans (below_any' (row := some b) b4)
          clear b4 k0 k1 hcv ce
          have d0 : w4.cell? ⟨D, 0, none⟩ = some (.int .i64 0) := hD.cell rfl
          have d1 : w4.cell? ⟨D, 1, none⟩ = some (.slice none 0 0) := hD.cell rfl
          have hf := hD.free
          cases hr : rightC ⟨n1, L⟩ with
          | false =>
            rw [hr] at HT
            have HC : c = confZero ∧ e' ≠ 0 := by
              have := HT.out
              simp only [Bool.false_eq_true, if_false] at this
              rw [if_neg (fstE_ne (by decide))] at this
              simp only [Prod.mk.injEq] at this
              exact ⟨this.1.symm, by rw [← this.2.2]; exact fstE_ne (by decide)⟩
            clear hr hown
            go_wp2_with fail
            have hE := (hD.set 0 (.int .i64 0)).set 1 (.slice none 0 0)
            have hR := (hR.grown (grown_setCell w4 D 0 (.int .i64 0)) hDb.symm).grown (grown_setCell _ D 1 (.slice none 0 0)) hDb.symm
            have hg := grown_far (grown_far hg (grown_setCell w4 D 0 (.int .i64 0)) hDw) (grown_setCell _ D 1 (.slice none 0 0)) hDw
            change BlkAt _ D 31 [.int .i64 0, .slice none 0 0] at hE
            change bodyPost _ _ _ _ _ ((w4.setCell ⟨D, 0, none⟩ (.int .i64 0)).setCell ⟨D, 1, none⟩ (.slice none 0 0))
            generalize (w4.setCell ⟨D, 0, none⟩ (.int .i64 0)).setCell ⟨D, 1, none⟩ (.slice none 0 0) = w99 at *
            clear d0 d1
            have d0 := hE.cell (i := 0) rfl
            have d1 := hE.cell (i := 1) rfl
            obtain ⟨rfl, hne⟩ := HC
            exact bodyPost_ret (v := .tuple #[.agg #[.int .i64 0, .slice none 0 0], .bool false]) (by simp [results, Tryz.results49, go_sem, d0, d1] <;> rfl) rfl ⟨_, _, _, by rw [show (e' == 0) = false by simpa using hne]; rfl, ChainAt.nil _, hR, fun h => absurd h hne, hg, by simp [Value.ownBlock]⟩
          | true =>
            rw [hr] at HT
            have HC : (⟨n1, L⟩ : ConfV) = c ∧ l3 = l' ∧ 0 = e' := by
              have := HT.out
              simpa using this
            clear hr
            have k0 : w4.cell? ⟨X, 0, none⟩ = some (.int .i64 n1) := hX.cell rfl
            have k1 : w4.cell? ⟨X, 1, none⟩ = some (.slice A L.length capv) := hX.cell rfl
            have hoE := own_set (D := D) (i := 1) (u := .slice A L.length capv) (own_set (D := D) (i := 0) (u := .int .i64 n1) hown (by omega)) (by omega)
            go_wp2_with fail
            have hE := (hD.set 0 (.int .i64 n1)).set 1 (.slice A L.length capv)
            have hR := (hR.grown (grown_setCell w4 D 0 (.int .i64 n1)) hDb.symm).grown (grown_setCell _ D 1 (.slice A L.length capv)) hDb.symm
            have hg := grown_far (grown_far hg (grown_setCell w4 D 0 (.int .i64 n1)) hDw) (grown_setCell _ D 1 (.slice A L.length capv)) hDw
            change BlkAt _ D 31 [.int .i64 n1, .slice A L.length capv] at hE
            change bodyPost _ _ _ _ _ ((w4.setCell ⟨D, 0, none⟩ (.int .i64 n1)).setCell ⟨D, 1, none⟩ (.slice A L.length capv))
            generalize (w4.setCell ⟨D, 0, none⟩ (.int .i64 n1)).setCell ⟨D, 1, none⟩ (.slice A L.length capv) = w99 at *
            clear d0 d1
            have d0 := hE.cell (i := 0) rfl
            have d1 := hE.cell (i := 1) rfl
            obtain ⟨rfl, rfl, rfl⟩ := HC
            exact bodyPost_ret (v := .tuple #[.agg #[.int .i64 n1, .slice A L.length capv], .bool true]) (by simp [results, Tryz.results49, go_sem, d0, d1] <;> rfl) rfl ⟨_, _, _, rfl, chain_of_own hoE HOK.out, hR, fun _ => ⟨rfl, rfl⟩, hg, fun k hk => Nat.le_trans (by omega) (hoE.lt k hk).1⟩
        · have hnb : (e3 != 0) = true := by simpa using h3
          have HC := HB h3
          have d0 : wr.cell? ⟨D, 0, none⟩ = some (.int .i64 0) := hD.cell rfl
          have d1 : wr.cell? ⟨D, 1, none⟩ = some (.slice none 0 0) := hD.cell rfl
          have hf := hD.free
          clear hown
          go_wp2_with fail
          have hE := (hD.set 0 (.int .i64 0)).set 1 (.slice none 0 0)
          have hR := (hR.grown (grown_setCell wr D 0 (.int .i64 0)) hDb.symm).grown (grown_setCell _ D 1 (.slice none 0 0)) hDb.symm
          have hg := grown_far (grown_far hg (grown_setCell wr D 0 (.int .i64 0)) hDw) (grown_setCell _ D 1 (.slice none 0 0)) hDw
          change BlkAt _ D 31 [.int .i64 0, .slice none 0 0] at hE
          change bodyPost _ _ _ _ _ ((wr.setCell ⟨D, 0, none⟩ (.int .i64 0)).setCell ⟨D, 1, none⟩ (.slice none 0 0))
          generalize (wr.setCell ⟨D, 0, none⟩ (.int .i64 0)).setCell ⟨D, 1, none⟩ (.slice none 0 0) = w99 at *
          clear d0 d1
          have d0 := hE.cell (i := 0) rfl
          have d1 := hE.cell (i := 1) rfl
          obtain ⟨rfl, hne⟩ := HC
          exact bodyPost_ret (v := .tuple #[.agg #[.int .i64 0, .slice none 0 0], .bool false]) (by simp [results, Tryz.results49, go_sem, d0, d1] <;> rfl) rfl ⟨_, _, _, by rw [show (e' == 0) = false by simpa using hne]; rfl, ChainAt.nil _, hR, fun h => absurd h hne, hg, by simp [Value.ownBlock]⟩
theorem qctake_at {w : World} {b : Nat} {S l l' : List UInt8} {e e' : Int} {c : ConfV} (h : RfOn w b S l e) (hl : S.length ≤ 1000000) (hT : takeC l e = (c, l', e')) :
    Calls Tryz.prog 49 #[.pointer (some ⟨b, 0, none⟩)] w fun en w' => QTook w w' en b S l' e' c := by
  refine (qctake_new h hl hT).mono ?_
  rintro en w' ⟨v, l'', e'', h1, h2, h3, h4, h5, _⟩
  exact ⟨v, l'', e'', h1, h2, h3, h4, h5⟩
end Go.Proofs.YtagmlgeoefemfaaGreat
