/- The document's reader: its numbers by name, an operation, fires. -/
import Derived.Test.YtagmlgeoefemfaaGreatWireReadM
import Derived.Test.YtagmlgeoefemfaaGreatCfgQTake
import Derived.Test.YtagmlgeoefemfaaGreatOpRefTake
namespace Go.Proofs.YtagmlgeoefemfaaGreat
open Go.RowKit Go.ChangeShapes Go.WideShapes Go.Joins Go.Deep
set_option linter.unusedVariables false

theorem qint_at {w : World} {b : Nat} {S l l' : List UInt8} {e e' : Int} {n : Nat} (h : RfOn w b S l e) (hS : S.length ≤ 1000000) (hc : rdU l e = (n, l', e')) :
    Calls Tryz.prog 29 #[.pointer (some ⟨b, 0, none⟩)] w fun en w' => en = .returned (.int .i64 (zag n)) ∧ RfOn w' b S l' e' ∧ w.grownBy w' (some b) := by
  obtain ⟨a, ha, rfl, hR⟩ := h
  have := qintr_any hR hS ha
  rw [hc] at this
  refine this.mono ?_
  rintro en w' ⟨rfl, ⟨a', h1, h2, h3⟩, hg⟩
  exact ⟨rfl, ⟨a', h1, h2, h3⟩, hg⟩
theorem quintr_at {w : World} {b : Nat} {S l l' : List UInt8} {e e' : Int} {n : Nat} (h : RfOn w b S l e) (hS : S.length ≤ 1000000) (hc : rdU l e = (n, l', e')) :
    Calls Tryz.prog 48 #[.pointer (some ⟨b, 0, none⟩)] w fun en w' => en = .returned (.int .u64 n) ∧ RfOn w' b S l' e' ∧ w.grownBy w' (some b) := by
  obtain ⟨a, ha, rfl, hR⟩ := h
  have := quintr_any hR hS ha
  rw [hc] at this
  refine this.mono ?_
  rintro en w' ⟨rfl, ⟨a', h1, h2, h3⟩, hg⟩
  exact ⟨rfl, ⟨a', h1, h2, h3⟩, hg⟩
theorem qotake_at {w : World} {b : Nat} {S l l' : List UInt8} {e e' : Int} {o : OpV} {ok : Bool} (h : RfOn w b S l e) (hS : S.length ≤ 1000000) (hc : qTake l e = (o, ok, l', e')) :
    Calls Tryz.prog 50 #[.pointer (some ⟨b, 0, none⟩)] w fun en w' => en = .returned (.tuple #[.agg (opCells o).toArray, .bool ok]) ∧ RfOn w' b S l' e' ∧ w.grownBy w' (some b) := by
  obtain ⟨a, ha, rfl, hR⟩ := h
  have := qotake_any hR hS ha
  rw [hc] at this
  refine this.mono ?_
  rintro en w' ⟨rfl, ⟨a', h1, h2, h3⟩, hg⟩
  exact ⟨rfl, ⟨a', h1, h2, h3⟩, hg⟩
theorem fires_of_own {w : World} {base : Nat} {e : TypeId} {v : Value} {L : List FireV} (h : w.ownsRow base e 6 v L.length (firesCells L)) (hl : L.length ≤ 9) : FiresFrom base w v L := by
  refine ⟨?_, fun k hk => (h.lt k hk).1⟩
  obtain ⟨h1, h2⟩ := h
  rcases h2 with ⟨rfl, h0⟩ | ⟨g, cap, cur, rfl, hb, hg, hn, hc, hs, ht⟩
  · rw [List.length_eq_zero_iff] at h0
    subst h0
    exact FiresAt.nil w
  · refine ⟨_, cap, rfl, by unfold maxLen; omega, fun _ => ⟨g, 0, rfl, (Array.getElem?_eq_some_iff.1 hg).1, fun i f hi j x hj => ?_⟩⟩
    have hil := (List.getElem?_eq_some_iff.1 hi).1
    have hjl := (List.getElem?_eq_some_iff.1 hj).1
    have h6 : f.nums.length = 6 := rfl
    have hcell := World.ownsRow.cellAt (w := w) (base := base) (e := e) (size := 6) (g := g) (cap := cap) (n := L.length) (xs := firesCells L) ⟨h1, .inr ⟨g, cap, cur, rfl, hb, hg, hn, hc, hs, ht⟩⟩ (i * 6 + j) (by omega)
    rw [Nat.zero_add, hcell, firesCells_at L i f j x hi hj]

/-- Fires that were read: how many, what is left. -/
def QFired (w : World) (b : Nat) (S l1 : List UInt8) (e1 : Int) (n : Nat) (en : Ending) (w' : World) : Prop :=
  ∃ v k, en = .returned v ∧ k ≤ n ∧ k ≤ 9 ∧ (k = n ∨ k = 9 ∨ (rdFires k l1 e1).2.2 ≠ 0) ∧ FiresFrom w.heap.size w' v (rdFires k l1 e1).1 ∧ RfOn w' b S (rdFires k l1 e1).2.1 (rdFires k l1 e1).2.2 ∧ w.grownBy w' (some b)
set_option maxRecDepth 100000 in
set_option maxHeartbeats 4000000 in

theorem qfires_at {w : World} {b : Nat} {S l : List UInt8} {e : Int} (h : RfOn w b S l e) (hS : S.length ≤ 1000000) {n : Nat} {l1 : List UInt8} {e1 : Int} (hr : rdU l e = (n, l1, e1)) :
    Calls Tryz.prog 51 #[.pointer (some ⟨b, 0, none⟩)] w fun en w' => QFired w b S l1 e1 n en w' := by
  obtain ⟨i0, hi0, hz0, hz1, hz2⟩ := info_parts fire_info
  have HR := Lib.hid hr
  have hbl := h.lt
  clear hr
  go_enter Tryz.func51, Tryz.ntmps51
  go_wp2_with fail
  refine (quintr_at (by exact h) hS HR.out).mono ?_
  rintro en w1 ⟨rfl, hR, hg⟩
  go_wp2_with fail
  go_loopw [3, 5] (fun s i wr => ∃ (k : Nat) (v : Value), k ≤ n ∧ k ≤ 9 ∧ v = s ∧ i = .int .u64 k ∧ wr.ownsRow w.heap.size 59 6 v k (firesCells (rdFires k l1 e1).1) ∧ RfOn wr b S (rdFires k l1 e1).2.1 (rdFires k l1 e1).2.2 ∧ w.grownBy wr (some b)) (fun _ i _ => 9 - (intOf i).toNat)
  case atStart => exact ⟨0, _, Nat.zero_le _, by omega, rfl, rfl, World.ownsRow_nil _ _ _ _, hR, hg⟩
  case round =>
    obtain ⟨k, v, hk, hk9, rfl, rfl, hown, hR, hg⟩ := hrel
    have hsz := hg.size
    obtain ⟨hfl, hll⟩ := rdFires_len k l1 e1
    have HN := Lib.hid (rdFires_snoc k l1 e1)
    obtain ⟨P, q, x, hP⟩ : ∃ P q x, rdFires k l1 e1 = (P, q, x) := ⟨_, _, _, rfl⟩
    have HP := Lib.hid hP
    rw [hP] at hown hR hll HN hfl
    simp only at hown hR hll HN hfl
    clear hP
    have c2 := hR.err
    by_cases hc : k < n ∧ k < 9 ∧ x = 0
    · obtain ⟨hkn, hk9', rfl⟩ := hc
      have j1 : (k : Int) < (n : Int) := by omega
      have j2 : (k : Int) < 9 := by omega
      obtain ⟨m1, q1, x1, hm1⟩ : ∃ m q' x', rdU q 0 = (m, q', x') := ⟨_, _, _, rfl⟩
      obtain ⟨m2, q2, x2, hm2⟩ : ∃ m q' x', rdU q1 x1 = (m, q', x') := ⟨_, _, _, rfl⟩
      obtain ⟨m3, q3, x3, hm3⟩ : ∃ m q' x', rdU q2 x2 = (m, q', x') := ⟨_, _, _, rfl⟩
      obtain ⟨m4, q4, x4, hm4⟩ : ∃ m q' x', rdU q3 x3 = (m, q', x') := ⟨_, _, _, rfl⟩
      obtain ⟨m5, q5, x5, hm5⟩ : ∃ m q' x', rdU q4 x4 = (m, q', x') := ⟨_, _, _, rfl⟩
      obtain ⟨m6, q6, x6, hm6⟩ : ∃ m q' x', rdU q5 x5 = (m, q', x') := ⟨_, _, _, rfl⟩
      have hs6 : rdIs 6 q 0 = ([zag m1, zag m2, zag m3, zag m4, zag m5, zag m6], q6, x6) := by simp only [rdIs, hm1, hm2, hm3, hm4, hm5, hm6]; rfl
      rw [hs6] at HN
      simp only at HN
      have HM1 := Lib.hid hm1
      have HM2 := Lib.hid hm2
      have HM3 := Lib.hid hm3
      have HM4 := Lib.hid hm4
      have HM5 := Lib.hid hm5
      have HM6 := Lib.hid hm6
      clear hs6 hm1 hm2 hm3 hm4 hm5 hm6
      go_wp2_with fail
      refine (qint_at (by exact hR) hS HM1.out).mono ?_
      rintro en w7 ⟨rfl, hR, hg1⟩
      have hown := own_far hown hg1 (by omega)
      have hg := hg.trans hg1
      have hszq : w.heap.size ≤ w7.heap.size := by have := hg1.size; omega
      clear hg1 hsz c2
      have hsz := hszq
      clear hszq
      have hSn : some w7.heap.size ≠ v.ownBlock := fun he => by have := (hown.lt _ he.symm).2; omega
      go_upto_region 7 with (fail)
      have hZ := BlkAt.new w7 59 [.int .i64 (zag m1), .int .i64 0, .int .i64 0, .int .i64 0, .int .i64 0, .int .i64 0]
      have hR := hR.alloc (.cells #[.int .i64 (zag m1), .int .i64 0, .int .i64 0, .int .i64 0, .int .i64 0, .int .i64 0] 59)
      have hown := hown.alloc (.cells #[.int .i64 (zag m1), .int .i64 0, .int .i64 0, .int .i64 0, .int .i64 0, .int .i64 0] 59)
      have hg := grown_alloc hg (.cells #[.int .i64 (zag m1), .int .i64 0, .int .i64 0, .int .i64 0, .int .i64 0, .int .i64 0] 59)
      have hZb : w7.heap.size ≠ b := by omega
      have hZs : w.heap.size ≤ (w7.alloc (.cells #[.int .i64 (zag m1), .int .i64 0, .int .i64 0, .int .i64 0, .int .i64 0, .int .i64 0] 59)).heap.size := by simp; omega
      change Code.wp _ _ _ _ (w7.alloc (.cells #[.int .i64 (zag m1), .int .i64 0, .int .i64 0, .int .i64 0, .int .i64 0, .int .i64 0] 59))
      change BlkAt (w7.alloc (.cells #[.int .i64 (zag m1), .int .i64 0, .int .i64 0, .int .i64 0, .int .i64 0, .int .i64 0] 59)) _ _ _ at hZ
      generalize w7.alloc (.cells #[.int .i64 (zag m1), .int .i64 0, .int .i64 0, .int .i64 0, .int .i64 0, .int .i64 0] 59) = u1 at *
      generalize w7.heap.size = Z at *
      go_wp2_with fail
      refine (qint_at (by exact hR) hS HM2.out).mono ?_
      rintro en u2 ⟨rfl, hR, hg1⟩
      have hZ := hZ.grown hg1 hZb
      have hown := own_far hown hg1 (by omega)
      have hg := hg.trans hg1
      clear hg1 hZs
      have sz := hZ.cell (i := 1) (v := .int .i64 0) rfl
      have hf := hZ.free 1
      go_upto_region 8 with (fail)
      have hZ := hZ.set 1 (.int .i64 (zag m2))
      have hR := hR.grown (grown_setCell u2 Z 1 (.int .i64 (zag m2))) hZb.symm
      have hown := own_farN hown (grown_setCell u2 Z 1 (.int .i64 (zag m2))) hSn
      have hg := grown_far hg (grown_setCell u2 Z 1 (.int .i64 (zag m2))) hsz
      have hZs := hg.size
      change Code.wp _ _ _ _ (u2.setCell ⟨Z, 1, none⟩ (.int .i64 (zag m2)))
      change BlkAt _ Z 59 [.int .i64 (zag m1), .int .i64 (zag m2), .int .i64 0, .int .i64 0, .int .i64 0, .int .i64 0] at hZ
      generalize u2.setCell ⟨Z, 1, none⟩ (.int .i64 (zag m2)) = u3 at *
      clear sz hf
      go_wp2_with fail
      refine (qint_at (by exact hR) hS HM3.out).mono ?_
      rintro en u4 ⟨rfl, hR, hg1⟩
      have hZ := hZ.grown hg1 hZb
      have hown := own_far hown hg1 (by omega)
      have hg := hg.trans hg1
      clear hg1 hZs
      have sz := hZ.cell (i := 2) (v := .int .i64 0) rfl
      have hf := hZ.free 2
      go_upto_region 9 with (fail)
      have hZ := hZ.set 2 (.int .i64 (zag m3))
      have hR := hR.grown (grown_setCell u4 Z 2 (.int .i64 (zag m3))) hZb.symm
      have hown := own_farN hown (grown_setCell u4 Z 2 (.int .i64 (zag m3))) hSn
      have hg := grown_far hg (grown_setCell u4 Z 2 (.int .i64 (zag m3))) hsz
      have hZs := hg.size
      change Code.wp _ _ _ _ (u4.setCell ⟨Z, 2, none⟩ (.int .i64 (zag m3)))
      change BlkAt _ Z 59 [.int .i64 (zag m1), .int .i64 (zag m2), .int .i64 (zag m3), .int .i64 0, .int .i64 0, .int .i64 0] at hZ
      generalize u4.setCell ⟨Z, 2, none⟩ (.int .i64 (zag m3)) = u5 at *
      clear sz hf
      go_wp2_with fail
      refine (qint_at (by exact hR) hS HM4.out).mono ?_
      rintro en u6 ⟨rfl, hR, hg1⟩
      have hZ := hZ.grown hg1 hZb
      have hown := own_far hown hg1 (by omega)
      have hg := hg.trans hg1
      clear hg1 hZs
      have sz := hZ.cell (i := 3) (v := .int .i64 0) rfl
      have hf := hZ.free 3
      go_upto_region 10 with (fail)
      have hZ := hZ.set 3 (.int .i64 (zag m4))
      have hR := hR.grown (grown_setCell u6 Z 3 (.int .i64 (zag m4))) hZb.symm
      have hown := own_farN hown (grown_setCell u6 Z 3 (.int .i64 (zag m4))) hSn
      have hg := grown_far hg (grown_setCell u6 Z 3 (.int .i64 (zag m4))) hsz
      have hZs := hg.size
      change Code.wp _ _ _ _ (u6.setCell ⟨Z, 3, none⟩ (.int .i64 (zag m4)))
      change BlkAt _ Z 59 [.int .i64 (zag m1), .int .i64 (zag m2), .int .i64 (zag m3), .int .i64 (zag m4), .int .i64 0, .int .i64 0] at hZ
      generalize u6.setCell ⟨Z, 3, none⟩ (.int .i64 (zag m4)) = u7 at *
      clear sz hf
      go_wp2_with fail
      refine (qint_at (by exact hR) hS HM5.out).mono ?_
      rintro en u8 ⟨rfl, hR, hg1⟩
      have hZ := hZ.grown hg1 hZb
      have hown := own_far hown hg1 (by omega)
      have hg := hg.trans hg1
      clear hg1 hZs
      have sz := hZ.cell (i := 4) (v := .int .i64 0) rfl
      have hf := hZ.free 4
      go_upto_region 11 with (fail)
      have hZ := hZ.set 4 (.int .i64 (zag m5))
      have hR := hR.grown (grown_setCell u8 Z 4 (.int .i64 (zag m5))) hZb.symm
      have hown := own_farN hown (grown_setCell u8 Z 4 (.int .i64 (zag m5))) hSn
      have hg := grown_far hg (grown_setCell u8 Z 4 (.int .i64 (zag m5))) hsz
      have hZs := hg.size
      change Code.wp _ _ _ _ (u8.setCell ⟨Z, 4, none⟩ (.int .i64 (zag m5)))
      change BlkAt _ Z 59 [.int .i64 (zag m1), .int .i64 (zag m2), .int .i64 (zag m3), .int .i64 (zag m4), .int .i64 (zag m5), .int .i64 0] at hZ
      generalize u8.setCell ⟨Z, 4, none⟩ (.int .i64 (zag m5)) = u9 at *
      clear sz hf
      go_wp2_with fail
      refine (qint_at (by exact hR) hS HM6.out).mono ?_
      rintro en u10 ⟨rfl, hR, hg1⟩
      have hZ := hZ.grown hg1 hZb
      have hown := own_far hown hg1 (by omega)
      have hg := hg.trans hg1
      clear hg1 hZs
      have sz := hZ.cell (i := 5) (v := .int .i64 0) rfl
      have hf := hZ.free 5
      go_upto_region 12 with (fail)
      have hZ := hZ.set 5 (.int .i64 (zag m6))
      have hR := hR.grown (grown_setCell u10 Z 5 (.int .i64 (zag m6))) hZb.symm
      have hown := own_farN hown (grown_setCell u10 Z 5 (.int .i64 (zag m6))) hSn
      have hg := grown_far hg (grown_setCell u10 Z 5 (.int .i64 (zag m6))) hsz
      have hZs := hg.size
      change Code.wp _ _ _ _ (u10.setCell ⟨Z, 5, none⟩ (.int .i64 (zag m6)))
      change BlkAt _ Z 59 [.int .i64 (zag m1), .int .i64 (zag m2), .int .i64 (zag m3), .int .i64 (zag m4), .int .i64 (zag m5), .int .i64 (zag m6)] at hZ
      generalize u10.setCell ⟨Z, 5, none⟩ (.int .i64 (zag m6)) = u11 at *
      clear sz hf
      have s0 := hZ.cell (i := 0) (v := .int .i64 (zag m1)) rfl
      have s1 := hZ.cell (i := 1) (v := .int .i64 (zag m2)) rfl
      have s2 := hZ.cell (i := 2) (v := .int .i64 (zag m3)) rfl
      have s3 := hZ.cell (i := 3) (v := .int .i64 (zag m4)) rfl
      have s4 := hZ.cell (i := 4) (v := .int .i64 (zag m5)) rfl
      have s5 := hZ.cell (i := 5) (v := .int .i64 (zag m6)) rfl
      go_wp2_with (at_builtin; refine wpList_append_lies _ rfl (.tmp 43) (.tmp 45) 32 rfl w.heap.size 59 i0 _ 6 48 Tryz.underlying32 hi0 hz0 hz1 hz2 rfl (by omega) _ _ _ rfl (hown.alloc _) ⟨u11.heap.size, 0, none⟩ 1 1 (icells [zag m1, zag m2, zag m3, zag m4, zag m5, zag m6]) rfl rfl ?c1 ?c2 (by omega) ?c3 ?c4 ?c5 (u11.heap.size + 1) (by simp) ?_)
      case c1 => first | exact World.news_of_block (heap_alloc_new _ _) | exact fun _ _ h => h
      case c2 => simp [icells, Value.oneCell']
      case c3 => unfold maxLen; omega
      case c4 => omega
      case c5 => first | omega | (simp; omega)
      intro g' cap' w' hown' hg' hat' hlt'
      have hneb := own_ne hown (D := b) (by omega)
      have hR2 : RfOn w' b S q6 x6 := (hR.alloc (.cells (icells [zag m1, zag m2, zag m3, zag m4, zag m5, zag m6]).toArray 59)).kept hg' hneb
      have hgw : w.grownBy w' (some b) := grown_own (grown_alloc hg (.cells (icells [zag m1, zag m2, zag m3, zag m4, zag m5, zag m6]).toArray 59)) hg' (fun j hj => by have := (hown.lt j hj).1; omega)
      clear hg' hat' hR hown hg hZs hZ s0 s1 s2 s3 s4 s5
      go_wp2_with fail
      go_roundw
      case rel => exact ⟨k + 1, _, by omega, by omega, rfl, by go_num, by rw [HN.out, firesCells_snoc]; exact hown', by rw [HN.out]; exact hR2, hgw⟩
      case measure => simp [intOf]; omega
    · have HX : Hid (k = n ∨ k = 9 ∨ x ≠ 0) := Lib.hid (by
        rcases Nat.lt_or_ge k n with h1 | h1
        · rcases Nat.lt_or_ge k 9 with h2 | h2
          · exact .inr (.inr fun h => hc ⟨h1, h2, h⟩)
          · exact .inr (.inl (by omega))
        · exact .inl (by omega))
      subst hfl
      have HF := Lib.hid (fires_of_own hown hk9)
      have HRR := Lib.hid hR
      have HG := Lib.hid hg
      clear hown hR hg
      by_cases h1 : P.length < n
      · have j1 : (P.length : Int) < (n : Int) := by omega
        by_cases h2 : P.length < 9
        · have j2 : (P.length : Int) < 9 := by omega
          have j3 : (x == 0) = false := by
            have : x ≠ 0 := fun h => hc ⟨h1, h2, h⟩
            simpa using this
          clear hc
          go_wp2_with fail
          go_ret
          unfold QFired
          exact ⟨_, P.length, rfl, hk, hk9, by rw [HP.out]; exact HX.out, by rw [HP.out]; exact HF.out, by rw [HP.out]; exact HRR.out, HG.out⟩
        · have j2 : ¬ (P.length : Int) < 9 := by omega
          clear hc
          go_wp2_with fail
          go_ret
          unfold QFired
          exact ⟨_, P.length, rfl, hk, hk9, by rw [HP.out]; exact HX.out, by rw [HP.out]; exact HF.out, by rw [HP.out]; exact HRR.out, HG.out⟩
      · have j1 : ¬ (P.length : Int) < (n : Int) := by omega
        clear hc
        go_wp2_with fail
        go_ret
        unfold QFired
        exact ⟨_, P.length, rfl, hk, hk9, by rw [HP.out]; exact HX.out, by rw [HP.out]; exact HF.out, by rw [HP.out]; exact HRR.out, HG.out⟩
end Go.Proofs.YtagmlgeoefemfaaGreat
