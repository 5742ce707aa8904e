/- MasterAnswers: for every setup, script, member and address the law answers true. No condition. -/
import Derived.Test.YtomfmejodmfioaaGreatMstSaid
import Derived.Test.YtomfmejodmfioaaGreatWun
namespace Go.Proofs.YtomfmejodmfioaaGreat
open Go.RowKit Go.Maps Go.ChangeShapes Go.WideShapes Go.Joins Go.Deep
set_option linter.unusedVariables false

/-- What a beat without a word is answered. -/
theorem answer_one {s : SetV} {V V' : MstV} {l l' : List UInt8} {cs cs' : List ConfV} {now : Int} {o : MopV} {said : List (Int × Int)} (h : Stepd s V l cs now o V' l' cs' said) (hi : Inv s V l cs) (hk : o.kind = 1) :
    said = [] ∨ (said = [(o.node, 0)] ∧ ¬ 0 ≤ placeC V'.cf.chain o.node o.life ∧ 0 ≤ o.node ∧ o.node < s.nodes) := by
  obtain ⟨h1, h2⟩ := h.one hk
  rw [h2, h1]
  unfold beatL
  cases hh : heardB V o.node o.life with
  | false => exact .inl rfl
  | true =>
    rw [if_pos rfl]
    split
    · exact .inl rfl
    · rename_i hp
      right
      unfold heardB at hh
      rw [decide_eq_true_eq, hi.set] at hh
      exact ⟨rfl, hp, hh.1, hh.2.1⟩
set_option maxRecDepth 100000 in
set_option maxHeartbeats 8000000 in

theorem MasterAnswers_go {w : World} {s : SetV} {a : Option Addr} {S : List MopV} {cap : Nat} (hS : MopsAt w a S) {mn ml fr : Int} (hmn : W64 mn) (hml : W64 ml) (hfr : W64 fr) :
    Calls Tryz.prog 5 #[.agg (setC7 s).toArray, .slice a S.length cap, .agg #[.int .i64 mn, .int .i64 ml], .int .i64 fr] w fun e w' => e = .returned (.bool true) ∧ Below w.heap.size w w' := by
  have hsb := (BlkAt.new w 23 (setC7 s)).alloc (.cells #[.int .i64 mn, .int .i64 ml] 42)
  have hmb := BlkAt.newAt (w := w.alloc (.cells (setC7 s).toArray 23)) (n := w.heap.size + 1) (by simp) 42 [.int .i64 mn, .int .i64 ml]
  have hb : Below w.heap.size w ((w.alloc (.cells (setC7 s).toArray 23)).alloc (.cells #[.int .i64 mn, .int .i64 ml] 42)) := ((Below.refl w.heap.size w).alloc (Nat.le_refl _) _).alloc (by simp) _
  go_enter Tryz.func5, Tryz.ntmps5
  go_upto_region 1 with (fail)
  change Code.wp _ _ _ _ ((w.alloc (.cells (setC7 s).toArray 23)).alloc (.cells #[.int .i64 mn, .int .i64 ml] 42))
  change BlkAt ((w.alloc (.cells (setC7 s).toArray 23)).alloc (.cells #[.int .i64 mn, .int .i64 ml] 42)) _ _ _ at hsb
  change BlkAt ((w.alloc (.cells (setC7 s).toArray 23)).alloc (.cells #[.int .i64 mn, .int .i64 ml] 42)) _ _ _ at hmb
  generalize ((w.alloc (.cells (setC7 s).toArray 23)).alloc (.cells #[.int .i64 mn, .int .i64 ml] 42)) = W at *
  obtain ⟨sb, hsbd⟩ : ∃ sb, sb = w.heap.size := ⟨_, rfl⟩
  obtain ⟨mb, hmbd⟩ : ∃ mb, mb = w.heap.size + 1 := ⟨_, rfl⟩
  rw [← hmbd] at hmb
  rw [← hsbd] at hsb
  rw [← hmbd, ← hsbd]
  clear hmbd hsbd
  have hlenS := hS.1
  unfold maxLen at hlenS
  have HS := Lib.hid hS
  clear hS
  go_wp2_with fail
  refine (awake15_any _).mono ?_
  rintro en w2 ⟨rfl, b2⟩
  replace hsb := hsb.below b2
  replace hmb := hmb.below b2
  replace hb := below_step hb b2
  clear b2
  have q0 : w2.cell? ⟨sb, 0, none⟩ = some (.int .i64 s.nodes) := hsb.cell rfl
  have q1 : w2.cell? ⟨sb, 1, none⟩ = some (.int .i64 s.clients) := hsb.cell rfl
  have q2 : w2.cell? ⟨sb, 2, none⟩ = some (.int .i64 s.timers) := hsb.cell rfl
  have q3 : w2.cell? ⟨sb, 3, none⟩ = some (.int .i64 s.lease) := hsb.cell rfl
  have q4 : w2.cell? ⟨sb, 4, none⟩ = some (.int .i64 s.suspect) := hsb.cell rfl
  have q5 : w2.cell? ⟨sb, 5, none⟩ = some (.int .i64 s.skew) := hsb.cell rfl
  have q6 : w2.cell? ⟨sb, 6, none⟩ = some (.int .i64 s.base) := hsb.cell rfl
  go_wp2_with fail
  refine (rmay_any s _).mono ?_
  rintro en w3 ⟨rfl, b3⟩
  clear q0 q1 q2 q3 q4 q5 q6
  replace hsb := hsb.below b3
  replace hmb := hmb.below b3
  replace hb := below_step hb b3
  clear b3
  have q0 : w3.cell? ⟨sb, 0, none⟩ = some (.int .i64 s.nodes) := hsb.cell rfl
  have q1 : w3.cell? ⟨sb, 1, none⟩ = some (.int .i64 s.clients) := hsb.cell rfl
  have q2 : w3.cell? ⟨sb, 2, none⟩ = some (.int .i64 s.timers) := hsb.cell rfl
  have q3 : w3.cell? ⟨sb, 3, none⟩ = some (.int .i64 s.lease) := hsb.cell rfl
  have q4 : w3.cell? ⟨sb, 4, none⟩ = some (.int .i64 s.suspect) := hsb.cell rfl
  have q5 : w3.cell? ⟨sb, 5, none⟩ = some (.int .i64 s.skew) := hsb.cell rfl
  have q6 : w3.cell? ⟨sb, 6, none⟩ = some (.int .i64 s.base) := hsb.cell rfl
  by_cases hgo : mayS s = true ∧ s.base ≤ 549755813888 ∧ S.length ≤ 100
  case neg =>
    have HGO := Lib.hid hgo
    clear hgo
    cases hmay : mayS s with
    | false =>
      go_wp2_with fail
      refine (awake15_any _).mono ?_
      rintro en w9 ⟨rfl, b9⟩

      replace hb := below_step hb b9
      clear b9
      go_wp2_with fail
      go_ret
      exact ⟨rfl, hb⟩
    | true =>
      by_cases hbase : 549755813888 < s.base
      · skip
        go_wp2_with fail
        refine (awake15_any _).mono ?_
        rintro en w9 ⟨rfl, b9⟩

        replace hb := below_step hb b9
        clear b9
        go_wp2_with fail
        go_ret
        exact ⟨rfl, hb⟩
      · have hlim : 100 < S.length := by
          rcases Nat.lt_or_ge 100 S.length with h | h
          · exact h
          · exact absurd ⟨hmay, by omega, h⟩ HGO.out
        have hlim' : (100 : Int) < (S.length : Int) := by omega
        go_wp2_with fail
        refine (awake15_any _).mono ?_
        rintro en w9 ⟨rfl, b9⟩

        replace hb := below_step hb b9
        clear b9
        go_wp2_with fail
        go_ret
        exact ⟨rfl, hb⟩
  obtain ⟨hmay, hbase, hlim⟩ := hgo
  have hbase' : ¬ 549755813888 < s.base := by omega
  have hlim' : ¬ (100 : Int) < (S.length : Int) := by omega
  rw [hmay]
  have hset := hmay
  have hb0 : 0 ≤ s.base := by
    unfold mayS at hset
    rw [decide_eq_true_eq] at hset
    exact hset.2.2.2.2.2.2.2.2.2.2.2.2.1
  go_wp2_with fail
  refine (made15_any hset _).mono ?_
  rintro en w4 ⟨B, p, bs, rfl, hP0⟩
  have hP := hP0.over hb
  have hSB := hsb.below hP0.low
  have hMB := hmb.below hP0.low
  have HSET := Lib.hid hset
  have HB34 := Lib.hid hb
  clear hP0 hb hsb hmb hmay hset q0 q1 q2 q3 q4 q5 q6 hbase' hlim'
  have hA : Amid w w4 B p s 0 := ⟨_, _, _, _, _, hP, hb0, by omega⟩
  clear hP
  go_wp2_with fail
  go_loopw [48] (fun i wr => ∃ k : Nat, k ≤ S.length ∧ i = .int .i64 k ∧ Amid w wr B p s k ∧ BlkAt wr sb 23 (setC7 s) ∧ BlkAt wr mb 42 [.int .i64 mn, .int .i64 ml]) (fun i _ => S.length - (intOf i).toNat)
  case atStart => exact ⟨0, Nat.zero_le _, rfl, hA, hSB, hMB⟩
  case round =>
    obtain ⟨k, hk, rfl, hAr, hSBr, hMBr⟩ := hrel
    clear hA hSB hMB
    have hSB := hSBr
    have hMB := hMBr
    clear hSBr hMBr
    obtain ⟨V, l, cs, now, bs, hP, hn0, hn1⟩ := hAr
    by_cases hlt : k < S.length
    · skip
      obtain ⟨sB, soff, rfl, sab, hc⟩ := HS.out.2.2 (by omega)
      obtain ⟨o, ho⟩ : ∃ o, S[k]? = some o := ⟨_, List.getElem?_eq_getElem hlt⟩
      have hop : MopOk o := HS.out.2.1 o (List.mem_of_getElem? ho)
      have hat := (hc k o ho).of (w' := wr) fun j => hP.low.cell (p := ⟨sB, j, none⟩) sab
      obtain ⟨kd, d0, e0, kp, nd, lf, fl⟩ := o
      have t0 : wr.cell? ⟨sB, soff + k * 7, none⟩ = some (.int .i64 kd) := hat 0 _ rfl
      have t1 : wr.cell? ⟨sB, soff + k * 7 + 1, none⟩ = some (.int .i64 d0) := hat 1 _ rfl
      have t2 : wr.cell? ⟨sB, soff + k * 7 + 2, none⟩ = some (.int .i64 e0) := hat 2 _ rfl
      have t3 : wr.cell? ⟨sB, soff + k * 7 + 3, none⟩ = some (.int .i64 kp) := hat 3 _ rfl
      have t4 : wr.cell? ⟨sB, soff + k * 7 + 4, none⟩ = some (.int .i64 nd) := hat 4 _ rfl
      have t5 : wr.cell? ⟨sB, soff + k * 7 + 5, none⟩ = some (.int .i64 lf) := hat 5 _ rfl
      have t6 : wr.cell? ⟨sB, soff + k * 7 + 6, none⟩ = some (.bool fl) := hat 6 _ rfl
      have HO := Lib.hid ho
      have HOP := Lib.hid hop
      clear hat hc ho hop
      have hb := Below.refl wr.heap.size wr
      go_upto_region 9 with (fail)
      have hT := BlkAt.new wr 44 [.int .i64 kd, .int .i64 d0, .int .i64 e0, .int .i64 kp, .int .i64 nd, .int .i64 lf, .bool fl]
      replace hP := hP.below ((Below.refl _ _).alloc (Nat.le_refl _) (.cells #[.int .i64 kd, .int .i64 d0, .int .i64 e0, .int .i64 kp, .int .i64 nd, .int .i64 lf, .bool fl] 44))
      replace hSB := hSB.below ((Below.refl _ _).alloc (Nat.le_refl _) (.cells #[.int .i64 kd, .int .i64 d0, .int .i64 e0, .int .i64 kp, .int .i64 nd, .int .i64 lf, .bool fl] 44))
      replace hMB := hMB.below ((Below.refl _ _).alloc (Nat.le_refl _) (.cells #[.int .i64 kd, .int .i64 d0, .int .i64 e0, .int .i64 kp, .int .i64 nd, .int .i64 lf, .bool fl] 44))
      replace hb := hb.alloc hb.size (.cells #[.int .i64 kd, .int .i64 d0, .int .i64 e0, .int .i64 kp, .int .i64 nd, .int .i64 lf, .bool fl] 44)
      change Code.wp _ _ _ _ (wr.alloc (.cells #[.int .i64 kd, .int .i64 d0, .int .i64 e0, .int .i64 kp, .int .i64 nd, .int .i64 lf, .bool fl] 44))
      change BlkAt (wr.alloc (.cells #[.int .i64 kd, .int .i64 d0, .int .i64 e0, .int .i64 kp, .int .i64 nd, .int .i64 lf, .bool fl] 44)) _ _ _ at hT
      have hTn := (show wr.heap.size ≤ wr.heap.size from Nat.le_refl _)
      generalize wr.alloc (.cells #[.int .i64 kd, .int .i64 d0, .int .i64 e0, .int .i64 kp, .int .i64 nd, .int .i64 lf, .bool fl] 44) = w5 at *
      generalize wr.heap.size = T at hT ⊢
      clear hTn
      clear t0 t1 t2 t3 t4 t5 t6
      have t0 : w5.cell? ⟨T, 0, none⟩ = some (.int .i64 kd) := hT.cell rfl
      have t1 : w5.cell? ⟨T, 1, none⟩ = some (.int .i64 d0) := hT.cell rfl
      have t2 : w5.cell? ⟨T, 2, none⟩ = some (.int .i64 e0) := hT.cell rfl
      have t3 : w5.cell? ⟨T, 3, none⟩ = some (.int .i64 kp) := hT.cell rfl
      have t4 : w5.cell? ⟨T, 4, none⟩ = some (.int .i64 nd) := hT.cell rfl
      have t5 : w5.cell? ⟨T, 5, none⟩ = some (.int .i64 lf) := hT.cell rfl
      have t6 : w5.cell? ⟨T, 6, none⟩ = some (.bool fl) := hT.cell rfl
      go_wp2_with fail
      refine (play_any (by exact hP) HSET.out HOP.out (by omega) (by omega) rfl).mono ?_
      rintro en w6 ⟨v, V', l', cs', said, bs', rfl, hSd, hP', hKp, hFN, hst⟩
      obtain ⟨SA, Scap, rfl⟩ := hSd.form
      have hnw := nowP_in now d0
      have HA : Hid (Amid w w6 B p s (k + 1)) := Lib.hid ⟨_, _, _, _, _, ply_next (N := 0) hP', by simp only; omega, by simp only; omega⟩
      have HSB := Lib.hid (hSB.keepP hKp (by decide) (by decide) (by decide) (by decide) (by decide))
      have HMB := Lib.hid (hMB.keepP hKp (by decide) (by decide) (by decide) (by decide) (by decide))
      clear hSd hP' hKp hFN hst hnw hT hP hb t0 t1 t2 t3 t4 t5 t6 hSB hMB
      go_wp2_with fail
      go_roundw
      case rel => exact ⟨k + 1, by omega, by go_num, HA.out, HSB.out, HMB.out⟩
      case measure => simp [intOf]; omega
    · obtain ⟨x, b, hbs, hX, hO⟩ := hP.own
      have c8 : wr.cell? ⟨p, 8, none⟩ = some (.pointer (some ⟨x, 0, none⟩)) := hX.cell rfl
      have hb := Below.refl wr.heap.size wr
      go_wp2_with fail
      refine (mconfig_any (by exact hO.mst)).mono ?_
      rintro en w5 ⟨A, cap5, rfl, hC, b5⟩
      clear c8 hX hO hbs
      replace hP := hP.below b5
      replace hSB := hSB.below b5
      replace hMB := hMB.below b5
      replace hb := below_step hb b5
      clear b5
      go_upto_region 14 with (fail)
      have hZ1 := BlkAt.new w5 35 [.int .i64 V.cf.epoch, .slice A V.cf.chain.length cap5]
      replace hP := hP.below ((Below.refl _ _).alloc (Nat.le_refl _) (.cells #[.int .i64 V.cf.epoch, .slice A V.cf.chain.length cap5] 35))
      replace hSB := hSB.below ((Below.refl _ _).alloc (Nat.le_refl _) (.cells #[.int .i64 V.cf.epoch, .slice A V.cf.chain.length cap5] 35))
      replace hMB := hMB.below ((Below.refl _ _).alloc (Nat.le_refl _) (.cells #[.int .i64 V.cf.epoch, .slice A V.cf.chain.length cap5] 35))
      replace hC := hC.below ((Below.refl _ _).alloc (Nat.le_refl _) (.cells #[.int .i64 V.cf.epoch, .slice A V.cf.chain.length cap5] 35))
      replace hb := hb.alloc hb.size (.cells #[.int .i64 V.cf.epoch, .slice A V.cf.chain.length cap5] 35)
      change Code.wp _ _ _ _ (w5.alloc (.cells #[.int .i64 V.cf.epoch, .slice A V.cf.chain.length cap5] 35))
      change BlkAt (w5.alloc (.cells #[.int .i64 V.cf.epoch, .slice A V.cf.chain.length cap5] 35)) _ _ _ at hZ1
      have hZ1n := (show w5.heap.size ≤ w5.heap.size from Nat.le_refl _)
      generalize w5.alloc (.cells #[.int .i64 V.cf.epoch, .slice A V.cf.chain.length cap5] 35) = w6 at *
      generalize w5.heap.size = Z1 at hZ1 ⊢
      clear hZ1n
      clear hb
      have hw0 : W64 0 := W64.mk (by decide) (by decide)
      have hw1 : W64 1 := W64.mk (by decide) (by decide)
      have hw5 : W64 5 := W64.mk (by decide) (by decide)
      have HO5 : Hid (MopOk ⟨5, 0, fr, 0, 0, 0, false⟩) := Lib.hid ⟨hw5, hw0, hfr, hw0, hw0, hw0⟩
      have HO1 : Hid (MopOk ⟨1, 0, 0, 0, mn, ml, false⟩) := Lib.hid ⟨hw1, hw0, hw0, hw0, hmn, hml⟩
      clear hw0 hw1 hw5
      go_wp2_with fail
      refine (play_any (o := ⟨5, 0, fr, 0, 0, 0, false⟩) (by exact hP) HSET.out HO5.out (by omega) (by omega) (nowP_zero now)).mono ?_
      rintro en w7 ⟨v, V', l', cs', said, bs', rfl, hSd, hP', hKp, hFN, hst⟩
      obtain ⟨e1, e2, e3, hsaid⟩ := hst.five rfl
      have e1 := e1.symm
      have e2 := e2.symm
      have e3 := e3.symm
      subst e1 e2 e3
      simp only at hsaid
      have hSB7 := hSB.keepP hKp (by decide) (by decide) (by decide) (by decide) (by decide)
      have hMB7 := hMB.keepP hKp (by decide) (by decide) (by decide) (by decide) (by decide)
      have hZ17 := hZ1.keepP hKp (by decide) (by decide) (by decide) (by decide) (by decide)
      have hC7 := hC.keepP hKp
      clear hSB hMB hZ1 hC hP hKp hFN hst
      have hP := hP'
      have hSB := hSB7
      have hMB := hMB7
      have hZ1 := hZ17
      have hC := hC7
      clear hP' hSB7 hMB7 hZ17 hC7
      by_cases hfr1 : fr < 100
      · rw [if_pos hfr1] at hsaid
        subst hsaid
        obtain ⟨SA, Scap, rfl⟩ := hSd.form
        clear hSd
        have hfd : decide (100 ≤ fr) = false := decide_eq_false (by omega)
        have hfe : decide (fr < 100) = true := decide_eq_true hfr1
        go_upto_region 15 with (fail)
        have hb := Below.refl w7.heap.size w7
        have bd : Below w7.heap.size w7 w7.drew := below_drewN (Below.refl _ _) 1
        replace hP := hP.below bd
        replace hSB := hSB.below bd
        replace hMB := hMB.below bd
        replace hZ1 := hZ1.below bd
        replace hC := hC.below bd
        replace hb := below_step hb bd
        clear bd
        refine wp_region_noPanic ?_
        refine wp_region_held_drew (S := (fun w' => w'.cell? ⟨Z1, 0, none⟩ = some (.int .i64 V.cf.epoch))) (by kernel_rfl) (by exact hZ1.cell rfl) (fun hHeld => ?_)
        refine wtk 0 hHeld ?_
        refine wtk 1 hHeld ?_
        refine wtk 2 hHeld ?_
        refine wun 3 hHeld ?_
        refine wun 4 hHeld ?_
        refine wun 5 hHeld ?_
        refine wun 6 hHeld ?_
        refine wun 7 hHeld ?_
        refine wun 8 hHeld ?_
        refine wun 9 hHeld ?_
        refine wun 10 hHeld ?_
        refine wun 11 hHeld ?_
        refine wun 12 hHeld ?_
        refine wun 13 hHeld ?_
        refine wun 14 hHeld ?_
        refine wun 15 hHeld ?_
        refine wun 16 hHeld ?_
        refine wun 17 hHeld ?_
        refine wun 18 hHeld ?_
        refine wun 19 hHeld ?_
        refine wun 20 hHeld ?_
        refine wun 21 hHeld ?_
        refine wun 22 hHeld ?_
        refine wun 23 hHeld ?_
        refine wun 24 hHeld ?_
        refine wun 25 hHeld ?_
        refine wun 26 hHeld ?_
        refine wun 27 hHeld ?_
        refine wun 28 hHeld ?_
        refine wun 29 hHeld ?_
        refine wtk 30 hHeld ?_
        refine wtk 31 hHeld ?_
        refine wtk 32 hHeld ?_
        refine wtk 33 hHeld ?_
        refine wtk 34 hHeld ?_
        refine wtk 35 hHeld ?_
        refine wtk 36 hHeld ?_
        refine wtk 37 hHeld ?_
        refine wtk 38 hHeld ?_
        refine wtk 39 hHeld ?_
        refine wpAnyH_done (by kernel_rfl) ?_ _
        refine NoPanic.normal ?_
        clear hHeld hb
        generalize w7.drew = v1 at *
        have m0 : v1.cell? ⟨mb, 0, none⟩ = some (.int .i64 mn) := hMB.cell rfl
        have m1 : v1.cell? ⟨mb, 1, none⟩ = some (.int .i64 ml) := hMB.cell rfl
        go_wp2_with fail
        refine (play_any (o := ⟨1, 0, 0, 0, mn, ml, false⟩) (by exact hP) HSET.out HO1.out (by omega) (by omega) (nowP_zero now)).mono ?_
        rintro en w9 ⟨v2, V2, l2, cs2, said2, bs2, rfl, hSd2, hP', hKp, hFN, hst⟩
        obtain ⟨SA2, Scap2, rfl⟩ := hSd2.form
        have HFOL := Lib.hid (hst.follows hP.inv)
        have HAN := Lib.hid (answer_one hst hP.inv rfl)
        clear hP hFN hst m0 m1
        have hP := hP'
        clear hP'
        have hSB7 := hSB.keepP hKp (by decide) (by decide) (by decide) (by decide) (by decide)
        have hMB7 := hMB.keepP hKp (by decide) (by decide) (by decide) (by decide) (by decide)
        have hZ17 := hZ1.keepP hKp (by decide) (by decide) (by decide) (by decide) (by decide)
        have hC7 := hC.keepP hKp
        clear hSB hMB hZ1 hC
        have hSB := hSB7
        have hMB := hMB7
        have hZ1 := hZ17
        have hC := hC7
        clear hSB7 hMB7 hZ17 hC7
        clear hKp
        obtain ⟨x2, b2, hbs2, hX, hO⟩ := hP.own
        have c8 : w9.cell? ⟨p, 8, none⟩ = some (.pointer (some ⟨x2, 0, none⟩)) := hX.cell rfl
        have hb := Below.refl w9.heap.size w9
        go_wp2_with fail
        refine (mconfig_any (by exact hO.mst)).mono ?_
        rintro en w10 ⟨A7, cap7, rfl, hC2, b5⟩
        clear c8 hX hO hbs2
        replace hP := hP.below b5
        replace hSB := hSB.below b5
        replace hMB := hMB.below b5
        replace hZ1 := hZ1.below b5
        replace hC := hC.below b5
        replace hSd2 := hSd2.below b5
        replace hb := below_step hb b5
        clear b5
        go_upto_region 19 with (fail)
        have hZ2 := BlkAt.new w10 35 [.int .i64 V2.cf.epoch, .slice A7 V2.cf.chain.length cap7]
        replace hP := hP.below ((Below.refl _ _).alloc (Nat.le_refl _) (.cells #[.int .i64 V2.cf.epoch, .slice A7 V2.cf.chain.length cap7] 35))
        replace hSB := hSB.below ((Below.refl _ _).alloc (Nat.le_refl _) (.cells #[.int .i64 V2.cf.epoch, .slice A7 V2.cf.chain.length cap7] 35))
        replace hMB := hMB.below ((Below.refl _ _).alloc (Nat.le_refl _) (.cells #[.int .i64 V2.cf.epoch, .slice A7 V2.cf.chain.length cap7] 35))
        replace hZ1 := hZ1.below ((Below.refl _ _).alloc (Nat.le_refl _) (.cells #[.int .i64 V2.cf.epoch, .slice A7 V2.cf.chain.length cap7] 35))
        replace hC := hC.below ((Below.refl _ _).alloc (Nat.le_refl _) (.cells #[.int .i64 V2.cf.epoch, .slice A7 V2.cf.chain.length cap7] 35))
        replace hC2 := hC2.below ((Below.refl _ _).alloc (Nat.le_refl _) (.cells #[.int .i64 V2.cf.epoch, .slice A7 V2.cf.chain.length cap7] 35))
        replace hSd2 := hSd2.below ((Below.refl _ _).alloc (Nat.le_refl _) (.cells #[.int .i64 V2.cf.epoch, .slice A7 V2.cf.chain.length cap7] 35))
        replace hb := hb.alloc hb.size (.cells #[.int .i64 V2.cf.epoch, .slice A7 V2.cf.chain.length cap7] 35)
        change Code.wp _ _ _ _ (w10.alloc (.cells #[.int .i64 V2.cf.epoch, .slice A7 V2.cf.chain.length cap7] 35))
        change BlkAt (w10.alloc (.cells #[.int .i64 V2.cf.epoch, .slice A7 V2.cf.chain.length cap7] 35)) _ _ _ at hZ2
        have hZ2n := (show w10.heap.size ≤ w10.heap.size from Nat.le_refl _)
        generalize w10.alloc (.cells #[.int .i64 V2.cf.epoch, .slice A7 V2.cf.chain.length cap7] 35) = w11 at *
        generalize w10.heap.size = Z2 at hZ2 ⊢
        clear hZ2n
        clear hb
        rcases HAN.out with hsd | ⟨hsd, hpl, hnn0, hnn1⟩
        · subst hsd
          clear hSd2 HAN
          go_upto_region 19 with (fail)
          have hb := Below.refl w11.heap.size w11
          have bd : Below w11.heap.size w11 w11.drew := below_drewN (Below.refl _ _) 1
          replace hP := hP.below bd
          replace hSB := hSB.below bd
          replace hMB := hMB.below bd
          replace hZ1 := hZ1.below bd
          replace hC := hC.below bd
          replace hZ2 := hZ2.below bd
          replace hC2 := hC2.below bd
          replace hb := below_step hb bd
          clear bd
          refine wp_region_noPanic ?_
          refine wp_region_held_drew (S := (fun w' => w'.cell? ⟨Z1, 0, none⟩ = some (.int .i64 V.cf.epoch))) (by kernel_rfl) (by exact hZ1.cell rfl) (fun hHeld => ?_)
          refine wtk 0 hHeld ?_
          refine wtk 1 hHeld ?_
          refine wtk 2 hHeld ?_
          refine wtk 3 hHeld ?_
          refine wun 4 hHeld ?_
          refine wun 5 hHeld ?_
          refine wun 6 hHeld ?_
          refine wun 7 hHeld ?_
          refine wun 8 hHeld ?_
          refine wun 9 hHeld ?_
          refine wun 10 hHeld ?_
          refine wun 11 hHeld ?_
          refine wun 12 hHeld ?_
          refine wun 13 hHeld ?_
          refine wun 14 hHeld ?_
          refine wun 15 hHeld ?_
          refine wun 16 hHeld ?_
          refine wun 17 hHeld ?_
          refine wun 18 hHeld ?_
          refine wun 19 hHeld ?_
          refine wun 20 hHeld ?_
          refine wun 21 hHeld ?_
          refine wun 22 hHeld ?_
          refine wun 23 hHeld ?_
          refine wun 24 hHeld ?_
          refine wun 25 hHeld ?_
          refine wun 26 hHeld ?_
          refine wun 27 hHeld ?_
          refine wun 28 hHeld ?_
          refine wun 29 hHeld ?_
          refine wun 30 hHeld ?_
          refine wun 31 hHeld ?_
          refine wun 32 hHeld ?_
          refine wun 33 hHeld ?_
          refine wun 34 hHeld ?_
          refine wun 35 hHeld ?_
          refine wun 36 hHeld ?_
          refine wun 37 hHeld ?_
          refine wun 38 hHeld ?_
          refine wun 39 hHeld ?_
          refine wun 40 hHeld ?_
          refine wtk 41 hHeld ?_
          refine wpAnyH_done (by kernel_rfl) ?_ _
          refine NoPanic.normal ?_
          clear hHeld hb
          generalize w11.drew = v3 at *
          have z10 : v3.cell? ⟨Z1, 0, none⟩ = some (.int .i64 V.cf.epoch) := hZ1.cell rfl
          have z11 : v3.cell? ⟨Z1, 1, none⟩ = some (.slice A V.cf.chain.length cap5) := hZ1.cell rfl
          have z20 : v3.cell? ⟨Z2, 0, none⟩ = some (.int .i64 V2.cf.epoch) := hZ2.cell rfl
          have z21 : v3.cell? ⟨Z2, 1, none⟩ = some (.slice A7 V2.cf.chain.length cap7) := hZ2.cell rfl
          have HL := Lib.hid hP.low
          clear hP
          go_wp2_with fail
          refine (cfollows_at (by exact hC.1) (by exact hC2.1) (b := true) HFOL.out).mono ?_
          rintro en u9 ⟨rfl, bz⟩
          have HB := Lib.hid (below_step HL.out bz)
          clear z10 z11 z20 z21 bz hZ1 hZ2 hC hC2 hSB hMB
          go_wp2_with fail
          go_ret
          exact ⟨rfl, HB.out⟩
        · subst hsd
          clear HAN
          obtain ⟨g, gcap, A9, cap9, hv, hgB, hG⟩ := hSd2.get (i := 0) rfl
          injection hv with e1 e2 e3
          subst e1 e3
          clear e2 hgB hSd2
          simp only [Nat.zero_mul] at hG
          obtain ⟨pl, hplq⟩ : ∃ pl, placeC V2.cf.chain mn ml = pl := ⟨_, rfl⟩
          have HPL := Lib.hid hplq
          rw [hplq] at hpl
          clear hplq
          have hpd : decide (0 ≤ pl) = false := decide_eq_false (by omega)
          have hnd : decide (mn < 0) = false := decide_eq_false (by omega)
          have hne : decide (s.nodes ≤ mn) = false := decide_eq_false (by omega)
          go_upto_region 19 with (fail)
          have hb := Below.refl w11.heap.size w11
          have bd : Below w11.heap.size w11 w11.drew := below_drewN (Below.refl _ _) 1
          replace hP := hP.below bd
          replace hSB := hSB.below bd
          replace hMB := hMB.below bd
          replace hZ1 := hZ1.below bd
          replace hC := hC.below bd
          replace hZ2 := hZ2.below bd
          replace hC2 := hC2.below bd
          replace hG := hG.below bd
          replace hb := below_step hb bd
          clear bd
          refine wp_region_noPanic ?_
          refine wp_region_held_drew (S := (fun w' => w'.cell? ⟨Z2, 0, none⟩ = some (.int .i64 V2.cf.epoch) ∧ w'.cell? ⟨Z2, 1, none⟩ = some (.slice A7 V2.cf.chain.length cap7) ∧ w'.cell? ⟨mb, 0, none⟩ = some (.int .i64 mn) ∧ w'.cell? ⟨mb, 1, none⟩ = some (.int .i64 ml) ∧ w'.cell? ⟨sb, 0, none⟩ = some (.int .i64 s.nodes) ∧ w'.cell? ⟨g, 1, none⟩ = some (.int .i64 mn) ∧ w'.cell? ⟨g, 9, none⟩ = some (.int .i64 0))) (by kernel_rfl) (by exact ⟨hZ2.cell rfl, hZ2.cell rfl, hMB.cell rfl, hMB.cell rfl, hSB.cell rfl, hG.1 1 _ rfl, hG.1 9 _ rfl⟩) (fun hHeld => ?_)
          refine wtk 0 hHeld ?_
          refine wtk 1 hHeld ?_
          refine wtk 2 hHeld ?_
          refine wtk 3 hHeld ?_
          refine wtk 4 hHeld ?_
          refine wtk 5 hHeld ?_
          refine wtk 6 hHeld ?_
          refine wtk 7 hHeld ?_
          refine wtk 8 hHeld ?_
          refine wtk 9 hHeld ?_
          refine wtk 10 hHeld ?_
          refine wtk 11 hHeld ?_
          refine wtk 12 hHeld ?_
          refine wtk 13 hHeld ?_
          refine wtk 14 hHeld ?_
          refine wtk 15 hHeld ?_
          refine wtk 16 hHeld ?_
          refine wtk 17 hHeld ?_
          refine wtk 18 hHeld ?_
          refine wpAnyH_ready (rs := [19]) (by kernel_rfl) (by simp) (AllReadyH.cons (o := ?oq_3_19) ?op_3_19 (fun K hK => ?re_3_19) AllReadyH.nil)
          case op_3_19 => (simp only [List.getElem?_toArray, List.getElem?_cons_succ, List.getElem?_cons_zero]; rfl)
          go_simp
          go_at_call 15
          refine (qcplace_at (by exact hC2.1) V2.cf.epoch (p := pl) HPL.out).mono ?_
          rintro en v9 ⟨rfl, bz⟩
          replace hP := hP.below bz
          replace hSB := hSB.below bz
          replace hMB := hMB.below bz
          replace hZ1 := hZ1.below bz
          replace hC := hC.below bz
          replace hZ2 := hZ2.below bz
          replace hC2 := hC2.below bz
          replace hG := hG.below bz
          replace hb := below_step hb bz
          clear bz
          refine hK.out _ _ (by exact ⟨hZ2.cell rfl, hZ2.cell rfl, hMB.cell rfl, hMB.cell rfl, hSB.cell rfl, hG.1 1 _ rfl, hG.1 9 _ rfl⟩) (fun hHeld => ?_)
          clear hK K
          try simp only [Act.put, List.setIfInBounds_toArray, List.set_cons_zero, List.set_cons_succ]
          refine wtk 20 hHeld ?_
          refine wtk 21 hHeld ?_
          refine wtk 22 hHeld ?_
          refine wtk 23 hHeld ?_
          refine wtk 24 hHeld ?_
          refine wtk 25 hHeld ?_
          refine wtk 26 hHeld ?_
          refine wtk 27 hHeld ?_
          refine wtk 28 hHeld ?_
          refine wtk 29 hHeld ?_
          refine wtk 30 hHeld ?_
          refine wtk 31 hHeld ?_
          refine wtk 32 hHeld ?_
          refine wtk 33 hHeld ?_
          refine wtk 34 hHeld ?_
          refine wtk 35 hHeld ?_
          refine wtk 36 hHeld ?_
          refine wtk 37 hHeld ?_
          refine wtk 38 hHeld ?_
          refine wtk 39 hHeld ?_
          refine wtk 40 hHeld ?_
          refine wtk 41 hHeld ?_
          refine wpAnyH_done (by kernel_rfl) ?_ _
          refine NoPanic.normal ?_
          clear hHeld hb hG
          have z10 : v9.cell? ⟨Z1, 0, none⟩ = some (.int .i64 V.cf.epoch) := hZ1.cell rfl
          have z11 : v9.cell? ⟨Z1, 1, none⟩ = some (.slice A V.cf.chain.length cap5) := hZ1.cell rfl
          have z20 : v9.cell? ⟨Z2, 0, none⟩ = some (.int .i64 V2.cf.epoch) := hZ2.cell rfl
          have z21 : v9.cell? ⟨Z2, 1, none⟩ = some (.slice A7 V2.cf.chain.length cap7) := hZ2.cell rfl
          have HL := Lib.hid hP.low
          clear hP
          go_wp2_with fail
          refine (cfollows_at (by exact hC.1) (by exact hC2.1) (b := true) HFOL.out).mono ?_
          rintro en u9 ⟨rfl, bz⟩
          have HB := Lib.hid (below_step HL.out bz)
          clear z10 z11 z20 z21 bz hZ1 hZ2 hC hC2 hSB hMB
          go_wp2_with fail
          go_ret
          exact ⟨rfl, HB.out⟩
      · rw [if_neg hfr1] at hsaid
        subst hsaid
        have hfd : decide (100 ≤ fr) = true := decide_eq_true (by omega)
        have hfe : decide (fr < 100) = false := decide_eq_false hfr1
        obtain ⟨g, gcap, SA, Scap, rfl, hgB, hG⟩ := hSd.get (i := 0) rfl
        simp only [Nat.zero_mul] at hG
        clear hSd hgB
        go_upto_region 15 with (fail)
        have hb := Below.refl w7.heap.size w7
        have bd : Below w7.heap.size w7 w7.drew := below_drewN (Below.refl _ _) 1
        replace hP := hP.below bd
        replace hSB := hSB.below bd
        replace hMB := hMB.below bd
        replace hZ1 := hZ1.below bd
        replace hC := hC.below bd
        replace hG := hG.below bd
        replace hb := below_step hb bd
        clear bd
        refine wp_region_noPanic ?_
        refine wp_region_held_drew (S := (fun w' => w'.cell? ⟨Z1, 0, none⟩ = some (.int .i64 V.cf.epoch) ∧ w'.cell? ⟨Z1, 1, none⟩ = some (.slice A V.cf.chain.length cap5) ∧ w'.cell? ⟨g, 1, none⟩ = some (.int .i64 fr) ∧ w'.cell? ⟨g, 9, none⟩ = some (.int .i64 0) ∧ w'.cell? ⟨g, 24, none⟩ = some (.int .i64 V.cf.epoch) ∧ w'.cell? ⟨g, 25, none⟩ = some (.slice SA V.cf.chain.length Scap))) (by kernel_rfl) (by exact ⟨hZ1.cell rfl, hZ1.cell rfl, hG.1 1 _ rfl, hG.1 9 _ rfl, hG.1 24 _ rfl, hG.1 25 _ rfl⟩) (fun hHeld => ?_)
        refine wtk 0 hHeld ?_
        refine wtk 1 hHeld ?_
        refine wtk 2 hHeld ?_
        refine wtk 3 hHeld ?_
        refine wtk 4 hHeld ?_
        refine wtk 5 hHeld ?_
        refine wtk 6 hHeld ?_
        refine wtk 7 hHeld ?_
        refine wtk 8 hHeld ?_
        refine wtk 9 hHeld ?_
        refine wtk 10 hHeld ?_
        refine wtk 11 hHeld ?_
        refine wtk 12 hHeld ?_
        refine wtk 13 hHeld ?_
        refine wtk 14 hHeld ?_
        refine wtk 15 hHeld ?_
        refine wtk 16 hHeld ?_
        refine wtk 17 hHeld ?_
        refine wtk 18 hHeld ?_
        refine wtk 19 hHeld ?_
        refine wpAnyH_ready (rs := [20]) (by kernel_rfl) (by simp) (AllReadyH.cons (o := ?oq_4_20) ?op_4_20 (fun K hK => ?re_4_20) AllReadyH.nil)
        case op_4_20 => (simp only [List.getElem?_toArray, List.getElem?_cons_succ, List.getElem?_cons_zero]; rfl)
        go_simp
        go_at_call 17
        refine (qcsame_at (by exact hG.2.1.1) (by exact hC.1) (b := true) (sameC_iff.2 rfl)).mono ?_
        rintro en v1 ⟨rfl, bz⟩
        replace hP := hP.below bz
        replace hSB := hSB.below bz
        replace hMB := hMB.below bz
        replace hZ1 := hZ1.below bz
        replace hC := hC.below bz
        replace hG := hG.below bz
        replace hb := below_step hb bz
        clear bz
        refine hK.out _ _ (by exact ⟨hZ1.cell rfl, hZ1.cell rfl, hG.1 1 _ rfl, hG.1 9 _ rfl, hG.1 24 _ rfl, hG.1 25 _ rfl⟩) (fun hHeld => ?_)
        clear hK K
        try simp only [Act.put, List.setIfInBounds_toArray, List.set_cons_zero, List.set_cons_succ]
        refine wtk 21 hHeld ?_
        refine wtk 22 hHeld ?_
        refine wtk 23 hHeld ?_
        refine wtk 24 hHeld ?_
        refine wtk 25 hHeld ?_
        refine wtk 26 hHeld ?_
        refine wtk 27 hHeld ?_
        refine wtk 28 hHeld ?_
        refine wtk 29 hHeld ?_
        refine wtk 30 hHeld ?_
        refine wtk 31 hHeld ?_
        refine wtk 32 hHeld ?_
        refine wtk 33 hHeld ?_
        refine wtk 34 hHeld ?_
        refine wun 35 hHeld ?_
        refine wun 36 hHeld ?_
        refine wun 37 hHeld ?_
        refine wtk 38 hHeld ?_
        refine wtk 39 hHeld ?_
        refine wpAnyH_done (by kernel_rfl) ?_ _
        refine NoPanic.normal ?_
        clear hHeld hb hG
        have m0 : v1.cell? ⟨mb, 0, none⟩ = some (.int .i64 mn) := hMB.cell rfl
        have m1 : v1.cell? ⟨mb, 1, none⟩ = some (.int .i64 ml) := hMB.cell rfl
        go_wp2_with fail
        refine (play_any (o := ⟨1, 0, 0, 0, mn, ml, false⟩) (by exact hP) HSET.out HO1.out (by omega) (by omega) (nowP_zero now)).mono ?_
        rintro en w9 ⟨v2, V2, l2, cs2, said2, bs2, rfl, hSd2, hP', hKp, hFN, hst⟩
        obtain ⟨SA2, Scap2, rfl⟩ := hSd2.form
        have HFOL := Lib.hid (hst.follows hP.inv)
        have HAN := Lib.hid (answer_one hst hP.inv rfl)
        clear hP hFN hst m0 m1
        have hP := hP'
        clear hP'
        have hSB7 := hSB.keepP hKp (by decide) (by decide) (by decide) (by decide) (by decide)
        have hMB7 := hMB.keepP hKp (by decide) (by decide) (by decide) (by decide) (by decide)
        have hZ17 := hZ1.keepP hKp (by decide) (by decide) (by decide) (by decide) (by decide)
        have hC7 := hC.keepP hKp
        clear hSB hMB hZ1 hC
        have hSB := hSB7
        have hMB := hMB7
        have hZ1 := hZ17
        have hC := hC7
        clear hSB7 hMB7 hZ17 hC7
        clear hKp
        obtain ⟨x2, b2, hbs2, hX, hO⟩ := hP.own
        have c8 : w9.cell? ⟨p, 8, none⟩ = some (.pointer (some ⟨x2, 0, none⟩)) := hX.cell rfl
        have hb := Below.refl w9.heap.size w9
        go_wp2_with fail
        refine (mconfig_any (by exact hO.mst)).mono ?_
        rintro en w10 ⟨A7, cap7, rfl, hC2, b5⟩
        clear c8 hX hO hbs2
        replace hP := hP.below b5
        replace hSB := hSB.below b5
        replace hMB := hMB.below b5
        replace hZ1 := hZ1.below b5
        replace hC := hC.below b5
        replace hSd2 := hSd2.below b5
        replace hb := below_step hb b5
        clear b5
        go_upto_region 19 with (fail)
        have hZ2 := BlkAt.new w10 35 [.int .i64 V2.cf.epoch, .slice A7 V2.cf.chain.length cap7]
        replace hP := hP.below ((Below.refl _ _).alloc (Nat.le_refl _) (.cells #[.int .i64 V2.cf.epoch, .slice A7 V2.cf.chain.length cap7] 35))
        replace hSB := hSB.below ((Below.refl _ _).alloc (Nat.le_refl _) (.cells #[.int .i64 V2.cf.epoch, .slice A7 V2.cf.chain.length cap7] 35))
        replace hMB := hMB.below ((Below.refl _ _).alloc (Nat.le_refl _) (.cells #[.int .i64 V2.cf.epoch, .slice A7 V2.cf.chain.length cap7] 35))
        replace hZ1 := hZ1.below ((Below.refl _ _).alloc (Nat.le_refl _) (.cells #[.int .i64 V2.cf.epoch, .slice A7 V2.cf.chain.length cap7] 35))
        replace hC := hC.below ((Below.refl _ _).alloc (Nat.le_refl _) (.cells #[.int .i64 V2.cf.epoch, .slice A7 V2.cf.chain.length cap7] 35))
        replace hC2 := hC2.below ((Below.refl _ _).alloc (Nat.le_refl _) (.cells #[.int .i64 V2.cf.epoch, .slice A7 V2.cf.chain.length cap7] 35))
        replace hSd2 := hSd2.below ((Below.refl _ _).alloc (Nat.le_refl _) (.cells #[.int .i64 V2.cf.epoch, .slice A7 V2.cf.chain.length cap7] 35))
        replace hb := hb.alloc hb.size (.cells #[.int .i64 V2.cf.epoch, .slice A7 V2.cf.chain.length cap7] 35)
        change Code.wp _ _ _ _ (w10.alloc (.cells #[.int .i64 V2.cf.epoch, .slice A7 V2.cf.chain.length cap7] 35))
        change BlkAt (w10.alloc (.cells #[.int .i64 V2.cf.epoch, .slice A7 V2.cf.chain.length cap7] 35)) _ _ _ at hZ2
        have hZ2n := (show w10.heap.size ≤ w10.heap.size from Nat.le_refl _)
        generalize w10.alloc (.cells #[.int .i64 V2.cf.epoch, .slice A7 V2.cf.chain.length cap7] 35) = w11 at *
        generalize w10.heap.size = Z2 at hZ2 ⊢
        clear hZ2n
        clear hb
        rcases HAN.out with hsd | ⟨hsd, hpl, hnn0, hnn1⟩
        · subst hsd
          clear hSd2 HAN
          go_upto_region 19 with (fail)
          have hb := Below.refl w11.heap.size w11
          have bd : Below w11.heap.size w11 w11.drew := below_drewN (Below.refl _ _) 1
          replace hP := hP.below bd
          replace hSB := hSB.below bd
          replace hMB := hMB.below bd
          replace hZ1 := hZ1.below bd
          replace hC := hC.below bd
          replace hZ2 := hZ2.below bd
          replace hC2 := hC2.below bd
          replace hb := below_step hb bd
          clear bd
          refine wp_region_noPanic ?_
          refine wp_region_held_drew (S := (fun w' => w'.cell? ⟨Z1, 0, none⟩ = some (.int .i64 V.cf.epoch))) (by kernel_rfl) (by exact hZ1.cell rfl) (fun hHeld => ?_)
          refine wtk 0 hHeld ?_
          refine wtk 1 hHeld ?_
          refine wtk 2 hHeld ?_
          refine wtk 3 hHeld ?_
          refine wun 4 hHeld ?_
          refine wun 5 hHeld ?_
          refine wun 6 hHeld ?_
          refine wun 7 hHeld ?_
          refine wun 8 hHeld ?_
          refine wun 9 hHeld ?_
          refine wun 10 hHeld ?_
          refine wun 11 hHeld ?_
          refine wun 12 hHeld ?_
          refine wun 13 hHeld ?_
          refine wun 14 hHeld ?_
          refine wun 15 hHeld ?_
          refine wun 16 hHeld ?_
          refine wun 17 hHeld ?_
          refine wun 18 hHeld ?_
          refine wun 19 hHeld ?_
          refine wun 20 hHeld ?_
          refine wun 21 hHeld ?_
          refine wun 22 hHeld ?_
          refine wun 23 hHeld ?_
          refine wun 24 hHeld ?_
          refine wun 25 hHeld ?_
          refine wun 26 hHeld ?_
          refine wun 27 hHeld ?_
          refine wun 28 hHeld ?_
          refine wun 29 hHeld ?_
          refine wun 30 hHeld ?_
          refine wun 31 hHeld ?_
          refine wun 32 hHeld ?_
          refine wun 33 hHeld ?_
          refine wun 34 hHeld ?_
          refine wun 35 hHeld ?_
          refine wun 36 hHeld ?_
          refine wun 37 hHeld ?_
          refine wun 38 hHeld ?_
          refine wun 39 hHeld ?_
          refine wun 40 hHeld ?_
          refine wtk 41 hHeld ?_
          refine wpAnyH_done (by kernel_rfl) ?_ _
          refine NoPanic.normal ?_
          clear hHeld hb
          generalize w11.drew = v3 at *
          have z10 : v3.cell? ⟨Z1, 0, none⟩ = some (.int .i64 V.cf.epoch) := hZ1.cell rfl
          have z11 : v3.cell? ⟨Z1, 1, none⟩ = some (.slice A V.cf.chain.length cap5) := hZ1.cell rfl
          have z20 : v3.cell? ⟨Z2, 0, none⟩ = some (.int .i64 V2.cf.epoch) := hZ2.cell rfl
          have z21 : v3.cell? ⟨Z2, 1, none⟩ = some (.slice A7 V2.cf.chain.length cap7) := hZ2.cell rfl
          have HL := Lib.hid hP.low
          clear hP
          go_wp2_with fail
          refine (cfollows_at (by exact hC.1) (by exact hC2.1) (b := true) HFOL.out).mono ?_
          rintro en u9 ⟨rfl, bz⟩
          have HB := Lib.hid (below_step HL.out bz)
          clear z10 z11 z20 z21 bz hZ1 hZ2 hC hC2 hSB hMB
          go_wp2_with fail
          go_ret
          exact ⟨rfl, HB.out⟩
        · subst hsd
          clear HAN
          obtain ⟨g, gcap, A9, cap9, hv, hgB, hG⟩ := hSd2.get (i := 0) rfl
          injection hv with e1 e2 e3
          subst e1 e3
          clear e2 hgB hSd2
          simp only [Nat.zero_mul] at hG
          obtain ⟨pl, hplq⟩ : ∃ pl, placeC V2.cf.chain mn ml = pl := ⟨_, rfl⟩
          have HPL := Lib.hid hplq
          rw [hplq] at hpl
          clear hplq
          have hpd : decide (0 ≤ pl) = false := decide_eq_false (by omega)
          have hnd : decide (mn < 0) = false := decide_eq_false (by omega)
          have hne : decide (s.nodes ≤ mn) = false := decide_eq_false (by omega)
          go_upto_region 19 with (fail)
          have hb := Below.refl w11.heap.size w11
          have bd : Below w11.heap.size w11 w11.drew := below_drewN (Below.refl _ _) 1
          replace hP := hP.below bd
          replace hSB := hSB.below bd
          replace hMB := hMB.below bd
          replace hZ1 := hZ1.below bd
          replace hC := hC.below bd
          replace hZ2 := hZ2.below bd
          replace hC2 := hC2.below bd
          replace hG := hG.below bd
          replace hb := below_step hb bd
          clear bd
          refine wp_region_noPanic ?_
          refine wp_region_held_drew (S := (fun w' => w'.cell? ⟨Z2, 0, none⟩ = some (.int .i64 V2.cf.epoch) ∧ w'.cell? ⟨Z2, 1, none⟩ = some (.slice A7 V2.cf.chain.length cap7) ∧ w'.cell? ⟨mb, 0, none⟩ = some (.int .i64 mn) ∧ w'.cell? ⟨mb, 1, none⟩ = some (.int .i64 ml) ∧ w'.cell? ⟨sb, 0, none⟩ = some (.int .i64 s.nodes) ∧ w'.cell? ⟨g, 1, none⟩ = some (.int .i64 mn) ∧ w'.cell? ⟨g, 9, none⟩ = some (.int .i64 0))) (by kernel_rfl) (by exact ⟨hZ2.cell rfl, hZ2.cell rfl, hMB.cell rfl, hMB.cell rfl, hSB.cell rfl, hG.1 1 _ rfl, hG.1 9 _ rfl⟩) (fun hHeld => ?_)
          refine wtk 0 hHeld ?_
          refine wtk 1 hHeld ?_
          refine wtk 2 hHeld ?_
          refine wtk 3 hHeld ?_
          refine wtk 4 hHeld ?_
          refine wtk 5 hHeld ?_
          refine wtk 6 hHeld ?_
          refine wtk 7 hHeld ?_
          refine wtk 8 hHeld ?_
          refine wtk 9 hHeld ?_
          refine wtk 10 hHeld ?_
          refine wtk 11 hHeld ?_
          refine wtk 12 hHeld ?_
          refine wtk 13 hHeld ?_
          refine wtk 14 hHeld ?_
          refine wtk 15 hHeld ?_
          refine wtk 16 hHeld ?_
          refine wtk 17 hHeld ?_
          refine wtk 18 hHeld ?_
          refine wpAnyH_ready (rs := [19]) (by kernel_rfl) (by simp) (AllReadyH.cons (o := ?oq_6_19) ?op_6_19 (fun K hK => ?re_6_19) AllReadyH.nil)
          case op_6_19 => (simp only [List.getElem?_toArray, List.getElem?_cons_succ, List.getElem?_cons_zero]; rfl)
          go_simp
          go_at_call 15
          refine (qcplace_at (by exact hC2.1) V2.cf.epoch (p := pl) HPL.out).mono ?_
          rintro en v9 ⟨rfl, bz⟩
          replace hP := hP.below bz
          replace hSB := hSB.below bz
          replace hMB := hMB.below bz
          replace hZ1 := hZ1.below bz
          replace hC := hC.below bz
          replace hZ2 := hZ2.below bz
          replace hC2 := hC2.below bz
          replace hG := hG.below bz
          replace hb := below_step hb bz
          clear bz
          refine hK.out _ _ (by exact ⟨hZ2.cell rfl, hZ2.cell rfl, hMB.cell rfl, hMB.cell rfl, hSB.cell rfl, hG.1 1 _ rfl, hG.1 9 _ rfl⟩) (fun hHeld => ?_)
          clear hK K
          try simp only [Act.put, List.setIfInBounds_toArray, List.set_cons_zero, List.set_cons_succ]
          refine wtk 20 hHeld ?_
          refine wtk 21 hHeld ?_
          refine wtk 22 hHeld ?_
          refine wtk 23 hHeld ?_
          refine wtk 24 hHeld ?_
          refine wtk 25 hHeld ?_
          refine wtk 26 hHeld ?_
          refine wtk 27 hHeld ?_
          refine wtk 28 hHeld ?_
          refine wtk 29 hHeld ?_
          refine wtk 30 hHeld ?_
          refine wtk 31 hHeld ?_
          refine wtk 32 hHeld ?_
          refine wtk 33 hHeld ?_
          refine wtk 34 hHeld ?_
          refine wtk 35 hHeld ?_
          refine wtk 36 hHeld ?_
          refine wtk 37 hHeld ?_
          refine wtk 38 hHeld ?_
          refine wtk 39 hHeld ?_
          refine wtk 40 hHeld ?_
          refine wtk 41 hHeld ?_
          refine wpAnyH_done (by kernel_rfl) ?_ _
          refine NoPanic.normal ?_
          clear hHeld hb hG
          have z10 : v9.cell? ⟨Z1, 0, none⟩ = some (.int .i64 V.cf.epoch) := hZ1.cell rfl
          have z11 : v9.cell? ⟨Z1, 1, none⟩ = some (.slice A V.cf.chain.length cap5) := hZ1.cell rfl
          have z20 : v9.cell? ⟨Z2, 0, none⟩ = some (.int .i64 V2.cf.epoch) := hZ2.cell rfl
          have z21 : v9.cell? ⟨Z2, 1, none⟩ = some (.slice A7 V2.cf.chain.length cap7) := hZ2.cell rfl
          have HL := Lib.hid hP.low
          clear hP
          go_wp2_with fail
          refine (cfollows_at (by exact hC.1) (by exact hC2.1) (b := true) HFOL.out).mono ?_
          rintro en u9 ⟨rfl, bz⟩
          have HB := Lib.hid (below_step HL.out bz)
          clear z10 z11 z20 z21 bz hZ1 hZ2 hC hC2 hSB hMB
          go_wp2_with fail
          go_ret
          exact ⟨rfl, HB.out⟩
set_option maxRecDepth 100000 in
theorem MasterAnswers_walk {H : Type} {enc : TypeId × Value → H} {base : Nat} {d d2 : DataW H} {p p2 : List MemPlace} (v v2 : Value) (x y n : Int) (w : World) (hv : Value.okWide Tryz.prog w .any base 23 v) (ht : DataW.Trod enc Tryz.prog w 0 (fun _ => true) true 23 v d p)
    (hv2 : Value.okWide Tryz.prog w .any base 24 v2) (ht2 : DataW.Trod enc Tryz.prog w 0 (fun _ => true) true 24 v2 d2 p2) (hx : W64 x) (hy : W64 y) (hn : W64 n) :
    Calls Tryz.prog 5 #[v, v2, .agg #[.int .i64 x, .int .i64 y], .int .i64 n] w fun e w' => e = .returned (.bool true) ∧ Below w.heap.size w w' := by
  obtain ⟨s, _, rfl⟩ := open_setup hv ht
  obtain ⟨a, S, cap, rfl, hS⟩ := open_mops hv2 ht2
  exact MasterAnswers_go hS hx hy hn


set_option maxRecDepth 100000 in
theorem MasterAnswers_calls (H : Type) (enc : TypeId × Value → H) (W : World) (base : Nat) (args : Array Value) (ds gs : List (DataW H)) (before : List MemPlace)
    (hval : ∀ (j : Nat) t v, Tryz.f5.params[j]? = some t → args[j]? = some v → Value.okWide Tryz.prog W .any base t v)
    (hW : DataW.Whole enc Tryz.prog Tryz.f5.params.toList Rows.masterAnswersSpec.vars false W args.toList ds gs before) :
    Calls Tryz.prog 5 args W fun e W' => e = .returned (.bool true) ∧ Below W.heap.size W W' := by
  obtain ⟨p, q, hA, hV, rfl, hfz, hnd⟩ := hW
  rw [Tryz.params5] at hA hval
  obtain ⟨v0, vs0, d0, ds0, p0, q0, hargs, rfl, rfl, h0, r0⟩ := trodAll_cons hA
  obtain ⟨v1, vs1, d1, ds1, p1, q1, rfl, rfl, rfl, h1, r1⟩ := trodAll_cons r0
  obtain ⟨v2, vs2, d2, ds2, p2, q2, rfl, rfl, rfl, h2, r2⟩ := trodAll_cons r1
  obtain ⟨v3, vs3, d3, ds3, p3, q3, rfl, rfl, rfl, h3, r3⟩ := trodAll_cons r2
  obtain ⟨rfl, rfl, rfl⟩ := trodAll_nil r3
  obtain rfl : args = #[v0, v1, v2, v3] := Array.toList_inj.1 hargs
  obtain ⟨c2, e2, z2, z2_, m2, rfl, rfl, rfl, hz2, hz2_⟩ := Joins.open_agg2 Tryz.underlying42 (by kernel_rfl) (by kernel_rfl) (hval 2 42 v2 rfl rfl) h2
  obtain ⟨x2, g2, rfl, w2⟩ := DataW.trod_int Tryz.underlying3 hz2
  obtain ⟨y2, g2_, rfl, w2_⟩ := DataW.trod_int Tryz.underlying3 hz2_
  simp at g2 g2_; subst g2 g2_
  obtain ⟨x3, rfl, rfl, rfl, w3⟩ := open_int Tryz.underlying3 (hval 3 3 v3 rfl rfl) h3
  exact MasterAnswers_walk v0 v1 x2 y2 x3 W (hval 0 23 v0 rfl rfl) h0 (hval 1 24 v1 rfl rfl) h1 w2 w2_ w3

set_option maxRecDepth 100000 in
theorem MasterAnswers_lifted (os : Os) (started : os.Started) (H : Type) (enc : TypeId × Value → H) :
    ReturnsInHanded {} Tryz.checked os 5 .any (Rows.masterAnswersSpec.pre6 enc Tryz.prog Tryz.f5 Rows.masterAnswersRow.domain false) (Rows.masterAnswersSpec.post enc Tryz.prog Tryz.f5 false true false false) := by
  refine returnsInHanded_of_change (C := Tryz.checked) own started (by kernel_rfl) Tryz.func5
    (ChangeSpec.witness6 (enc := enc) (C := Tryz.checked) false ⟨#[], #[.agg #[.int .i64 0, .int .i64 0, .int .i64 0, .int .i64 0, .int .i64 0, .int .i64 0, .int .i64 0], .slice none 0 0, .agg #[.int .i64 0, .int .i64 0], .int .i64 0], []⟩ 8 (by kernel_rfl) (by kernel_rfl) (by kernel_rfl) (by kernel_rfl)) ?_
  intro W base args ds gs before hval0 hW hcnd _
  have hval : ∀ (j : Nat) t v, Tryz.f5.params[j]? = some t → args[j]? = some v → Value.okWide Tryz.prog W .any base t v := hval0
  refine (MasterAnswers_calls H enc W base args ds gs before hval hW).mono fun e W' ⟨he, bel⟩ => ?_
  exact ⟨_, he, law_post (ts := [23, 24, 42, 3]) (by rw [Tryz.params5]) (by intro t ht; simp only [List.mem_cons, List.not_mem_nil, or_false] at ht; rcases ht with rfl | rfl | rfl | rfl <;> exact ⟨by kernel_rfl, of_decide_eq_true (by kernel_rfl)⟩) hW rfl
    (fun ds h => by match ds, h with | [_, _, _, _], _ => rfl) (by kernel_rfl) bel⟩

theorem MasterAnswers_over : Rows.masterAnswersRow.holds Tryz.pinned (OpenSpec.ofChange Rows.masterAnswersSpec) :=
  OpenClaim.holds_of_wide 5 Tryz.f5 rfl rfl rfl rfl rfl rfl rfl ⟨rfl, rfl, rfl, rfl, rfl⟩ rfl rfl rfl rfl rfl (by kernel_rfl) Tryz.func5 (by kernel_rfl)
    (of_decide_eq_true (by kernel_rfl)) (by unfold Func.isWrapper; first | (rw [if_pos (by decide +kernel)]; kernel_rfl) | (rw [if_neg (by decide +kernel)]; exact ⟨rfl, rfl⟩))
    (fun os started H enc _ => MasterAnswers_lifted os started H enc)

/-- The statement. -/
theorem MasterAnswers_proved : Rows.MasterAnswersSaid := MasterAnswers_over

end Go.Proofs.YtomfmejodmfioaaGreat
