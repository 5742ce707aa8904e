/- MasterSame: for every setup, script and number the law answers true. No condition. -/
import Derived.Test.YtomfmejodmfioaaGreatMstMade
import Derived.Test.YtomfmejodmfioaaGreatWtk
namespace Go.Proofs.YtomfmejodmfioaaGreat
open Go.RowKit Go.Maps Go.ChangeShapes Go.WideShapes Go.Joins Go.Deep
set_option linter.unusedVariables false


theorem ply_next {w0 w : World} {B p N k : Nat} {s : SetV} {V : MstV} {l : List UInt8} {cs : List ConfV} {now : Int} {bs : List Nat} (h : PlyAt w0 w B p s (100 + 1100000 * k + 1100000) V l cs now bs) : PlyAt w0 w B p s (100 + 1100000 * (k + 1)) V l cs now bs := h.mono (by omega)
/-- A script's loop: k steps were played. -/
def Amid (w wr : World) (B p : Nat) (s : SetV) (k : Nat) : Prop :=
  ∃ V l cs now bs, PlyAt w wr B p s (100 + 1100000 * k) V l cs now bs ∧ 0 ≤ now ∧ now ≤ s.base + 10 * k
set_option maxRecDepth 100000 in
set_option maxHeartbeats 8000000 in

theorem MasterSame_go {w : World} {s : SetV} {a : Option Addr} {S : List MopV} {cap : Nat} (hS : MopsAt w a S) {d : Int} (hd : W64 d) :
    Calls Tryz.prog 8 #[.agg (setC7 s).toArray, .slice a S.length cap, .int .i64 d] w fun e w' => e = .returned (.bool true) ∧ Below w.heap.size w w' := by
  have hsb := BlkAt.new w 23 (setC7 s)
  have hb := (Below.refl w.heap.size w).alloc (Nat.le_refl _) (.cells (setC7 s).toArray 23)
  go_enter Tryz.func8, Tryz.ntmps8
  go_upto_region 1 with (fail)
  change Code.wp _ _ _ _ (w.alloc (.cells (setC7 s).toArray 23))
  change BlkAt (w.alloc (.cells (setC7 s).toArray 23)) _ _ _ at hsb
  generalize w.alloc (.cells (setC7 s).toArray 23) = W at *
  obtain ⟨sb, hsbd⟩ : ∃ sb, sb = w.heap.size := ⟨_, rfl⟩
  rw [← hsbd] at hsb ⊢
  clear hsbd
  have hlenS := hS.1
  unfold maxLen at hlenS
  have HS := Lib.hid hS
  clear hS
  go_wp2_with fail
  refine (awake15_any _).mono ?_
  rintro en w2 ⟨rfl, b2⟩
  replace hsb := hsb.below b2
  replace hb := below_step hb b2
  clear b2
  have q0 : w2.cell? ⟨sb, 0, none⟩ = some (.int .i64 s.nodes) := hsb.cell rfl
  have q1 : w2.cell? ⟨sb, 1, none⟩ = some (.int .i64 s.clients) := hsb.cell rfl
  have q2 : w2.cell? ⟨sb, 2, none⟩ = some (.int .i64 s.timers) := hsb.cell rfl
  have q3 : w2.cell? ⟨sb, 3, none⟩ = some (.int .i64 s.lease) := hsb.cell rfl
  have q4 : w2.cell? ⟨sb, 4, none⟩ = some (.int .i64 s.suspect) := hsb.cell rfl
  have q5 : w2.cell? ⟨sb, 5, none⟩ = some (.int .i64 s.skew) := hsb.cell rfl
  have q6 : w2.cell? ⟨sb, 6, none⟩ = some (.int .i64 s.base) := hsb.cell rfl
  go_wp2_with fail
  refine (rmay_any s _).mono ?_
  rintro en w3 ⟨rfl, b3⟩
  clear q0 q1 q2 q3 q4 q5 q6
  replace hsb := hsb.below b3
  replace hb := below_step hb b3
  clear b3
  have q0 : w3.cell? ⟨sb, 0, none⟩ = some (.int .i64 s.nodes) := hsb.cell rfl
  have q1 : w3.cell? ⟨sb, 1, none⟩ = some (.int .i64 s.clients) := hsb.cell rfl
  have q2 : w3.cell? ⟨sb, 2, none⟩ = some (.int .i64 s.timers) := hsb.cell rfl
  have q3 : w3.cell? ⟨sb, 3, none⟩ = some (.int .i64 s.lease) := hsb.cell rfl
  have q4 : w3.cell? ⟨sb, 4, none⟩ = some (.int .i64 s.suspect) := hsb.cell rfl
  have q5 : w3.cell? ⟨sb, 5, none⟩ = some (.int .i64 s.skew) := hsb.cell rfl
  have q6 : w3.cell? ⟨sb, 6, none⟩ = some (.int .i64 s.base) := hsb.cell rfl
  by_cases hgo : mayS s = true ∧ s.base ≤ 549755813888 ∧ S.length ≤ 100
  case neg =>
    have HGO := Lib.hid hgo
    clear hgo
    cases hmay : mayS s with
    | false =>
      go_wp2_with fail
      refine (awake15_any _).mono ?_
      rintro en w9 ⟨rfl, b9⟩

      replace hb := below_step hb b9
      clear b9
      go_wp2_with fail
      go_ret
      exact ⟨rfl, hb⟩
    | true =>
      by_cases hbase : 549755813888 < s.base
      · skip
        go_wp2_with fail
        refine (awake15_any _).mono ?_
        rintro en w9 ⟨rfl, b9⟩

        replace hb := below_step hb b9
        clear b9
        go_wp2_with fail
        go_ret
        exact ⟨rfl, hb⟩
      · have hlim : 100 < S.length := by
          rcases Nat.lt_or_ge 100 S.length with h | h
          · exact h
          · exact absurd ⟨hmay, by omega, h⟩ HGO.out
        have hlim' : (100 : Int) < (S.length : Int) := by omega
        go_wp2_with fail
        refine (awake15_any _).mono ?_
        rintro en w9 ⟨rfl, b9⟩

        replace hb := below_step hb b9
        clear b9
        go_wp2_with fail
        go_ret
        exact ⟨rfl, hb⟩
  obtain ⟨hmay, hbase, hlim⟩ := hgo
  have hbase' : ¬ 549755813888 < s.base := by omega
  have hlim' : ¬ (100 : Int) < (S.length : Int) := by omega
  rw [hmay]
  have hset := hmay
  have hb0 : 0 ≤ s.base := by
    unfold mayS at hset
    rw [decide_eq_true_eq] at hset
    exact hset.2.2.2.2.2.2.2.2.2.2.2.2.1
  go_wp2_with fail
  refine (made15_any hset _).mono ?_
  rintro en w4 ⟨B, p, bs, rfl, hP0⟩
  have hP := hP0.over hb
  have HSET := Lib.hid hset
  have HB34 := Lib.hid hb
  clear hP0 hb hsb hmay hset q0 q1 q2 q3 q4 q5 q6 hbase' hlim'
  have hA : Amid w w4 B p s 0 := ⟨_, _, _, _, _, hP, hb0, by omega⟩
  clear hP
  go_wp2_with fail
  go_loopw [46] (fun i wr => ∃ k : Nat, k ≤ S.length ∧ i = .int .i64 k ∧ Amid w wr B p s k) (fun i _ => S.length - (intOf i).toNat)
  case atStart => exact ⟨0, Nat.zero_le _, rfl, hA⟩
  case round =>
    obtain ⟨k, hk, rfl, hAr⟩ := hrel
    clear hA
    obtain ⟨V, l, cs, now, bs, hP, hn0, hn1⟩ := hAr
    by_cases hlt : k < S.length
    · skip
      obtain ⟨sB, soff, rfl, sab, hc⟩ := HS.out.2.2 (by omega)
      obtain ⟨o, ho⟩ : ∃ o, S[k]? = some o := ⟨_, List.getElem?_eq_getElem hlt⟩
      have hop : MopOk o := HS.out.2.1 o (List.mem_of_getElem? ho)
      have hat := (hc k o ho).of (w' := wr) fun j => hP.low.cell (p := ⟨sB, j, none⟩) sab
      obtain ⟨kd, d0, e0, kp, nd, lf, fl⟩ := o
      have t0 : wr.cell? ⟨sB, soff + k * 7, none⟩ = some (.int .i64 kd) := hat 0 _ rfl
      have t1 : wr.cell? ⟨sB, soff + k * 7 + 1, none⟩ = some (.int .i64 d0) := hat 1 _ rfl
      have t2 : wr.cell? ⟨sB, soff + k * 7 + 2, none⟩ = some (.int .i64 e0) := hat 2 _ rfl
      have t3 : wr.cell? ⟨sB, soff + k * 7 + 3, none⟩ = some (.int .i64 kp) := hat 3 _ rfl
      have t4 : wr.cell? ⟨sB, soff + k * 7 + 4, none⟩ = some (.int .i64 nd) := hat 4 _ rfl
      have t5 : wr.cell? ⟨sB, soff + k * 7 + 5, none⟩ = some (.int .i64 lf) := hat 5 _ rfl
      have t6 : wr.cell? ⟨sB, soff + k * 7 + 6, none⟩ = some (.bool fl) := hat 6 _ rfl
      have HO := Lib.hid ho
      have HOP := Lib.hid hop
      clear hat hc ho hop
      have hb := Below.refl wr.heap.size wr
      go_upto_region 9 with (fail)
      have hT := BlkAt.new wr 44 [.int .i64 kd, .int .i64 d0, .int .i64 e0, .int .i64 kp, .int .i64 nd, .int .i64 lf, .bool fl]
      replace hP := hP.below ((Below.refl _ _).alloc (Nat.le_refl _) (.cells #[.int .i64 kd, .int .i64 d0, .int .i64 e0, .int .i64 kp, .int .i64 nd, .int .i64 lf, .bool fl] 44))
      replace hb := hb.alloc hb.size (.cells #[.int .i64 kd, .int .i64 d0, .int .i64 e0, .int .i64 kp, .int .i64 nd, .int .i64 lf, .bool fl] 44)
      change Code.wp _ _ _ _ (wr.alloc (.cells #[.int .i64 kd, .int .i64 d0, .int .i64 e0, .int .i64 kp, .int .i64 nd, .int .i64 lf, .bool fl] 44))
      change BlkAt (wr.alloc (.cells #[.int .i64 kd, .int .i64 d0, .int .i64 e0, .int .i64 kp, .int .i64 nd, .int .i64 lf, .bool fl] 44)) _ _ _ at hT
      have hTn := (show wr.heap.size ≤ wr.heap.size from Nat.le_refl _)
      generalize wr.alloc (.cells #[.int .i64 kd, .int .i64 d0, .int .i64 e0, .int .i64 kp, .int .i64 nd, .int .i64 lf, .bool fl] 44) = w5 at *
      generalize wr.heap.size = T at hT ⊢
      clear hTn
      clear t0 t1 t2 t3 t4 t5 t6
      have t0 : w5.cell? ⟨T, 0, none⟩ = some (.int .i64 kd) := hT.cell rfl
      have t1 : w5.cell? ⟨T, 1, none⟩ = some (.int .i64 d0) := hT.cell rfl
      have t2 : w5.cell? ⟨T, 2, none⟩ = some (.int .i64 e0) := hT.cell rfl
      have t3 : w5.cell? ⟨T, 3, none⟩ = some (.int .i64 kp) := hT.cell rfl
      have t4 : w5.cell? ⟨T, 4, none⟩ = some (.int .i64 nd) := hT.cell rfl
      have t5 : w5.cell? ⟨T, 5, none⟩ = some (.int .i64 lf) := hT.cell rfl
      have t6 : w5.cell? ⟨T, 6, none⟩ = some (.bool fl) := hT.cell rfl
      go_wp2_with fail
      refine (play_any (by exact hP) HSET.out HOP.out (by omega) (by omega) rfl).mono ?_
      rintro en w6 ⟨v, V', l', cs', said, bs', rfl, hSd, hP', hKp, hFN, hst⟩
      obtain ⟨SA, Scap, rfl⟩ := hSd.form
      have hnw := nowP_in now d0
      have HA : Hid (Amid w w6 B p s (k + 1)) := Lib.hid ⟨_, _, _, _, _, ply_next (N := 0) hP', by simp only; omega, by simp only; omega⟩
      clear hSd hP' hKp hFN hst hnw hT hP hb t0 t1 t2 t3 t4 t5 t6
      go_wp2_with fail
      go_roundw
      case rel => exact ⟨k + 1, by omega, by go_num, HA.out⟩
      case measure => simp [intOf]; omega
    · obtain ⟨x, b, rfl, hX, hO⟩ := hP.own
      have hinv := hP.inv
      have HINV := Lib.hid hinv
      have HLEN := Lib.hid hinv.len
      have hM := hO.mst
      clear hP hinv
      have hdd := modU_in (x := d) (k := 20) (by decide)
      have hdw := modU_wrap (x := d) (k := 20) (by decide) (by decide)
      generalize modU d 20 = dd at *
      have c9 : wr.cell? ⟨p, 9, none⟩ = some (.int .i64 now) := hX.cell rfl
      have hb := Below.refl wr.heap.size wr
      have c8 : wr.cell? ⟨p, 8, none⟩ = some (.pointer (some ⟨x, 0, none⟩)) := hX.cell rfl
      go_wp2_with fail
      obtain ⟨nw, hnw⟩ : ∃ nw, nw = now + dd := ⟨_, rfl⟩
      rw [← hnw]
      have HTN : Hid (TOk nw) := Lib.hid ⟨by omega, by omega⟩
      refine (mconfig_any (by exact hM)).mono ?_
      rintro en w5 ⟨A, cap5, rfl, hC, b5⟩
      clear c9 c8 hdw hdd hnw
      replace hX := hX.below b5
      replace hM := hM.below b5
      replace hb := below_step hb b5
      clear b5
      go_upto_region 15 with (fail)
      have hZ1 := BlkAt.new w5 35 [.int .i64 V.cf.epoch, .slice A V.cf.chain.length cap5]
      replace hX := hX.below ((Below.refl _ _).alloc (Nat.le_refl _) (.cells #[.int .i64 V.cf.epoch, .slice A V.cf.chain.length cap5] 35))
      replace hM := hM.below ((Below.refl _ _).alloc (Nat.le_refl _) (.cells #[.int .i64 V.cf.epoch, .slice A V.cf.chain.length cap5] 35))
      replace hC := hC.below ((Below.refl _ _).alloc (Nat.le_refl _) (.cells #[.int .i64 V.cf.epoch, .slice A V.cf.chain.length cap5] 35))
      replace hb := hb.alloc hb.size (.cells #[.int .i64 V.cf.epoch, .slice A V.cf.chain.length cap5] 35)
      change Code.wp _ _ _ _ (w5.alloc (.cells #[.int .i64 V.cf.epoch, .slice A V.cf.chain.length cap5] 35))
      change BlkAt (w5.alloc (.cells #[.int .i64 V.cf.epoch, .slice A V.cf.chain.length cap5] 35)) _ _ _ at hZ1
      have hZ1n := (show w5.heap.size ≤ w5.heap.size from Nat.le_refl _)
      generalize w5.alloc (.cells #[.int .i64 V.cf.epoch, .slice A V.cf.chain.length cap5] 35) = w6 at *
      generalize w5.heap.size = Z1 at hZ1 ⊢
      clear hZ1n
      obtain ⟨pe, pL, pb, hp⟩ := res_parts (wantsM V nw)
      have HP := Lib.hid hp
      have c8 : w6.cell? ⟨p, 8, none⟩ = some (.pointer (some ⟨x, 0, none⟩)) := hX.cell rfl
      go_wp2_with fail
      refine (mwants_any (by exact hM) HTN.out hp).mono ?_
      rintro en w7 ⟨A2, cap2, rfl, hR1, b7⟩
      simp only at hR1
      clear c8 hp
      replace hX := hX.below b7
      replace hM := hM.below b7
      replace hC := hC.below b7
      replace hZ1 := hZ1.below b7
      replace hb := below_step hb b7
      clear b7
      go_upto_region 16 with (fail)
      have hZ2 := BlkAt.new w7 35 [.int .i64 pe, .slice A2 pL.length cap2]
      replace hX := hX.below ((Below.refl _ _).alloc (Nat.le_refl _) (.cells #[.int .i64 pe, .slice A2 pL.length cap2] 35))
      replace hM := hM.below ((Below.refl _ _).alloc (Nat.le_refl _) (.cells #[.int .i64 pe, .slice A2 pL.length cap2] 35))
      replace hC := hC.below ((Below.refl _ _).alloc (Nat.le_refl _) (.cells #[.int .i64 pe, .slice A2 pL.length cap2] 35))
      replace hZ1 := hZ1.below ((Below.refl _ _).alloc (Nat.le_refl _) (.cells #[.int .i64 pe, .slice A2 pL.length cap2] 35))
      replace hR1 := hR1.below ((Below.refl _ _).alloc (Nat.le_refl _) (.cells #[.int .i64 pe, .slice A2 pL.length cap2] 35))
      replace hb := hb.alloc hb.size (.cells #[.int .i64 pe, .slice A2 pL.length cap2] 35)
      change Code.wp _ _ _ _ (w7.alloc (.cells #[.int .i64 pe, .slice A2 pL.length cap2] 35))
      change BlkAt (w7.alloc (.cells #[.int .i64 pe, .slice A2 pL.length cap2] 35)) _ _ _ at hZ2
      have hZ2n := (show w7.heap.size ≤ w7.heap.size from Nat.le_refl _)
      generalize w7.alloc (.cells #[.int .i64 pe, .slice A2 pL.length cap2] 35) = w8 at *
      generalize w7.heap.size = Z2 at hZ2 ⊢
      clear hZ2n
      have c8 : w8.cell? ⟨p, 8, none⟩ = some (.pointer (some ⟨x, 0, none⟩)) := hX.cell rfl
      go_wp2_with fail
      refine (mwants_any (by exact hM) HTN.out HP.out).mono ?_
      rintro en u7 ⟨A3, cap3, rfl, hR2, b7⟩
      simp only at hR2
      clear c8
      replace hX := hX.below b7
      replace hM := hM.below b7
      replace hC := hC.below b7
      replace hZ1 := hZ1.below b7
      replace hR1 := hR1.below b7
      replace hZ2 := hZ2.below b7
      replace hb := below_step hb b7
      clear b7
      go_upto_region 17 with (fail)
      have hZ3 := BlkAt.new u7 35 [.int .i64 pe, .slice A3 pL.length cap3]
      replace hX := hX.below ((Below.refl _ _).alloc (Nat.le_refl _) (.cells #[.int .i64 pe, .slice A3 pL.length cap3] 35))
      replace hM := hM.below ((Below.refl _ _).alloc (Nat.le_refl _) (.cells #[.int .i64 pe, .slice A3 pL.length cap3] 35))
      replace hC := hC.below ((Below.refl _ _).alloc (Nat.le_refl _) (.cells #[.int .i64 pe, .slice A3 pL.length cap3] 35))
      replace hZ1 := hZ1.below ((Below.refl _ _).alloc (Nat.le_refl _) (.cells #[.int .i64 pe, .slice A3 pL.length cap3] 35))
      replace hR1 := hR1.below ((Below.refl _ _).alloc (Nat.le_refl _) (.cells #[.int .i64 pe, .slice A3 pL.length cap3] 35))
      replace hZ2 := hZ2.below ((Below.refl _ _).alloc (Nat.le_refl _) (.cells #[.int .i64 pe, .slice A3 pL.length cap3] 35))
      replace hR2 := hR2.below ((Below.refl _ _).alloc (Nat.le_refl _) (.cells #[.int .i64 pe, .slice A3 pL.length cap3] 35))
      replace hb := hb.alloc hb.size (.cells #[.int .i64 pe, .slice A3 pL.length cap3] 35)
      change Code.wp _ _ _ _ (u7.alloc (.cells #[.int .i64 pe, .slice A3 pL.length cap3] 35))
      change BlkAt (u7.alloc (.cells #[.int .i64 pe, .slice A3 pL.length cap3] 35)) _ _ _ at hZ3
      have hZ3n := (show u7.heap.size ≤ u7.heap.size from Nat.le_refl _)
      generalize u7.alloc (.cells #[.int .i64 pe, .slice A3 pL.length cap3] 35) = u8 at *
      generalize u7.heap.size = Z3 at hZ3 ⊢
      clear hZ3n
      cases pb with
      | false =>
        go_upto_region 17 with (fail)
        have bd : Below u8.heap.size u8 u8.drew := below_drewN (Below.refl _ _) 1
        replace hX := hX.below bd
        replace hM := hM.below bd
        replace hC := hC.below bd
        replace hZ1 := hZ1.below bd
        replace hR1 := hR1.below bd
        replace hZ2 := hZ2.below bd
        replace hR2 := hR2.below bd
        replace hZ3 := hZ3.below bd
        replace hb := below_step hb bd
        clear bd
        refine wp_region_noPanic ?_
        refine wp_region_held_drew (S := (fun w' => w'.cell? ⟨p, 8, none⟩ = some (.pointer (some ⟨x, 0, none⟩)) ∧ w'.cell? ⟨Z1, 0, none⟩ = some (.int .i64 V.cf.epoch) ∧ w'.cell? ⟨Z1, 1, none⟩ = some (.slice A V.cf.chain.length cap5) ∧ w'.cell? ⟨Z2, 0, none⟩ = some (.int .i64 pe) ∧ w'.cell? ⟨Z2, 1, none⟩ = some (.slice A2 pL.length cap2) ∧ w'.cell? ⟨Z3, 0, none⟩ = some (.int .i64 pe) ∧ w'.cell? ⟨Z3, 1, none⟩ = some (.slice A3 pL.length cap3))) (by kernel_rfl) (by exact ⟨hX.cell rfl, hZ1.cell rfl, hZ1.cell rfl, hZ2.cell rfl, hZ2.cell rfl, hZ3.cell rfl, hZ3.cell rfl⟩) (fun hHeld => ?_)
        refine wtk 0 hHeld ?_
        refine wtk 1 hHeld ?_
        refine wpAnyH_ready (rs := [2]) (by kernel_rfl) (by simp) (AllReadyH.cons (o := ?oq_1_2) ?op_1_2 (fun K hK => ?re_1_2) AllReadyH.nil)
        case op_1_2 => (simp only [List.getElem?_toArray, List.getElem?_cons_succ, List.getElem?_cons_zero]; rfl)
        go_simp
        go_at_call 17
        refine (qcsame_at (by exact hR1.1) (by exact hR2.1) (b := true) (sameC_iff.2 rfl)).mono ?_
        rintro en v1 ⟨rfl, bz⟩
        replace hX := hX.below bz
        replace hM := hM.below bz
        replace hC := hC.below bz
        replace hZ1 := hZ1.below bz
        replace hR1 := hR1.below bz
        replace hZ2 := hZ2.below bz
        replace hR2 := hR2.below bz
        replace hZ3 := hZ3.below bz
        replace hb := below_step hb bz
        clear bz
        refine hK.out _ _ (by exact ⟨hX.cell rfl, hZ1.cell rfl, hZ1.cell rfl, hZ2.cell rfl, hZ2.cell rfl, hZ3.cell rfl, hZ3.cell rfl⟩) (fun hHeld => ?_)
        clear hK K
        try simp only [Act.put, List.setIfInBounds_toArray, List.set_cons_zero, List.set_cons_succ]
        refine wtk 3 hHeld ?_
        refine wtk 4 hHeld ?_
        refine wtk 5 hHeld ?_
        refine wtk 6 hHeld ?_
        refine wtk 7 hHeld ?_
        refine wtk 8 hHeld ?_
        refine wtk 9 hHeld ?_
        refine wtk 10 hHeld ?_
        refine wtk 11 hHeld ?_
        refine wtk 12 hHeld ?_
        refine wtk 13 hHeld ?_
        refine wtk 15 hHeld ?_
        refine wpAnyH_ready (rs := [14]) (by kernel_rfl) (by simp) (AllReadyH.cons (o := ?oq_1_14) ?op_1_14 (fun K hK => ?re_1_14) AllReadyH.nil)
        case op_1_14 => (simp only [List.getElem?_toArray, List.getElem?_cons_succ, List.getElem?_cons_zero]; rfl)
        go_simp
        go_at_call 13
        refine (mconfig_any (by exact hM)).mono ?_
        rintro en v2 ⟨A4, cap4, rfl, hC4, bz⟩
        replace hX := hX.below bz
        replace hM := hM.below bz
        replace hC := hC.below bz
        replace hZ1 := hZ1.below bz
        replace hR1 := hR1.below bz
        replace hZ2 := hZ2.below bz
        replace hR2 := hR2.below bz
        replace hZ3 := hZ3.below bz
        replace hb := below_step hb bz
        clear bz
        refine hK.out _ _ (by exact ⟨hX.cell rfl, hZ1.cell rfl, hZ1.cell rfl, hZ2.cell rfl, hZ2.cell rfl, hZ3.cell rfl, hZ3.cell rfl⟩) (fun hHeld => ?_)
        clear hK K
        try simp only [Act.put, List.setIfInBounds_toArray, List.set_cons_zero, List.set_cons_succ]
        refine wpAnyH_ready (rs := [16]) (by kernel_rfl) (by simp) (AllReadyH.cons (o := ?oq_1_16) ?op_1_16 (fun K hK => ?re_1_16) AllReadyH.nil)
        case op_1_16 => (simp only [List.getElem?_toArray, List.getElem?_cons_succ, List.getElem?_cons_zero]; rfl)
        go_simp
        go_at_call 17
        refine (qcsame_at (by exact hC4.1) (by exact hC.1) (b := true) (sameC_iff.2 rfl)).mono ?_
        rintro en v3 ⟨rfl, bz⟩
        replace hX := hX.below bz
        replace hM := hM.below bz
        replace hC := hC.below bz
        replace hZ1 := hZ1.below bz
        replace hR1 := hR1.below bz
        replace hZ2 := hZ2.below bz
        replace hR2 := hR2.below bz
        replace hZ3 := hZ3.below bz
        replace hb := below_step hb bz
        clear bz
        refine hK.out _ _ (by exact ⟨hX.cell rfl, hZ1.cell rfl, hZ1.cell rfl, hZ2.cell rfl, hZ2.cell rfl, hZ3.cell rfl, hZ3.cell rfl⟩) (fun hHeld => ?_)
        clear hK K
        try simp only [Act.put, List.setIfInBounds_toArray, List.set_cons_zero, List.set_cons_succ]
        refine wtk 17 hHeld ?_
        refine wtk 18 hHeld ?_
        refine wpAnyH_done (by kernel_rfl) ?_ _
        refine NoPanic.normal ?_
        clear hHeld
        have c8 : v3.cell? ⟨p, 8, none⟩ = some (.pointer (some ⟨x, 0, none⟩)) := hX.cell rfl
        go_wp2_with fail
        refine (mtick_any (V' := (tickM V l nw).1) (l' := (tickM V l nw).2) (by exact hM) HTN.out (by omega) HLEN.out rfl rfl).mono ?_
        rintro en w9 ⟨v9, b', rfl, hS9, hM9, hF, hFN⟩
        obtain ⟨SA, Scap, rfl⟩ := hS9.form
        have hX9 := hX.fk hM hF (by decide) (by decide) (by decide) (by decide)
        have hZ19 := hZ1.fk hM hF (by decide) (by decide) (by decide) (by decide)
        have hZ29 := hZ2.fk hM hF (by decide) (by decide) (by decide) (by decide)
        have hC9 := hC.fk hM hF
        have hR9 := hR1.fk hM hF
        have HFN9 := hFN
        have HL9 := Lib.hid ((hO.step hb).next hM9 hF hFN).below
        clear hX hM hC hZ1 hR1 hZ2 hR2 hZ3 hS9 hF hFN hb c8
        obtain ⟨cs9, ht9⟩ := turn_turned HINV.out nw
        have e9 : (tickM V l nw).1.cf = (turnM V l nw).1.cf := rfl
        have el9 : (tickM V l nw).2 = (turnM V l nw).2 := rfl
        have HLB := Lib.hid HFN9.lb
        have h9 : (tickM V l nw).1.cf = V.cf := by
          rw [e9]
          rcases ht9.step with h | h
          · exact h.1
          · rw [HP.out] at h
            simp at h
        clear ht9 e9 el9 HFN9
        generalize (tickM V l nw).1 = V9 at *
        go_upto_region 21 with (fail)
        have hb := Below.refl w9.heap.size w9
        have bd : Below w9.heap.size w9 w9.drew := below_drewN (Below.refl _ _) 1
        replace hX9 := hX9.below bd
        replace hM9 := hM9.below bd
        replace hC9 := hC9.below bd
        replace hR9 := hR9.below bd
        replace hZ19 := hZ19.below bd
        replace hZ29 := hZ29.below bd
        replace hb := below_step hb bd
        clear bd
        refine wp_region_noPanic ?_
        refine wp_region_held_drew (S := (fun w' => w'.cell? ⟨p, 8, none⟩ = some (.pointer (some ⟨x, 0, none⟩)) ∧ w'.cell? ⟨Z1, 0, none⟩ = some (.int .i64 V.cf.epoch) ∧ w'.cell? ⟨Z1, 1, none⟩ = some (.slice A V.cf.chain.length cap5))) (by kernel_rfl) (by exact ⟨hX9.cell rfl, hZ19.cell rfl, hZ19.cell rfl⟩) (fun hHeld => ?_)
        refine wtk 0 hHeld ?_
        refine wtk 1 hHeld ?_
        refine wtk 2 hHeld ?_
        refine wtk 3 hHeld ?_
        refine wtk 5 hHeld ?_
        refine wpAnyH_ready (rs := [4]) (by kernel_rfl) (by simp) (AllReadyH.cons (o := ?oq_2_4) ?op_2_4 (fun K hK => ?re_2_4) AllReadyH.nil)
        case op_2_4 => (simp only [List.getElem?_toArray, List.getElem?_cons_succ, List.getElem?_cons_zero]; rfl)
        go_simp
        go_at_call 13
        refine (mconfig_any (by exact hM9)).mono ?_
        rintro en v4 ⟨A5, cap5', rfl, hC5, bz⟩
        rw [h9] at hC5 ⊢
        replace hX9 := hX9.below bz
        replace hM9 := hM9.below bz
        replace hC9 := hC9.below bz
        replace hR9 := hR9.below bz
        replace hZ19 := hZ19.below bz
        replace hZ29 := hZ29.below bz
        replace hb := below_step hb bz
        clear bz
        refine hK.out _ _ (by exact ⟨hX9.cell rfl, hZ19.cell rfl, hZ19.cell rfl⟩) (fun hHeld => ?_)
        clear hK K
        try simp only [Act.put, List.setIfInBounds_toArray, List.set_cons_zero, List.set_cons_succ]
        refine wpAnyH_ready (rs := [6]) (by kernel_rfl) (by simp) (AllReadyH.cons (o := ?oq_2_6) ?op_2_6 (fun K hK => ?re_2_6) AllReadyH.nil)
        case op_2_6 => (simp only [List.getElem?_toArray, List.getElem?_cons_succ, List.getElem?_cons_zero]; rfl)
        go_simp
        go_at_call 17
        refine (qcsame_at (by exact hC5.1) (by exact hC9.1) (b := true) (sameC_iff.2 rfl)).mono ?_
        rintro en v5 ⟨rfl, bz⟩
        replace hX9 := hX9.below bz
        replace hM9 := hM9.below bz
        replace hC9 := hC9.below bz
        replace hR9 := hR9.below bz
        replace hZ19 := hZ19.below bz
        replace hZ29 := hZ29.below bz
        replace hb := below_step hb bz
        clear bz
        refine hK.out _ _ (by exact ⟨hX9.cell rfl, hZ19.cell rfl, hZ19.cell rfl⟩) (fun hHeld => ?_)
        clear hK K
        try simp only [Act.put, List.setIfInBounds_toArray, List.set_cons_zero, List.set_cons_succ]
        refine wtk 7 hHeld ?_
        refine wpAnyH_done (by kernel_rfl) ?_ _
        refine NoPanic.normal ?_
        clear hHeld hX9 hM9 hC9 hR9 hZ19 hZ29
        have HB := Lib.hid (below_step HL9.out hb)
        clear hb
        go_wp2_with fail
        go_ret
        exact ⟨rfl, HB.out⟩
      | true =>
        go_upto_region 17 with (fail)
        have bd : Below u8.heap.size u8 u8.drew := below_drewN (Below.refl _ _) 1
        replace hX := hX.below bd
        replace hM := hM.below bd
        replace hC := hC.below bd
        replace hZ1 := hZ1.below bd
        replace hR1 := hR1.below bd
        replace hZ2 := hZ2.below bd
        replace hR2 := hR2.below bd
        replace hZ3 := hZ3.below bd
        replace hb := below_step hb bd
        clear bd
        refine wp_region_noPanic ?_
        refine wp_region_held_drew (S := (fun w' => w'.cell? ⟨p, 8, none⟩ = some (.pointer (some ⟨x, 0, none⟩)) ∧ w'.cell? ⟨Z1, 0, none⟩ = some (.int .i64 V.cf.epoch) ∧ w'.cell? ⟨Z1, 1, none⟩ = some (.slice A V.cf.chain.length cap5) ∧ w'.cell? ⟨Z2, 0, none⟩ = some (.int .i64 pe) ∧ w'.cell? ⟨Z2, 1, none⟩ = some (.slice A2 pL.length cap2) ∧ w'.cell? ⟨Z3, 0, none⟩ = some (.int .i64 pe) ∧ w'.cell? ⟨Z3, 1, none⟩ = some (.slice A3 pL.length cap3))) (by kernel_rfl) (by exact ⟨hX.cell rfl, hZ1.cell rfl, hZ1.cell rfl, hZ2.cell rfl, hZ2.cell rfl, hZ3.cell rfl, hZ3.cell rfl⟩) (fun hHeld => ?_)
        refine wtk 0 hHeld ?_
        refine wtk 1 hHeld ?_
        refine wpAnyH_ready (rs := [2]) (by kernel_rfl) (by simp) (AllReadyH.cons (o := ?oq_3_2) ?op_3_2 (fun K hK => ?re_3_2) AllReadyH.nil)
        case op_3_2 => (simp only [List.getElem?_toArray, List.getElem?_cons_succ, List.getElem?_cons_zero]; rfl)
        go_simp
        go_at_call 17
        refine (qcsame_at (by exact hR1.1) (by exact hR2.1) (b := true) (sameC_iff.2 rfl)).mono ?_
        rintro en v1 ⟨rfl, bz⟩
        replace hX := hX.below bz
        replace hM := hM.below bz
        replace hC := hC.below bz
        replace hZ1 := hZ1.below bz
        replace hR1 := hR1.below bz
        replace hZ2 := hZ2.below bz
        replace hR2 := hR2.below bz
        replace hZ3 := hZ3.below bz
        replace hb := below_step hb bz
        clear bz
        refine hK.out _ _ (by exact ⟨hX.cell rfl, hZ1.cell rfl, hZ1.cell rfl, hZ2.cell rfl, hZ2.cell rfl, hZ3.cell rfl, hZ3.cell rfl⟩) (fun hHeld => ?_)
        clear hK K
        try simp only [Act.put, List.setIfInBounds_toArray, List.set_cons_zero, List.set_cons_succ]
        refine wtk 3 hHeld ?_
        refine wtk 4 hHeld ?_
        refine wtk 5 hHeld ?_
        refine wtk 6 hHeld ?_
        refine wtk 7 hHeld ?_
        refine wtk 8 hHeld ?_
        refine wtk 9 hHeld ?_
        refine wtk 10 hHeld ?_
        refine wtk 11 hHeld ?_
        refine wtk 12 hHeld ?_
        refine wtk 13 hHeld ?_
        refine wtk 15 hHeld ?_
        refine wpAnyH_ready (rs := [14]) (by kernel_rfl) (by simp) (AllReadyH.cons (o := ?oq_3_14) ?op_3_14 (fun K hK => ?re_3_14) AllReadyH.nil)
        case op_3_14 => (simp only [List.getElem?_toArray, List.getElem?_cons_succ, List.getElem?_cons_zero]; rfl)
        go_simp
        go_at_call 13
        refine (mconfig_any (by exact hM)).mono ?_
        rintro en v2 ⟨A4, cap4, rfl, hC4, bz⟩
        replace hX := hX.below bz
        replace hM := hM.below bz
        replace hC := hC.below bz
        replace hZ1 := hZ1.below bz
        replace hR1 := hR1.below bz
        replace hZ2 := hZ2.below bz
        replace hR2 := hR2.below bz
        replace hZ3 := hZ3.below bz
        replace hb := below_step hb bz
        clear bz
        refine hK.out _ _ (by exact ⟨hX.cell rfl, hZ1.cell rfl, hZ1.cell rfl, hZ2.cell rfl, hZ2.cell rfl, hZ3.cell rfl, hZ3.cell rfl⟩) (fun hHeld => ?_)
        clear hK K
        try simp only [Act.put, List.setIfInBounds_toArray, List.set_cons_zero, List.set_cons_succ]
        refine wpAnyH_ready (rs := [16]) (by kernel_rfl) (by simp) (AllReadyH.cons (o := ?oq_3_16) ?op_3_16 (fun K hK => ?re_3_16) AllReadyH.nil)
        case op_3_16 => (simp only [List.getElem?_toArray, List.getElem?_cons_succ, List.getElem?_cons_zero]; rfl)
        go_simp
        go_at_call 17
        refine (qcsame_at (by exact hC4.1) (by exact hC.1) (b := true) (sameC_iff.2 rfl)).mono ?_
        rintro en v3 ⟨rfl, bz⟩
        replace hX := hX.below bz
        replace hM := hM.below bz
        replace hC := hC.below bz
        replace hZ1 := hZ1.below bz
        replace hR1 := hR1.below bz
        replace hZ2 := hZ2.below bz
        replace hR2 := hR2.below bz
        replace hZ3 := hZ3.below bz
        replace hb := below_step hb bz
        clear bz
        refine hK.out _ _ (by exact ⟨hX.cell rfl, hZ1.cell rfl, hZ1.cell rfl, hZ2.cell rfl, hZ2.cell rfl, hZ3.cell rfl, hZ3.cell rfl⟩) (fun hHeld => ?_)
        clear hK K
        try simp only [Act.put, List.setIfInBounds_toArray, List.set_cons_zero, List.set_cons_succ]
        refine wtk 17 hHeld ?_
        refine wtk 18 hHeld ?_
        refine wpAnyH_done (by kernel_rfl) ?_ _
        refine NoPanic.normal ?_
        clear hHeld
        have c8 : v3.cell? ⟨p, 8, none⟩ = some (.pointer (some ⟨x, 0, none⟩)) := hX.cell rfl
        go_wp2_with fail
        refine (mtick_any (V' := (tickM V l nw).1) (l' := (tickM V l nw).2) (by exact hM) HTN.out (by omega) HLEN.out rfl rfl).mono ?_
        rintro en w9 ⟨v9, b', rfl, hS9, hM9, hF, hFN⟩
        obtain ⟨SA, Scap, rfl⟩ := hS9.form
        have hX9 := hX.fk hM hF (by decide) (by decide) (by decide) (by decide)
        have hZ19 := hZ1.fk hM hF (by decide) (by decide) (by decide) (by decide)
        have hZ29 := hZ2.fk hM hF (by decide) (by decide) (by decide) (by decide)
        have hC9 := hC.fk hM hF
        have hR9 := hR1.fk hM hF
        have HFN9 := hFN
        have HL9 := Lib.hid ((hO.step hb).next hM9 hF hFN).below
        clear hX hM hC hZ1 hR1 hZ2 hR2 hZ3 hS9 hF hFN hb c8
        obtain ⟨cs9, ht9⟩ := turn_turned HINV.out nw
        have e9 : (tickM V l nw).1.cf = (turnM V l nw).1.cf := rfl
        have el9 : (tickM V l nw).2 = (turnM V l nw).2 := rfl
        have HLB := Lib.hid HFN9.lb
        have h9 : (tickM V l nw).1.cf = ⟨pe, pL⟩ ∨ ((tickM V l nw).1.cf = V.cf ∧ V.cf ≠ ⟨pe, pL⟩ ∧ 65000 < (tickM V l nw).2.length) := by
          rw [e9, el9]
          rcases ht9.step with h | h
          · right
            refine ⟨h.1, (wants_other HP.out).symm, ht9.full (by rw [HP.out]) h.1⟩
          · left
            have := h.1
            rw [HP.out] at this
            injection this with h1 h2
            exact h1.symm
        clear ht9 e9 el9 HFN9
        generalize (tickM V l nw).1 = V9 at *
        generalize (tickM V l nw).2 = l9 at *
        rcases h9 with h9 | ⟨h9, hne, hl9⟩
        · go_upto_region 22 with (fail)
          have hb := Below.refl w9.heap.size w9
          have bd : Below w9.heap.size w9 w9.drew := below_drewN (Below.refl _ _) 1
          replace hX9 := hX9.below bd
          replace hM9 := hM9.below bd
          replace hC9 := hC9.below bd
          replace hR9 := hR9.below bd
          replace hZ19 := hZ19.below bd
          replace hZ29 := hZ29.below bd
          replace hb := below_step hb bd
          clear bd
          refine wp_region_noPanic ?_
          refine wp_region_held_drew (S := (fun w' => w'.cell? ⟨p, 7, none⟩ = some (.pointer (some ⟨b.lb, 0, none⟩)) ∧ w'.cell? ⟨p, 8, none⟩ = some (.pointer (some ⟨x, 0, none⟩)) ∧ w'.cell? ⟨Z2, 0, none⟩ = some (.int .i64 pe) ∧ w'.cell? ⟨Z2, 1, none⟩ = some (.slice A2 pL.length cap2))) (by kernel_rfl) (by exact ⟨hX9.cell rfl, hX9.cell rfl, hZ29.cell rfl, hZ29.cell rfl⟩) (fun hHeld => ?_)
          refine wtk 0 hHeld ?_
          refine wtk 1 hHeld ?_
          refine wtk 2 hHeld ?_
          refine wtk 3 hHeld ?_
          refine wtk 5 hHeld ?_
          refine wpAnyH_ready (rs := [4]) (by kernel_rfl) (by simp) (AllReadyH.cons (o := ?oq_4_4) ?op_4_4 (fun K hK => ?re_4_4) AllReadyH.nil)
          case op_4_4 => (simp only [List.getElem?_toArray, List.getElem?_cons_succ, List.getElem?_cons_zero]; rfl)
          go_simp
          go_at_call 13
          refine (mconfig_any (by exact hM9)).mono ?_
          rintro en v4 ⟨A5, cap5', rfl, hC5, bz⟩
          rw [h9] at hC5 ⊢
          simp only at hC5 ⊢
          replace hX9 := hX9.below bz
          replace hM9 := hM9.below bz
          replace hC9 := hC9.below bz
          replace hR9 := hR9.below bz
          replace hZ19 := hZ19.below bz
          replace hZ29 := hZ29.below bz
          replace hb := below_step hb bz
          clear bz
          refine hK.out _ _ (by exact ⟨hX9.cell rfl, hX9.cell rfl, hZ29.cell rfl, hZ29.cell rfl⟩) (fun hHeld => ?_)
          clear hK K
          try simp only [Act.put, List.setIfInBounds_toArray, List.set_cons_zero, List.set_cons_succ]
          refine wpAnyH_ready (rs := [6]) (by kernel_rfl) (by simp) (AllReadyH.cons (o := ?oq_4_6) ?op_4_6 (fun K hK => ?re_4_6) AllReadyH.nil)
          case op_4_6 => (simp only [List.getElem?_toArray, List.getElem?_cons_succ, List.getElem?_cons_zero]; rfl)
          go_simp
          go_at_call 17
          refine (qcsame_at (by exact hC5.1) (by exact hR9.1) (b := true) (sameC_iff.2 rfl)).mono ?_
          rintro en v5 ⟨rfl, bz⟩
          replace hX9 := hX9.below bz
          replace hM9 := hM9.below bz
          replace hC9 := hC9.below bz
          replace hR9 := hR9.below bz
          replace hZ19 := hZ19.below bz
          replace hZ29 := hZ29.below bz
          replace hb := below_step hb bz
          clear bz
          refine hK.out _ _ (by exact ⟨hX9.cell rfl, hX9.cell rfl, hZ29.cell rfl, hZ29.cell rfl⟩) (fun hHeld => ?_)
          clear hK K
          try simp only [Act.put, List.setIfInBounds_toArray, List.set_cons_zero, List.set_cons_succ]
          refine wtk 7 hHeld ?_
          refine wpAnyH_take (i := 8) (oi := ?oq_4_8) (v := undef) ?op_4_8 (by kernel_rfl) (by kernel_rfl) (by kernel_rfl) (fun _ _ _ h => h) ?yi_4_8 hHeld ?re_4_8
          case op_4_8 => (simp only [List.getElem?_toArray, List.getElem?_cons_succ, List.getElem?_cons_zero]; rfl)
          case yi_4_8 => exact Or.inr ⟨by rfl, rfl⟩
          try simp only [Act.put, List.setIfInBounds_toArray, List.set_cons_zero, List.set_cons_succ]
          refine wpAnyH_take (i := 9) (oi := ?oq_4_9) (v := undef) ?op_4_9 (by kernel_rfl) (by kernel_rfl) (by kernel_rfl) (fun _ _ _ h => h) ?yi_4_9 hHeld ?re_4_9
          case op_4_9 => (simp only [List.getElem?_toArray, List.getElem?_cons_succ, List.getElem?_cons_zero]; rfl)
          case yi_4_9 => exact Or.inr ⟨by rfl, rfl⟩
          try simp only [Act.put, List.setIfInBounds_toArray, List.set_cons_zero, List.set_cons_succ]
          refine wpAnyH_take (i := 10) (oi := ?oq_4_10) (v := undef) ?op_4_10 (by kernel_rfl) (by kernel_rfl) (by kernel_rfl) (fun _ _ _ h => h) ?yi_4_10 hHeld ?re_4_10
          case op_4_10 => (simp only [List.getElem?_toArray, List.getElem?_cons_succ, List.getElem?_cons_zero]; rfl)
          case yi_4_10 => exact Or.inr ⟨by rfl, rfl⟩
          try simp only [Act.put, List.setIfInBounds_toArray, List.set_cons_zero, List.set_cons_succ]
          refine wpAnyH_take (i := 11) (oi := ?oq_4_11) (v := undef) ?op_4_11 (by kernel_rfl) (by kernel_rfl) (by kernel_rfl) (fun _ _ _ h => h) ?yi_4_11 hHeld ?re_4_11
          case op_4_11 => (simp only [List.getElem?_toArray, List.getElem?_cons_succ, List.getElem?_cons_zero]; rfl)
          case yi_4_11 => exact Or.inr ⟨by rfl, rfl⟩
          try simp only [Act.put, List.setIfInBounds_toArray, List.set_cons_zero, List.set_cons_succ]
          refine wpAnyH_take (i := 12) (oi := ?oq_4_12) (v := undef) ?op_4_12 (by kernel_rfl) (by kernel_rfl) (by kernel_rfl) (fun _ _ _ h => h) ?yi_4_12 hHeld ?re_4_12
          case op_4_12 => (simp only [List.getElem?_toArray, List.getElem?_cons_succ, List.getElem?_cons_zero]; rfl)
          case yi_4_12 => exact Or.inr ⟨by rfl, rfl⟩
          try simp only [Act.put, List.setIfInBounds_toArray, List.set_cons_zero, List.set_cons_succ]
          refine wpAnyH_take (i := 13) (oi := ?oq_4_13) (v := undef) ?op_4_13 (by kernel_rfl) (by kernel_rfl) (by kernel_rfl) (fun _ _ _ h => h) ?yi_4_13 hHeld ?re_4_13
          case op_4_13 => (simp only [List.getElem?_toArray, List.getElem?_cons_succ, List.getElem?_cons_zero]; rfl)
          case yi_4_13 => exact Or.inr ⟨by rfl, rfl⟩
          try simp only [Act.put, List.setIfInBounds_toArray, List.set_cons_zero, List.set_cons_succ]
          refine wtk 14 hHeld ?_
          refine wtk 15 hHeld ?_
          refine wpAnyH_done (by kernel_rfl) ?_ _
          refine NoPanic.normal ?_
          clear hHeld hX9 hM9 hC9 hR9 hZ19 hZ29
          have HB := Lib.hid (below_step HL9.out hb)
          clear hb
          go_wp2_with fail
          go_ret
          exact ⟨rfl, HB.out⟩
        · have hl9' : (60000 : Int) < (l9.length : Int) := by omega
          have HNE : Hid (sameC V.cf ⟨pe, pL⟩ = false) := Lib.hid (by
            rw [Bool.eq_false_iff]
            intro h
            exact hne (sameC_iff.1 h))
          clear hne
          go_upto_region 22 with (fail)
          have hb := Below.refl w9.heap.size w9
          have bd : Below w9.heap.size w9 w9.drew := below_drewN (Below.refl _ _) 1
          replace hX9 := hX9.below bd
          replace hM9 := hM9.below bd
          replace hC9 := hC9.below bd
          replace hR9 := hR9.below bd
          replace hZ19 := hZ19.below bd
          replace hZ29 := hZ29.below bd
          replace hb := below_step hb bd
          clear bd
          refine wp_region_noPanic ?_
          refine wp_region_held_drew (S := (fun w' => w'.cell? ⟨p, 7, none⟩ = some (.pointer (some ⟨b.lb, 0, none⟩)) ∧ w'.cell? ⟨p, 8, none⟩ = some (.pointer (some ⟨x, 0, none⟩)) ∧ w'.cell? ⟨Z2, 0, none⟩ = some (.int .i64 pe) ∧ w'.cell? ⟨Z2, 1, none⟩ = some (.slice A2 pL.length cap2))) (by kernel_rfl) (by exact ⟨hX9.cell rfl, hX9.cell rfl, hZ29.cell rfl, hZ29.cell rfl⟩) (fun hHeld => ?_)
          refine wtk 0 hHeld ?_
          refine wtk 1 hHeld ?_
          refine wtk 2 hHeld ?_
          refine wtk 3 hHeld ?_
          refine wtk 5 hHeld ?_
          refine wpAnyH_ready (rs := [4]) (by kernel_rfl) (by simp) (AllReadyH.cons (o := ?oq_5_4) ?op_5_4 (fun K hK => ?re_5_4) AllReadyH.nil)
          case op_5_4 => (simp only [List.getElem?_toArray, List.getElem?_cons_succ, List.getElem?_cons_zero]; rfl)
          go_simp
          go_at_call 13
          refine (mconfig_any (by exact hM9)).mono ?_
          rintro en v4 ⟨A5, cap5', rfl, hC5, bz⟩
          rw [h9] at hC5 ⊢
          simp only at hC5 ⊢
          replace hX9 := hX9.below bz
          replace hM9 := hM9.below bz
          replace hC9 := hC9.below bz
          replace hR9 := hR9.below bz
          replace hZ19 := hZ19.below bz
          replace hZ29 := hZ29.below bz
          replace hb := below_step hb bz
          clear bz
          refine hK.out _ _ (by exact ⟨hX9.cell rfl, hX9.cell rfl, hZ29.cell rfl, hZ29.cell rfl⟩) (fun hHeld => ?_)
          clear hK K
          try simp only [Act.put, List.setIfInBounds_toArray, List.set_cons_zero, List.set_cons_succ]
          refine wpAnyH_ready (rs := [6]) (by kernel_rfl) (by simp) (AllReadyH.cons (o := ?oq_5_6) ?op_5_6 (fun K hK => ?re_5_6) AllReadyH.nil)
          case op_5_6 => (simp only [List.getElem?_toArray, List.getElem?_cons_succ, List.getElem?_cons_zero]; rfl)
          go_simp
          go_at_call 17
          refine (qcsame_at (by exact hC5.1) (by exact hR9.1) (b := false) (HNE.out)).mono ?_
          rintro en v5 ⟨rfl, bz⟩
          replace hX9 := hX9.below bz
          replace hM9 := hM9.below bz
          replace hC9 := hC9.below bz
          replace hR9 := hR9.below bz
          replace hZ19 := hZ19.below bz
          replace hZ29 := hZ29.below bz
          replace hb := below_step hb bz
          clear bz
          refine hK.out _ _ (by exact ⟨hX9.cell rfl, hX9.cell rfl, hZ29.cell rfl, hZ29.cell rfl⟩) (fun hHeld => ?_)
          clear hK K
          try simp only [Act.put, List.setIfInBounds_toArray, List.set_cons_zero, List.set_cons_succ]
          refine wtk 7 hHeld ?_
          refine wtk 8 hHeld ?_
          refine wtk 9 hHeld ?_
          refine wtk 10 hHeld ?_
          refine wtk 11 hHeld ?_
          refine wpAnyH_ready (rs := [12]) (by kernel_rfl) (by simp) (AllReadyH.cons (o := ?oq_5_12) ?op_5_12 (fun K hK => ?re_5_12) AllReadyH.nil)
          case op_5_12 => (simp only [List.getElem?_toArray, List.getElem?_cons_succ, List.getElem?_cons_zero]; rfl)
          go_simp
          go_at_call 27
          obtain ⟨u9, hlog9⟩ := hM9.log
          rw [HLB.out] at hlog9
          refine (size_any (by exact hlog9)).mono ?_
          rintro en v6 ⟨rfl, rfl⟩
          refine hK.out _ _ (by exact ⟨hX9.cell rfl, hX9.cell rfl, hZ29.cell rfl, hZ29.cell rfl⟩) (fun hHeld => ?_)
          clear hK K
          try simp only [Act.put, List.setIfInBounds_toArray, List.set_cons_zero, List.set_cons_succ]
          refine wtk 13 hHeld ?_
          refine wtk 14 hHeld ?_
          refine wtk 15 hHeld ?_
          refine wpAnyH_done (by kernel_rfl) ?_ _
          refine NoPanic.normal ?_
          clear hHeld hX9 hM9 hC9 hR9 hZ19 hZ29
          have HB := Lib.hid (below_step HL9.out hb)
          clear hb
          go_wp2_with fail
          go_ret
          exact ⟨rfl, HB.out⟩
set_option maxRecDepth 100000 in
theorem MasterSame_walk {H : Type} {enc : TypeId × Value → H} {base : Nat} {d d2 : DataW H} {p p2 : List MemPlace} (v v2 : Value) (n : Int) (w : World) (hv : Value.okWide Tryz.prog w .any base 23 v) (ht : DataW.Trod enc Tryz.prog w 0 (fun _ => true) true 23 v d p)
    (hv2 : Value.okWide Tryz.prog w .any base 24 v2) (ht2 : DataW.Trod enc Tryz.prog w 0 (fun _ => true) true 24 v2 d2 p2) (hn : W64 n) :
    Calls Tryz.prog 8 #[v, v2, .int .i64 n] w fun e w' => e = .returned (.bool true) ∧ Below w.heap.size w w' := by
  obtain ⟨s, _, rfl⟩ := open_setup hv ht
  obtain ⟨a, S, cap, rfl, hS⟩ := open_mops hv2 ht2
  exact MasterSame_go hS hn


set_option maxRecDepth 100000 in
theorem MasterSame_calls (H : Type) (enc : TypeId × Value → H) (W : World) (base : Nat) (args : Array Value) (ds gs : List (DataW H)) (before : List MemPlace)
    (hval : ∀ (j : Nat) t v, Tryz.f8.params[j]? = some t → args[j]? = some v → Value.okWide Tryz.prog W .any base t v)
    (hW : DataW.Whole enc Tryz.prog Tryz.f8.params.toList Rows.masterSameSpec.vars false W args.toList ds gs before) :
    Calls Tryz.prog 8 args W fun e W' => e = .returned (.bool true) ∧ Below W.heap.size W W' := by
  obtain ⟨p, q, hA, hV, rfl, hfz, hnd⟩ := hW
  rw [Tryz.params8] at hA hval
  obtain ⟨v0, vs0, d0, ds0, p0, q0, hargs, rfl, rfl, h0, r0⟩ := trodAll_cons hA
  obtain ⟨v1, vs1, d1, ds1, p1, q1, rfl, rfl, rfl, h1, r1⟩ := trodAll_cons r0
  obtain ⟨v2, vs2, d2, ds2, p2, q2, rfl, rfl, rfl, h2, r2⟩ := trodAll_cons r1
  obtain ⟨rfl, rfl, rfl⟩ := trodAll_nil r2
  obtain rfl : args = #[v0, v1, v2] := Array.toList_inj.1 hargs
  obtain ⟨x2, rfl, rfl, rfl, w2⟩ := open_int Tryz.underlying3 (hval 2 3 v2 rfl rfl) h2
  exact MasterSame_walk v0 v1 x2 W (hval 0 23 v0 rfl rfl) h0 (hval 1 24 v1 rfl rfl) h1 w2

set_option maxRecDepth 100000 in
theorem MasterSame_lifted (os : Os) (started : os.Started) (H : Type) (enc : TypeId × Value → H) :
    ReturnsInHanded {} Tryz.checked os 8 .any (Rows.masterSameSpec.pre6 enc Tryz.prog Tryz.f8 Rows.masterSameRow.domain false) (Rows.masterSameSpec.post enc Tryz.prog Tryz.f8 false true false false) := by
  refine returnsInHanded_of_change (C := Tryz.checked) own started (by kernel_rfl) Tryz.func8
    (ChangeSpec.witness6 (enc := enc) (C := Tryz.checked) false ⟨#[], #[.agg #[.int .i64 0, .int .i64 0, .int .i64 0, .int .i64 0, .int .i64 0, .int .i64 0, .int .i64 0], .slice none 0 0, .int .i64 0], []⟩ 8 (by kernel_rfl) (by kernel_rfl) (by kernel_rfl) (by kernel_rfl)) ?_
  intro W base args ds gs before hval0 hW hcnd _
  have hval : ∀ (j : Nat) t v, Tryz.f8.params[j]? = some t → args[j]? = some v → Value.okWide Tryz.prog W .any base t v := hval0
  refine (MasterSame_calls H enc W base args ds gs before hval hW).mono fun e W' ⟨he, bel⟩ => ?_
  exact ⟨_, he, law_post (ts := [23, 24, 3]) (by rw [Tryz.params8]) (by intro t ht; simp only [List.mem_cons, List.not_mem_nil, or_false] at ht; rcases ht with rfl | rfl | rfl <;> exact ⟨by kernel_rfl, of_decide_eq_true (by kernel_rfl)⟩) hW rfl
    (fun ds h => by match ds, h with | [_, _, _], _ => rfl) (by kernel_rfl) bel⟩

theorem MasterSame_over : Rows.masterSameRow.holds Tryz.pinned (OpenSpec.ofChange Rows.masterSameSpec) :=
  OpenClaim.holds_of_wide 8 Tryz.f8 rfl rfl rfl rfl rfl rfl rfl ⟨rfl, rfl, rfl, rfl, rfl⟩ rfl rfl rfl rfl rfl (by kernel_rfl) Tryz.func8 (by kernel_rfl)
    (of_decide_eq_true (by kernel_rfl)) (by unfold Func.isWrapper; first | (rw [if_pos (by decide +kernel)]; kernel_rfl) | (rw [if_neg (by decide +kernel)]; exact ⟨rfl, rfl⟩))
    (fun os started H enc _ => MasterSame_lifted os started H enc)

/-- The statement. -/
theorem MasterSame_proved : Rows.MasterSameSaid := MasterSame_over

end Go.Proofs.YtomfmejodmfioaaGreat
