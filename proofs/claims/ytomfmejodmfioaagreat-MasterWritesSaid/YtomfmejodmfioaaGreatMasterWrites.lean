/- MasterWrites: for every setup and script the law answers true. No condition. -/
import Derived.Test.YtomfmejodmfioaaGreatMstSaid
import Derived.Test.YtomfmejodmfioaaGreatWun
import Derived.Deep.DeepCutAuto
namespace Go.Proofs.YtomfmejodmfioaaGreat
open Go.RowKit Go.Maps Go.ChangeShapes Go.WideShapes Go.Joins Go.Deep
set_option linter.unusedVariables false

theorem MsgsS.short {B : Nat} {w : World} {v : Value} {L : List (Int × Int)} {c : ConfV} (h : MsgsS B w v L c) : L.length ≤ 9223372036854775807 := by
  obtain ⟨css, h1, h2, h3⟩ := h
  rcases h2.2 with ⟨_, h0⟩ | ⟨g, cap, cur, _, _, _, h4, h5, _⟩
  · omega
  · unfold maxLen at h5; omega
set_option maxRecDepth 100000 in
set_option maxHeartbeats 16000000 in

theorem MasterWrites_go {w : World} {s : SetV} {a : Option Addr} {S : List MopV} {cap : Nat} (hS : MopsAt w a S) :
    Calls Tryz.prog 7 #[.agg (setC7 s).toArray, .slice a S.length cap] w fun e w' => e = .returned (.bool true) ∧ Below w.heap.size w w' := by
  have hsb := BlkAt.new w 23 (setC7 s)
  have hb := (Below.refl w.heap.size w).alloc (Nat.le_refl _) (.cells (setC7 s).toArray 23)
  go_enter Tryz.func7, Tryz.ntmps7
  go_upto_region 1 with (fail)
  change Code.wp _ _ _ _ (w.alloc (.cells (setC7 s).toArray 23))
  change BlkAt (w.alloc (.cells (setC7 s).toArray 23)) _ _ _ at hsb
  generalize (w.alloc (.cells (setC7 s).toArray 23)) = W at *
  obtain ⟨sb, hsbd⟩ : ∃ sb, sb = w.heap.size := ⟨_, rfl⟩
  rw [← hsbd] at hsb ⊢
  clear hsbd
  have hlenS := hS.1
  unfold maxLen at hlenS
  have HS := Lib.hid hS
  clear hS
  go_wp2_with fail
  refine (awake15_any _).mono ?_
  rintro en w2 ⟨rfl, b2⟩
  replace hsb := hsb.below b2
  replace hb := below_step hb b2
  clear b2
  have q0 : w2.cell? ⟨sb, 0, none⟩ = some (.int .i64 s.nodes) := hsb.cell rfl
  have q1 : w2.cell? ⟨sb, 1, none⟩ = some (.int .i64 s.clients) := hsb.cell rfl
  have q2 : w2.cell? ⟨sb, 2, none⟩ = some (.int .i64 s.timers) := hsb.cell rfl
  have q3 : w2.cell? ⟨sb, 3, none⟩ = some (.int .i64 s.lease) := hsb.cell rfl
  have q4 : w2.cell? ⟨sb, 4, none⟩ = some (.int .i64 s.suspect) := hsb.cell rfl
  have q5 : w2.cell? ⟨sb, 5, none⟩ = some (.int .i64 s.skew) := hsb.cell rfl
  have q6 : w2.cell? ⟨sb, 6, none⟩ = some (.int .i64 s.base) := hsb.cell rfl
  go_wp2_with fail
  refine (rmay_any s _).mono ?_
  rintro en w3 ⟨rfl, b3⟩
  clear q0 q1 q2 q3 q4 q5 q6
  replace hsb := hsb.below b3
  replace hb := below_step hb b3
  clear b3
  have q0 : w3.cell? ⟨sb, 0, none⟩ = some (.int .i64 s.nodes) := hsb.cell rfl
  have q1 : w3.cell? ⟨sb, 1, none⟩ = some (.int .i64 s.clients) := hsb.cell rfl
  have q2 : w3.cell? ⟨sb, 2, none⟩ = some (.int .i64 s.timers) := hsb.cell rfl
  have q3 : w3.cell? ⟨sb, 3, none⟩ = some (.int .i64 s.lease) := hsb.cell rfl
  have q4 : w3.cell? ⟨sb, 4, none⟩ = some (.int .i64 s.suspect) := hsb.cell rfl
  have q5 : w3.cell? ⟨sb, 5, none⟩ = some (.int .i64 s.skew) := hsb.cell rfl
  have q6 : w3.cell? ⟨sb, 6, none⟩ = some (.int .i64 s.base) := hsb.cell rfl
  by_cases hgo : mayS s = true ∧ s.base ≤ 549755813888 ∧ S.length ≤ 200
  case neg =>
    have HGO := Lib.hid hgo
    clear hgo
    cases hmay : mayS s with
    | false =>
      go_wp2_with fail
      refine (awake15_any _).mono ?_
      rintro en w9 ⟨rfl, b9⟩

      replace hb := below_step hb b9
      clear b9
      go_wp2_with fail
      go_ret
      exact ⟨rfl, hb⟩
    | true =>
      by_cases hbase : 549755813888 < s.base
      · skip
        go_wp2_with fail
        refine (awake15_any _).mono ?_
        rintro en w9 ⟨rfl, b9⟩

        replace hb := below_step hb b9
        clear b9
        go_wp2_with fail
        go_ret
        exact ⟨rfl, hb⟩
      · have hlim : 200 < S.length := by
          rcases Nat.lt_or_ge 200 S.length with h | h
          · exact h
          · exact absurd ⟨hmay, by omega, h⟩ HGO.out
        have hlim' : (200 : Int) < (S.length : Int) := by omega
        go_wp2_with fail
        refine (awake15_any _).mono ?_
        rintro en w9 ⟨rfl, b9⟩

        replace hb := below_step hb b9
        clear b9
        go_wp2_with fail
        go_ret
        exact ⟨rfl, hb⟩
  obtain ⟨hmay, hbase, hlim⟩ := hgo
  have hbase' : ¬ 549755813888 < s.base := by omega
  have hlim' : ¬ (200 : Int) < (S.length : Int) := by omega
  rw [hmay]
  have hset := hmay
  have hb0 : 0 ≤ s.base := by
    unfold mayS at hset
    rw [decide_eq_true_eq] at hset
    exact hset.2.2.2.2.2.2.2.2.2.2.2.2.1
  go_wp2_with fail
  refine (made15_any hset _).mono ?_
  rintro en w4 ⟨B, p, bs, rfl, hP0⟩
  have hP := hP0.over hb
  have hSB := hsb.below hP0.low
  have HSET := Lib.hid hset
  have HB34 := Lib.hid hb
  clear hP0 hb hsb hmay hset q0 q1 q2 q3 q4 q5 q6 hbase' hlim'
  have hA : Amid w w4 B p s 0 := ⟨_, _, _, _, _, hP, hb0, by omega⟩
  clear hP hSB
  go_wp2_with fail
  go_loopw [48] (fun i wr => ∃ k : Nat, k ≤ S.length ∧ i = .int .i64 k ∧ Amid w wr B p s k) (fun i _ => S.length - (intOf i).toNat)
  case atStart => exact ⟨0, Nat.zero_le _, rfl, hA⟩
  case round =>
    obtain ⟨k, hk, rfl, hAr⟩ := hrel
    clear hA
    obtain ⟨V, l, cs, now, bs, hP, hn0, hn1⟩ := hAr
    by_cases hlt : k < S.length
    · skip
      obtain ⟨sB, soff, rfl, sab, hc⟩ := HS.out.2.2 (by omega)
      obtain ⟨o, ho⟩ : ∃ o, S[k]? = some o := ⟨_, List.getElem?_eq_getElem hlt⟩
      have hop : MopOk o := HS.out.2.1 o (List.mem_of_getElem? ho)
      have hat := (hc k o ho).of (w' := wr) fun j => hP.low.cell (p := ⟨sB, j, none⟩) sab
      obtain ⟨kd, d0, e0, kp, nd, lf, fl⟩ := o
      have t0 : wr.cell? ⟨sB, soff + k * 7, none⟩ = some (.int .i64 kd) := hat 0 _ rfl
      have t1 : wr.cell? ⟨sB, soff + k * 7 + 1, none⟩ = some (.int .i64 d0) := hat 1 _ rfl
      have t2 : wr.cell? ⟨sB, soff + k * 7 + 2, none⟩ = some (.int .i64 e0) := hat 2 _ rfl
      have t3 : wr.cell? ⟨sB, soff + k * 7 + 3, none⟩ = some (.int .i64 kp) := hat 3 _ rfl
      have t4 : wr.cell? ⟨sB, soff + k * 7 + 4, none⟩ = some (.int .i64 nd) := hat 4 _ rfl
      have t5 : wr.cell? ⟨sB, soff + k * 7 + 5, none⟩ = some (.int .i64 lf) := hat 5 _ rfl
      have t6 : wr.cell? ⟨sB, soff + k * 7 + 6, none⟩ = some (.bool fl) := hat 6 _ rfl
      have HO := Lib.hid ho
      have HOP := Lib.hid hop
      clear hat hc ho hop
      have hb := Below.refl wr.heap.size wr
      go_upto_region 9 with (fail)
      have hT := BlkAt.new wr 44 [.int .i64 kd, .int .i64 d0, .int .i64 e0, .int .i64 kp, .int .i64 nd, .int .i64 lf, .bool fl]
      replace hP := hP.below ((Below.refl _ _).alloc (Nat.le_refl _) (.cells #[.int .i64 kd, .int .i64 d0, .int .i64 e0, .int .i64 kp, .int .i64 nd, .int .i64 lf, .bool fl] 44))
      replace hb := hb.alloc hb.size (.cells #[.int .i64 kd, .int .i64 d0, .int .i64 e0, .int .i64 kp, .int .i64 nd, .int .i64 lf, .bool fl] 44)
      change Code.wp _ _ _ _ (wr.alloc (.cells #[.int .i64 kd, .int .i64 d0, .int .i64 e0, .int .i64 kp, .int .i64 nd, .int .i64 lf, .bool fl] 44))
      change BlkAt (wr.alloc (.cells #[.int .i64 kd, .int .i64 d0, .int .i64 e0, .int .i64 kp, .int .i64 nd, .int .i64 lf, .bool fl] 44)) _ _ _ at hT
      have hTn := (show wr.heap.size ≤ wr.heap.size from Nat.le_refl _)
      generalize wr.alloc (.cells #[.int .i64 kd, .int .i64 d0, .int .i64 e0, .int .i64 kp, .int .i64 nd, .int .i64 lf, .bool fl] 44) = w5 at *
      generalize wr.heap.size = T at hT ⊢
      clear hTn
      clear t0 t1 t2 t3 t4 t5 t6
      have t0 : w5.cell? ⟨T, 0, none⟩ = some (.int .i64 kd) := hT.cell rfl
      have t1 : w5.cell? ⟨T, 1, none⟩ = some (.int .i64 d0) := hT.cell rfl
      have t2 : w5.cell? ⟨T, 2, none⟩ = some (.int .i64 e0) := hT.cell rfl
      have t3 : w5.cell? ⟨T, 3, none⟩ = some (.int .i64 kp) := hT.cell rfl
      have t4 : w5.cell? ⟨T, 4, none⟩ = some (.int .i64 nd) := hT.cell rfl
      have t5 : w5.cell? ⟨T, 5, none⟩ = some (.int .i64 lf) := hT.cell rfl
      have t6 : w5.cell? ⟨T, 6, none⟩ = some (.bool fl) := hT.cell rfl
      clear t0 t1 t2 t3 t4 t5 t6 hb
      obtain ⟨x, b, hbs, hX, hO⟩ := hP.own
      have c8 : w5.cell? ⟨p, 8, none⟩ = some (.pointer (some ⟨x, 0, none⟩)) := hX.cell rfl
      go_wp2_with fail
      refine (mconfig_any (by exact hO.mst)).mono ?_
      rintro en w6 ⟨A, cap5, rfl, hC, hb⟩
      have hPq := hP.below hb
      have hTq := hT.below hb
      clear c8 hX hO hbs hP hT
      have hP := hPq
      have hT := hTq
      clear hPq hTq
      go_upto_region 10 with (fail)
      have hZ1 := BlkAt.new w6 35 [.int .i64 V.cf.epoch, .slice A V.cf.chain.length cap5]
      replace hP := hP.below ((Below.refl _ _).alloc (Nat.le_refl _) (.cells #[.int .i64 V.cf.epoch, .slice A V.cf.chain.length cap5] 35))
      replace hT := hT.below ((Below.refl _ _).alloc (Nat.le_refl _) (.cells #[.int .i64 V.cf.epoch, .slice A V.cf.chain.length cap5] 35))
      replace hC := hC.below ((Below.refl _ _).alloc (Nat.le_refl _) (.cells #[.int .i64 V.cf.epoch, .slice A V.cf.chain.length cap5] 35))
      replace hb := hb.alloc hb.size (.cells #[.int .i64 V.cf.epoch, .slice A V.cf.chain.length cap5] 35)
      change Code.wp _ _ _ _ (w6.alloc (.cells #[.int .i64 V.cf.epoch, .slice A V.cf.chain.length cap5] 35))
      change BlkAt (w6.alloc (.cells #[.int .i64 V.cf.epoch, .slice A V.cf.chain.length cap5] 35)) _ _ _ at hZ1
      have hZ1n := (show w6.heap.size ≤ w6.heap.size from Nat.le_refl _)
      generalize w6.alloc (.cells #[.int .i64 V.cf.epoch, .slice A V.cf.chain.length cap5] 35) = w7 at *
      generalize w6.heap.size = Z1 at hZ1 ⊢
      clear hZ1n
      have hdd := modU_in (x := d0) (k := 10) (by decide)
      have HDW := Lib.hid (modU_wrap (x := d0) (k := 10) (by decide) (by decide))
      obtain ⟨nw, hnw⟩ : ∃ nw, nowP now d0 = nw := ⟨_, rfl⟩
      have hnw1 := nowP_in now d0
      have HNW : Hid (IntKind.i64.wrap (now + IntKind.i64.wrap ((IntKind.u64.wrap d0).tmod 10)) = nw) := Lib.hid (by rw [IntWalk.i64_left, IntWalk.i64_left, HDW.out, IntWalk.wrap64_in _ ⟨by omega, by omega⟩]; exact hnw)
      rw [hnw] at hnw1
      have HNQ := Lib.hid hnw
      have HTN : Hid (TOk nw) := Lib.hid ⟨by omega, by omega⟩
      clear hdd HDW hnw hb
      obtain ⟨x, b, hbs, hX, hO⟩ := hP.own
      go_upto_region 10 with (fail)
      have hb := Below.refl w7.heap.size w7
      have bd : Below w7.heap.size w7 w7.drew := below_drewN (Below.refl _ _) 1
      replace hP := hP.below bd
      replace hT := hT.below bd
      replace hC := hC.below bd
      replace hX := hX.below bd
      replace hZ1 := hZ1.below bd
      replace hb := below_step hb bd
      clear bd
      refine wp_region_noPanic ?_
      refine wp_region_held_drew (S := (fun w' => w'.cell? ⟨p, 9, none⟩ = some (.int .i64 now) ∧ w'.cell? ⟨T, 1, none⟩ = some (.int .i64 d0))) (by kernel_rfl) (by exact ⟨hX.cell rfl, hT.cell rfl⟩) (fun hHeld => ?_)
      refine wtk 0 hHeld ?_
      refine wtk 1 hHeld ?_
      refine wtk 2 hHeld ?_
      refine wtk 3 hHeld ?_
      refine wtk 4 hHeld ?_
      refine wtk 5 hHeld ?_
      refine wtk 6 hHeld ?_
      refine wtk 7 hHeld ?_
      refine wtk 8 hHeld ?_
      refine wtk 9 hHeld ?_
      refine wtk 10 hHeld ?_
      refine wpAnyH_done (by kernel_rfl) ?_ _
      refine NoPanic.normal ?_
      clear hHeld hX hO hbs
      rw [HNW.out]
      generalize w7.drew = w8 at *
      obtain ⟨x, b, hbs, hX, hO⟩ := hP.own
      have c8 : w8.cell? ⟨p, 8, none⟩ = some (.pointer (some ⟨x, 0, none⟩)) := hX.cell rfl
      obtain ⟨pe, pL, pb, hp⟩ := res_parts (wantsM V nw)
      have HP := Lib.hid hp
      clear hb
      go_wp2_with fail
      refine (mwants_any (by exact hO.mst) HTN.out hp).mono ?_
      rintro en w9 ⟨A2, cap2, rfl, hR, hb⟩
      simp only at hR
      have hPq := hP.below hb
      have hTq := hT.below hb
      have hCq := hC.below hb
      have hZ1q := hZ1.below hb
      clear c8 hX hO hbs hP hT hC hZ1 hp
      have hP := hPq
      have hT := hTq
      have hC := hCq
      have hZ1 := hZ1q
      clear hPq hTq hCq hZ1q
      go_upto_region 12 with (fail)
      have hZ2 := BlkAt.new w9 35 [.int .i64 pe, .slice A2 pL.length cap2]
      replace hP := hP.below ((Below.refl _ _).alloc (Nat.le_refl _) (.cells #[.int .i64 pe, .slice A2 pL.length cap2] 35))
      replace hT := hT.below ((Below.refl _ _).alloc (Nat.le_refl _) (.cells #[.int .i64 pe, .slice A2 pL.length cap2] 35))
      replace hC := hC.below ((Below.refl _ _).alloc (Nat.le_refl _) (.cells #[.int .i64 pe, .slice A2 pL.length cap2] 35))
      replace hZ1 := hZ1.below ((Below.refl _ _).alloc (Nat.le_refl _) (.cells #[.int .i64 pe, .slice A2 pL.length cap2] 35))
      replace hR := hR.below ((Below.refl _ _).alloc (Nat.le_refl _) (.cells #[.int .i64 pe, .slice A2 pL.length cap2] 35))
      replace hb := hb.alloc hb.size (.cells #[.int .i64 pe, .slice A2 pL.length cap2] 35)
      change Code.wp _ _ _ _ (w9.alloc (.cells #[.int .i64 pe, .slice A2 pL.length cap2] 35))
      change BlkAt (w9.alloc (.cells #[.int .i64 pe, .slice A2 pL.length cap2] 35)) _ _ _ at hZ2
      have hZ2n := (show w9.heap.size ≤ w9.heap.size from Nat.le_refl _)
      generalize w9.alloc (.cells #[.int .i64 pe, .slice A2 pL.length cap2] 35) = w10 at *
      generalize w9.heap.size = Z2 at hZ2 ⊢
      clear hZ2n
      clear hb
      have t0 : w10.cell? ⟨T, 0, none⟩ = some (.int .i64 kd) := hT.cell rfl
      have t1 : w10.cell? ⟨T, 1, none⟩ = some (.int .i64 d0) := hT.cell rfl
      have t2 : w10.cell? ⟨T, 2, none⟩ = some (.int .i64 e0) := hT.cell rfl
      have t3 : w10.cell? ⟨T, 3, none⟩ = some (.int .i64 kp) := hT.cell rfl
      have t4 : w10.cell? ⟨T, 4, none⟩ = some (.int .i64 nd) := hT.cell rfl
      have t5 : w10.cell? ⟨T, 5, none⟩ = some (.int .i64 lf) := hT.cell rfl
      have t6 : w10.cell? ⟨T, 6, none⟩ = some (.bool fl) := hT.cell rfl
      go_wp2_with fail
      refine (play_any (by exact hP) HSET.out HOP.out (by omega) (by omega) HNQ.out).mono ?_
      rintro en w11 ⟨v, V', l', cs', said, bs', rfl, hSd, hP', hKp, hFN, hst⟩
      obtain ⟨SA, Scap, rfl⟩ := hSd.form
      have HST := Lib.hid hst
      have HINV := Lib.hid hP.inv
      have HFOL := Lib.hid (hst.follows hP.inv)
      have hTq := hT.keepP hKp (by decide) (by decide) (by decide) (by decide) (by decide)
      have hZ1q := hZ1.keepP hKp (by decide) (by decide) (by decide) (by decide) (by decide)
      have hZ2q := hZ2.keepP hKp (by decide) (by decide) (by decide) (by decide) (by decide)
      have hCq := hC.keepP hKp
      have hRq := hR.keepP hKp
      clear t0 t1 t2 t3 t4 t5 t6 hP hT hZ1 hZ2 hC hR hKp hFN hst
      have hP := hP'
      have hT := hTq
      have hZ1 := hZ1q
      have hZ2 := hZ2q
      have hC := hCq
      have hR := hRq
      clear hP' hTq hZ1q hZ2q hCq hRq
      obtain ⟨x, b, hbs, hX, hO⟩ := hP.own
      have c8 : w11.cell? ⟨p, 8, none⟩ = some (.pointer (some ⟨x, 0, none⟩)) := hX.cell rfl
      go_wp2_with fail
      refine (mconfig_any (by exact hO.mst)).mono ?_
      rintro en w12 ⟨A3, cap3, rfl, hC3, hb⟩
      clear c8 hX hO hbs
      have hB12 := hb
      have hPq := hP.below hb
      have hTq := hT.below hb
      have hCq := hC.below hb
      have hZ1q := hZ1.below hb
      have hZ2q := hZ2.below hb
      have hRq := hR.below hb
      have hSdq := hSd.below hb
      clear hP hT hC hZ1 hZ2 hR hSd hB12
      have hP := hPq
      have hT := hTq
      have hC := hCq
      have hZ1 := hZ1q
      have hZ2 := hZ2q
      have hR := hRq
      have hSd := hSdq
      clear hPq hTq hCq hZ1q hZ2q hRq hSdq
      go_upto_region 14 with (fail)
      have hZ3 := BlkAt.new w12 35 [.int .i64 V'.cf.epoch, .slice A3 V'.cf.chain.length cap3]
      replace hP := hP.below ((Below.refl _ _).alloc (Nat.le_refl _) (.cells #[.int .i64 V'.cf.epoch, .slice A3 V'.cf.chain.length cap3] 35))
      replace hT := hT.below ((Below.refl _ _).alloc (Nat.le_refl _) (.cells #[.int .i64 V'.cf.epoch, .slice A3 V'.cf.chain.length cap3] 35))
      replace hC := hC.below ((Below.refl _ _).alloc (Nat.le_refl _) (.cells #[.int .i64 V'.cf.epoch, .slice A3 V'.cf.chain.length cap3] 35))
      replace hZ1 := hZ1.below ((Below.refl _ _).alloc (Nat.le_refl _) (.cells #[.int .i64 V'.cf.epoch, .slice A3 V'.cf.chain.length cap3] 35))
      replace hZ2 := hZ2.below ((Below.refl _ _).alloc (Nat.le_refl _) (.cells #[.int .i64 V'.cf.epoch, .slice A3 V'.cf.chain.length cap3] 35))
      replace hR := hR.below ((Below.refl _ _).alloc (Nat.le_refl _) (.cells #[.int .i64 V'.cf.epoch, .slice A3 V'.cf.chain.length cap3] 35))
      replace hSd := hSd.below ((Below.refl _ _).alloc (Nat.le_refl _) (.cells #[.int .i64 V'.cf.epoch, .slice A3 V'.cf.chain.length cap3] 35))
      replace hC3 := hC3.below ((Below.refl _ _).alloc (Nat.le_refl _) (.cells #[.int .i64 V'.cf.epoch, .slice A3 V'.cf.chain.length cap3] 35))
      replace hb := hb.alloc hb.size (.cells #[.int .i64 V'.cf.epoch, .slice A3 V'.cf.chain.length cap3] 35)
      change Code.wp _ _ _ _ (w12.alloc (.cells #[.int .i64 V'.cf.epoch, .slice A3 V'.cf.chain.length cap3] 35))
      change BlkAt (w12.alloc (.cells #[.int .i64 V'.cf.epoch, .slice A3 V'.cf.chain.length cap3] 35)) _ _ _ at hZ3
      have hZ3n := (show w12.heap.size ≤ w12.heap.size from Nat.le_refl _)
      generalize w12.alloc (.cells #[.int .i64 V'.cf.epoch, .slice A3 V'.cf.chain.length cap3] 35) = w13 at *
      generalize w12.heap.size = Z3 at hZ3 ⊢
      clear hZ3n
      clear hb
      go_cut [135] (fun sv wx => sv = .bool false ∧ PlyAt w wx B p s (100 + 1100000 * k + 1100000) V' l' cs' nw bs' ∧ BlkAt wx Z3 35 [.int .i64 V'.cf.epoch, .slice A3 V'.cf.chain.length cap3] ∧ ChainS wx (.slice A3 V'.cf.chain.length cap3) V'.cf.chain ∧ MsgsS w10.heap.size wx (.slice SA said.length Scap) said V'.cf)
      case first =>
        by_cases h1 : kd = 1
        · subst h1
          have t0 : w13.cell? ⟨T, 0, none⟩ = some (.int .i64 1) := hT.cell rfl
          have z10 : w13.cell? ⟨Z1, 0, none⟩ = some (.int .i64 V.cf.epoch) := hZ1.cell rfl
          have z11 : w13.cell? ⟨Z1, 1, none⟩ = some (.slice A V.cf.chain.length cap5) := hZ1.cell rfl
          have z20 : w13.cell? ⟨Z2, 0, none⟩ = some (.int .i64 pe) := hZ2.cell rfl
          have z21 : w13.cell? ⟨Z2, 1, none⟩ = some (.slice A2 pL.length cap2) := hZ2.cell rfl
          have z30 : w13.cell? ⟨Z3, 0, none⟩ = some (.int .i64 V'.cf.epoch) := hZ3.cell rfl
          have z31 : w13.cell? ⟨Z3, 1, none⟩ = some (.slice A3 V'.cf.chain.length cap3) := hZ3.cell rfl
          go_wp2_with fail
          refine (cfollows_at (by exact hC.1) (by exact hC3.1) (b := true) HFOL.out).mono ?_
          rintro en x1 ⟨rfl, bz⟩
          clear t0 z10 z11 z20 z21 z30 z31
          replace hP := hP.below bz
          replace hT := hT.below bz
          replace hZ1 := hZ1.below bz
          replace hC := hC.below bz
          replace hZ2 := hZ2.below bz
          replace hR := hR.below bz
          replace hZ3 := hZ3.below bz
          replace hC3 := hC3.below bz
          replace hSd := hSd.below bz
          clear bz
          have t0 : x1.cell? ⟨T, 0, none⟩ = some (.int .i64 1) := hT.cell rfl
          have z10 : x1.cell? ⟨Z1, 0, none⟩ = some (.int .i64 V.cf.epoch) := hZ1.cell rfl
          have z11 : x1.cell? ⟨Z1, 1, none⟩ = some (.slice A V.cf.chain.length cap5) := hZ1.cell rfl
          have z20 : x1.cell? ⟨Z2, 0, none⟩ = some (.int .i64 pe) := hZ2.cell rfl
          have z21 : x1.cell? ⟨Z2, 1, none⟩ = some (.slice A2 pL.length cap2) := hZ2.cell rfl
          have z30 : x1.cell? ⟨Z3, 0, none⟩ = some (.int .i64 V'.cf.epoch) := hZ3.cell rfl
          have z31 : x1.cell? ⟨Z3, 1, none⟩ = some (.slice A3 V'.cf.chain.length cap3) := hZ3.cell rfl
          go_wp2_with fail
          go_meet
          exact ⟨rfl, hP, hZ3, hC3, hSd⟩
        · have hk1 : (kd == 1) = false := by simpa using h1
          have hk1' : (kd != 1) = true := by simpa using h1
          by_cases hsm : V'.cf = V.cf
          · have HQ1 : Hid (sameC V'.cf V.cf = true) := Lib.hid (sameC_iff.2 hsm)
            by_cases h2 : kd = 2
            · subst h2
              cases pb with
              | false =>
                clear hsm
                have t0 : w13.cell? ⟨T, 0, none⟩ = some (.int .i64 2) := hT.cell rfl
                have z10 : w13.cell? ⟨Z1, 0, none⟩ = some (.int .i64 V.cf.epoch) := hZ1.cell rfl
                have z11 : w13.cell? ⟨Z1, 1, none⟩ = some (.slice A V.cf.chain.length cap5) := hZ1.cell rfl
                have z20 : w13.cell? ⟨Z2, 0, none⟩ = some (.int .i64 pe) := hZ2.cell rfl
                have z21 : w13.cell? ⟨Z2, 1, none⟩ = some (.slice A2 pL.length cap2) := hZ2.cell rfl
                have z30 : w13.cell? ⟨Z3, 0, none⟩ = some (.int .i64 V'.cf.epoch) := hZ3.cell rfl
                have z31 : w13.cell? ⟨Z3, 1, none⟩ = some (.slice A3 V'.cf.chain.length cap3) := hZ3.cell rfl
                go_wp2_with fail
                refine (cfollows_at (by exact hC.1) (by exact hC3.1) (b := true) HFOL.out).mono ?_
                rintro en x1 ⟨rfl, bz⟩
                clear t0 z10 z11 z20 z21 z30 z31
                replace hP := hP.below bz
                replace hT := hT.below bz
                replace hZ1 := hZ1.below bz
                replace hC := hC.below bz
                replace hZ2 := hZ2.below bz
                replace hR := hR.below bz
                replace hZ3 := hZ3.below bz
                replace hC3 := hC3.below bz
                replace hSd := hSd.below bz
                clear bz
                have t0 : x1.cell? ⟨T, 0, none⟩ = some (.int .i64 2) := hT.cell rfl
                have z10 : x1.cell? ⟨Z1, 0, none⟩ = some (.int .i64 V.cf.epoch) := hZ1.cell rfl
                have z11 : x1.cell? ⟨Z1, 1, none⟩ = some (.slice A V.cf.chain.length cap5) := hZ1.cell rfl
                have z20 : x1.cell? ⟨Z2, 0, none⟩ = some (.int .i64 pe) := hZ2.cell rfl
                have z21 : x1.cell? ⟨Z2, 1, none⟩ = some (.slice A2 pL.length cap2) := hZ2.cell rfl
                have z30 : x1.cell? ⟨Z3, 0, none⟩ = some (.int .i64 V'.cf.epoch) := hZ3.cell rfl
                have z31 : x1.cell? ⟨Z3, 1, none⟩ = some (.slice A3 V'.cf.chain.length cap3) := hZ3.cell rfl
                go_wp2_with fail
                refine (qcsame_at (by exact hC3.1) (by exact hC.1) (b := true) HQ1.out).mono ?_
                rintro en x2 ⟨rfl, bz⟩
                clear t0 z10 z11 z20 z21 z30 z31
                replace hP := hP.below bz
                replace hT := hT.below bz
                replace hZ1 := hZ1.below bz
                replace hC := hC.below bz
                replace hZ2 := hZ2.below bz
                replace hR := hR.below bz
                replace hZ3 := hZ3.below bz
                replace hC3 := hC3.below bz
                replace hSd := hSd.below bz
                clear bz
                have t0 : x2.cell? ⟨T, 0, none⟩ = some (.int .i64 2) := hT.cell rfl
                have z10 : x2.cell? ⟨Z1, 0, none⟩ = some (.int .i64 V.cf.epoch) := hZ1.cell rfl
                have z11 : x2.cell? ⟨Z1, 1, none⟩ = some (.slice A V.cf.chain.length cap5) := hZ1.cell rfl
                have z20 : x2.cell? ⟨Z2, 0, none⟩ = some (.int .i64 pe) := hZ2.cell rfl
                have z21 : x2.cell? ⟨Z2, 1, none⟩ = some (.slice A2 pL.length cap2) := hZ2.cell rfl
                have z30 : x2.cell? ⟨Z3, 0, none⟩ = some (.int .i64 V'.cf.epoch) := hZ3.cell rfl
                have z31 : x2.cell? ⟨Z3, 1, none⟩ = some (.slice A3 V'.cf.chain.length cap3) := hZ3.cell rfl
                go_wp2_with fail
                refine (qcsame_at (by exact hC3.1) (by exact hC.1) (b := true) HQ1.out).mono ?_
                rintro en x3 ⟨rfl, bz⟩
                clear t0 z10 z11 z20 z21 z30 z31
                replace hP := hP.below bz
                replace hT := hT.below bz
                replace hZ1 := hZ1.below bz
                replace hC := hC.below bz
                replace hZ2 := hZ2.below bz
                replace hR := hR.below bz
                replace hZ3 := hZ3.below bz
                replace hC3 := hC3.below bz
                replace hSd := hSd.below bz
                clear bz
                have t0 : x3.cell? ⟨T, 0, none⟩ = some (.int .i64 2) := hT.cell rfl
                have z10 : x3.cell? ⟨Z1, 0, none⟩ = some (.int .i64 V.cf.epoch) := hZ1.cell rfl
                have z11 : x3.cell? ⟨Z1, 1, none⟩ = some (.slice A V.cf.chain.length cap5) := hZ1.cell rfl
                have z20 : x3.cell? ⟨Z2, 0, none⟩ = some (.int .i64 pe) := hZ2.cell rfl
                have z21 : x3.cell? ⟨Z2, 1, none⟩ = some (.slice A2 pL.length cap2) := hZ2.cell rfl
                have z30 : x3.cell? ⟨Z3, 0, none⟩ = some (.int .i64 V'.cf.epoch) := hZ3.cell rfl
                have z31 : x3.cell? ⟨Z3, 1, none⟩ = some (.slice A3 V'.cf.chain.length cap3) := hZ3.cell rfl
                go_wp2_with fail
                go_meet
                exact ⟨rfl, hP, hZ3, hC3, hSd⟩
              | true =>
                have hful : ¬ (l'.length : Int) < 60000 := by
                  intro hlt9
                  have := (HST.out.ticked rfl (by omega)).1 (by rw [HP.out])
                  exact this hsm
                have hfd : decide ((l'.length : Int) < 60000) = false := decide_eq_false hful
                clear hsm hful
                have t0 : w13.cell? ⟨T, 0, none⟩ = some (.int .i64 2) := hT.cell rfl
                have z10 : w13.cell? ⟨Z1, 0, none⟩ = some (.int .i64 V.cf.epoch) := hZ1.cell rfl
                have z11 : w13.cell? ⟨Z1, 1, none⟩ = some (.slice A V.cf.chain.length cap5) := hZ1.cell rfl
                have z20 : w13.cell? ⟨Z2, 0, none⟩ = some (.int .i64 pe) := hZ2.cell rfl
                have z21 : w13.cell? ⟨Z2, 1, none⟩ = some (.slice A2 pL.length cap2) := hZ2.cell rfl
                have z30 : w13.cell? ⟨Z3, 0, none⟩ = some (.int .i64 V'.cf.epoch) := hZ3.cell rfl
                have z31 : w13.cell? ⟨Z3, 1, none⟩ = some (.slice A3 V'.cf.chain.length cap3) := hZ3.cell rfl
                go_wp2_with fail
                refine (cfollows_at (by exact hC.1) (by exact hC3.1) (b := true) HFOL.out).mono ?_
                rintro en x1 ⟨rfl, bz⟩
                clear t0 z10 z11 z20 z21 z30 z31
                replace hP := hP.below bz
                replace hT := hT.below bz
                replace hZ1 := hZ1.below bz
                replace hC := hC.below bz
                replace hZ2 := hZ2.below bz
                replace hR := hR.below bz
                replace hZ3 := hZ3.below bz
                replace hC3 := hC3.below bz
                replace hSd := hSd.below bz
                clear bz
                have t0 : x1.cell? ⟨T, 0, none⟩ = some (.int .i64 2) := hT.cell rfl
                have z10 : x1.cell? ⟨Z1, 0, none⟩ = some (.int .i64 V.cf.epoch) := hZ1.cell rfl
                have z11 : x1.cell? ⟨Z1, 1, none⟩ = some (.slice A V.cf.chain.length cap5) := hZ1.cell rfl
                have z20 : x1.cell? ⟨Z2, 0, none⟩ = some (.int .i64 pe) := hZ2.cell rfl
                have z21 : x1.cell? ⟨Z2, 1, none⟩ = some (.slice A2 pL.length cap2) := hZ2.cell rfl
                have z30 : x1.cell? ⟨Z3, 0, none⟩ = some (.int .i64 V'.cf.epoch) := hZ3.cell rfl
                have z31 : x1.cell? ⟨Z3, 1, none⟩ = some (.slice A3 V'.cf.chain.length cap3) := hZ3.cell rfl
                go_wp2_with fail
                refine (qcsame_at (by exact hC3.1) (by exact hC.1) (b := true) HQ1.out).mono ?_
                rintro en x2 ⟨rfl, bz⟩
                clear t0 z10 z11 z20 z21 z30 z31
                replace hP := hP.below bz
                replace hT := hT.below bz
                replace hZ1 := hZ1.below bz
                replace hC := hC.below bz
                replace hZ2 := hZ2.below bz
                replace hR := hR.below bz
                replace hZ3 := hZ3.below bz
                replace hC3 := hC3.below bz
                replace hSd := hSd.below bz
                clear bz
                have t0 : x2.cell? ⟨T, 0, none⟩ = some (.int .i64 2) := hT.cell rfl
                have z10 : x2.cell? ⟨Z1, 0, none⟩ = some (.int .i64 V.cf.epoch) := hZ1.cell rfl
                have z11 : x2.cell? ⟨Z1, 1, none⟩ = some (.slice A V.cf.chain.length cap5) := hZ1.cell rfl
                have z20 : x2.cell? ⟨Z2, 0, none⟩ = some (.int .i64 pe) := hZ2.cell rfl
                have z21 : x2.cell? ⟨Z2, 1, none⟩ = some (.slice A2 pL.length cap2) := hZ2.cell rfl
                have z30 : x2.cell? ⟨Z3, 0, none⟩ = some (.int .i64 V'.cf.epoch) := hZ3.cell rfl
                have z31 : x2.cell? ⟨Z3, 1, none⟩ = some (.slice A3 V'.cf.chain.length cap3) := hZ3.cell rfl
                go_wp2_with fail
                refine (qcsame_at (by exact hC3.1) (by exact hC.1) (b := true) HQ1.out).mono ?_
                rintro en x3 ⟨rfl, bz⟩
                clear t0 z10 z11 z20 z21 z30 z31
                replace hP := hP.below bz
                replace hT := hT.below bz
                replace hZ1 := hZ1.below bz
                replace hC := hC.below bz
                replace hZ2 := hZ2.below bz
                replace hR := hR.below bz
                replace hZ3 := hZ3.below bz
                replace hC3 := hC3.below bz
                replace hSd := hSd.below bz
                clear bz
                have t0 : x3.cell? ⟨T, 0, none⟩ = some (.int .i64 2) := hT.cell rfl
                have z10 : x3.cell? ⟨Z1, 0, none⟩ = some (.int .i64 V.cf.epoch) := hZ1.cell rfl
                have z11 : x3.cell? ⟨Z1, 1, none⟩ = some (.slice A V.cf.chain.length cap5) := hZ1.cell rfl
                have z20 : x3.cell? ⟨Z2, 0, none⟩ = some (.int .i64 pe) := hZ2.cell rfl
                have z21 : x3.cell? ⟨Z2, 1, none⟩ = some (.slice A2 pL.length cap2) := hZ2.cell rfl
                have z30 : x3.cell? ⟨Z3, 0, none⟩ = some (.int .i64 V'.cf.epoch) := hZ3.cell rfl
                have z31 : x3.cell? ⟨Z3, 1, none⟩ = some (.slice A3 V'.cf.chain.length cap3) := hZ3.cell rfl
                obtain ⟨x, b, hbs, hX, hO⟩ := hP.own
                have c7 : x3.cell? ⟨p, 7, none⟩ = some (.pointer (some ⟨b.lb, 0, none⟩)) := hX.cell rfl
                obtain ⟨u9, hlog9⟩ := hO.mst.log
                go_wp2_with fail
                refine (size_any (by exact hlog9)).mono ?_
                rintro en x4 ⟨rfl, rfl⟩
                clear hX hO hbs c7 hlog9
                go_wp2_with fail
                go_meet
                exact ⟨rfl, hP, hZ3, hC3, hSd⟩
            · have hk2 : (kd == 2) = false := by simpa using h2
              have hk2' : (kd != 2) = true := by simpa using h2
              clear hsm
              have t0 : w13.cell? ⟨T, 0, none⟩ = some (.int .i64 kd) := hT.cell rfl
              have z10 : w13.cell? ⟨Z1, 0, none⟩ = some (.int .i64 V.cf.epoch) := hZ1.cell rfl
              have z11 : w13.cell? ⟨Z1, 1, none⟩ = some (.slice A V.cf.chain.length cap5) := hZ1.cell rfl
              have z20 : w13.cell? ⟨Z2, 0, none⟩ = some (.int .i64 pe) := hZ2.cell rfl
              have z21 : w13.cell? ⟨Z2, 1, none⟩ = some (.slice A2 pL.length cap2) := hZ2.cell rfl
              have z30 : w13.cell? ⟨Z3, 0, none⟩ = some (.int .i64 V'.cf.epoch) := hZ3.cell rfl
              have z31 : w13.cell? ⟨Z3, 1, none⟩ = some (.slice A3 V'.cf.chain.length cap3) := hZ3.cell rfl
              go_wp2_with fail
              refine (cfollows_at (by exact hC.1) (by exact hC3.1) (b := true) HFOL.out).mono ?_
              rintro en x1 ⟨rfl, bz⟩
              clear t0 z10 z11 z20 z21 z30 z31
              replace hP := hP.below bz
              replace hT := hT.below bz
              replace hZ1 := hZ1.below bz
              replace hC := hC.below bz
              replace hZ2 := hZ2.below bz
              replace hR := hR.below bz
              replace hZ3 := hZ3.below bz
              replace hC3 := hC3.below bz
              replace hSd := hSd.below bz
              clear bz
              have t0 : x1.cell? ⟨T, 0, none⟩ = some (.int .i64 kd) := hT.cell rfl
              have z10 : x1.cell? ⟨Z1, 0, none⟩ = some (.int .i64 V.cf.epoch) := hZ1.cell rfl
              have z11 : x1.cell? ⟨Z1, 1, none⟩ = some (.slice A V.cf.chain.length cap5) := hZ1.cell rfl
              have z20 : x1.cell? ⟨Z2, 0, none⟩ = some (.int .i64 pe) := hZ2.cell rfl
              have z21 : x1.cell? ⟨Z2, 1, none⟩ = some (.slice A2 pL.length cap2) := hZ2.cell rfl
              have z30 : x1.cell? ⟨Z3, 0, none⟩ = some (.int .i64 V'.cf.epoch) := hZ3.cell rfl
              have z31 : x1.cell? ⟨Z3, 1, none⟩ = some (.slice A3 V'.cf.chain.length cap3) := hZ3.cell rfl
              go_wp2_with fail
              refine (qcsame_at (by exact hC3.1) (by exact hC.1) (b := true) HQ1.out).mono ?_
              rintro en x2 ⟨rfl, bz⟩
              clear t0 z10 z11 z20 z21 z30 z31
              replace hP := hP.below bz
              replace hT := hT.below bz
              replace hZ1 := hZ1.below bz
              replace hC := hC.below bz
              replace hZ2 := hZ2.below bz
              replace hR := hR.below bz
              replace hZ3 := hZ3.below bz
              replace hC3 := hC3.below bz
              replace hSd := hSd.below bz
              clear bz
              have t0 : x2.cell? ⟨T, 0, none⟩ = some (.int .i64 kd) := hT.cell rfl
              have z10 : x2.cell? ⟨Z1, 0, none⟩ = some (.int .i64 V.cf.epoch) := hZ1.cell rfl
              have z11 : x2.cell? ⟨Z1, 1, none⟩ = some (.slice A V.cf.chain.length cap5) := hZ1.cell rfl
              have z20 : x2.cell? ⟨Z2, 0, none⟩ = some (.int .i64 pe) := hZ2.cell rfl
              have z21 : x2.cell? ⟨Z2, 1, none⟩ = some (.slice A2 pL.length cap2) := hZ2.cell rfl
              have z30 : x2.cell? ⟨Z3, 0, none⟩ = some (.int .i64 V'.cf.epoch) := hZ3.cell rfl
              have z31 : x2.cell? ⟨Z3, 1, none⟩ = some (.slice A3 V'.cf.chain.length cap3) := hZ3.cell rfl
              go_wp2_with fail
              go_meet
              exact ⟨rfl, hP, hZ3, hC3, hSd⟩
          · have HQ1 : Hid (sameC V'.cf V.cf = false) := Lib.hid (by
              rw [Bool.eq_false_iff]
              exact fun h => hsm (sameC_iff.1 h))
            have hw := HST.out.wanted h1
            rw [HP.out] at hw
            obtain ⟨hpc, rfl⟩ : (⟨pe, pL⟩ : ConfV) = V'.cf ∧ pb = true := by
              rcases hw with h | h
              · exact absurd h hsm
              · injection h with e1 e2
                exact ⟨e1, e2⟩
            have HQ2 : Hid (sameC V'.cf ⟨pe, pL⟩ = true) := Lib.hid (sameC_iff.2 hpc.symm)
            clear hsm hw hpc
            by_cases h2 : kd = 2
            · subst h2
              have t0 : w13.cell? ⟨T, 0, none⟩ = some (.int .i64 2) := hT.cell rfl
              have z10 : w13.cell? ⟨Z1, 0, none⟩ = some (.int .i64 V.cf.epoch) := hZ1.cell rfl
              have z11 : w13.cell? ⟨Z1, 1, none⟩ = some (.slice A V.cf.chain.length cap5) := hZ1.cell rfl
              have z20 : w13.cell? ⟨Z2, 0, none⟩ = some (.int .i64 pe) := hZ2.cell rfl
              have z21 : w13.cell? ⟨Z2, 1, none⟩ = some (.slice A2 pL.length cap2) := hZ2.cell rfl
              have z30 : w13.cell? ⟨Z3, 0, none⟩ = some (.int .i64 V'.cf.epoch) := hZ3.cell rfl
              have z31 : w13.cell? ⟨Z3, 1, none⟩ = some (.slice A3 V'.cf.chain.length cap3) := hZ3.cell rfl
              go_wp2_with fail
              refine (cfollows_at (by exact hC.1) (by exact hC3.1) (b := true) HFOL.out).mono ?_
              rintro en x1 ⟨rfl, bz⟩
              clear t0 z10 z11 z20 z21 z30 z31
              replace hP := hP.below bz
              replace hT := hT.below bz
              replace hZ1 := hZ1.below bz
              replace hC := hC.below bz
              replace hZ2 := hZ2.below bz
              replace hR := hR.below bz
              replace hZ3 := hZ3.below bz
              replace hC3 := hC3.below bz
              replace hSd := hSd.below bz
              clear bz
              have t0 : x1.cell? ⟨T, 0, none⟩ = some (.int .i64 2) := hT.cell rfl
              have z10 : x1.cell? ⟨Z1, 0, none⟩ = some (.int .i64 V.cf.epoch) := hZ1.cell rfl
              have z11 : x1.cell? ⟨Z1, 1, none⟩ = some (.slice A V.cf.chain.length cap5) := hZ1.cell rfl
              have z20 : x1.cell? ⟨Z2, 0, none⟩ = some (.int .i64 pe) := hZ2.cell rfl
              have z21 : x1.cell? ⟨Z2, 1, none⟩ = some (.slice A2 pL.length cap2) := hZ2.cell rfl
              have z30 : x1.cell? ⟨Z3, 0, none⟩ = some (.int .i64 V'.cf.epoch) := hZ3.cell rfl
              have z31 : x1.cell? ⟨Z3, 1, none⟩ = some (.slice A3 V'.cf.chain.length cap3) := hZ3.cell rfl
              go_wp2_with fail
              refine (qcsame_at (by exact hC3.1) (by exact hC.1) (b := false) HQ1.out).mono ?_
              rintro en x2 ⟨rfl, bz⟩
              clear t0 z10 z11 z20 z21 z30 z31
              replace hP := hP.below bz
              replace hT := hT.below bz
              replace hZ1 := hZ1.below bz
              replace hC := hC.below bz
              replace hZ2 := hZ2.below bz
              replace hR := hR.below bz
              replace hZ3 := hZ3.below bz
              replace hC3 := hC3.below bz
              replace hSd := hSd.below bz
              clear bz
              have t0 : x2.cell? ⟨T, 0, none⟩ = some (.int .i64 2) := hT.cell rfl
              have z10 : x2.cell? ⟨Z1, 0, none⟩ = some (.int .i64 V.cf.epoch) := hZ1.cell rfl
              have z11 : x2.cell? ⟨Z1, 1, none⟩ = some (.slice A V.cf.chain.length cap5) := hZ1.cell rfl
              have z20 : x2.cell? ⟨Z2, 0, none⟩ = some (.int .i64 pe) := hZ2.cell rfl
              have z21 : x2.cell? ⟨Z2, 1, none⟩ = some (.slice A2 pL.length cap2) := hZ2.cell rfl
              have z30 : x2.cell? ⟨Z3, 0, none⟩ = some (.int .i64 V'.cf.epoch) := hZ3.cell rfl
              have z31 : x2.cell? ⟨Z3, 1, none⟩ = some (.slice A3 V'.cf.chain.length cap3) := hZ3.cell rfl
              go_wp2_with fail
              refine (qcsame_at (by exact hC3.1) (by exact hR.1) (b := true) HQ2.out).mono ?_
              rintro en x3 ⟨rfl, bz⟩
              clear t0 z10 z11 z20 z21 z30 z31
              replace hP := hP.below bz
              replace hT := hT.below bz
              replace hZ1 := hZ1.below bz
              replace hC := hC.below bz
              replace hZ2 := hZ2.below bz
              replace hR := hR.below bz
              replace hZ3 := hZ3.below bz
              replace hC3 := hC3.below bz
              replace hSd := hSd.below bz
              clear bz
              have t0 : x3.cell? ⟨T, 0, none⟩ = some (.int .i64 2) := hT.cell rfl
              have z10 : x3.cell? ⟨Z1, 0, none⟩ = some (.int .i64 V.cf.epoch) := hZ1.cell rfl
              have z11 : x3.cell? ⟨Z1, 1, none⟩ = some (.slice A V.cf.chain.length cap5) := hZ1.cell rfl
              have z20 : x3.cell? ⟨Z2, 0, none⟩ = some (.int .i64 pe) := hZ2.cell rfl
              have z21 : x3.cell? ⟨Z2, 1, none⟩ = some (.slice A2 pL.length cap2) := hZ2.cell rfl
              have z30 : x3.cell? ⟨Z3, 0, none⟩ = some (.int .i64 V'.cf.epoch) := hZ3.cell rfl
              have z31 : x3.cell? ⟨Z3, 1, none⟩ = some (.slice A3 V'.cf.chain.length cap3) := hZ3.cell rfl
              go_wp2_with fail
              refine (qcsame_at (by exact hC3.1) (by exact hC.1) (b := false) HQ1.out).mono ?_
              rintro en x4 ⟨rfl, bz⟩
              clear t0 z10 z11 z20 z21 z30 z31
              replace hP := hP.below bz
              replace hT := hT.below bz
              replace hZ1 := hZ1.below bz
              replace hC := hC.below bz
              replace hZ2 := hZ2.below bz
              replace hR := hR.below bz
              replace hZ3 := hZ3.below bz
              replace hC3 := hC3.below bz
              replace hSd := hSd.below bz
              clear bz
              have t0 : x4.cell? ⟨T, 0, none⟩ = some (.int .i64 2) := hT.cell rfl
              have z10 : x4.cell? ⟨Z1, 0, none⟩ = some (.int .i64 V.cf.epoch) := hZ1.cell rfl
              have z11 : x4.cell? ⟨Z1, 1, none⟩ = some (.slice A V.cf.chain.length cap5) := hZ1.cell rfl
              have z20 : x4.cell? ⟨Z2, 0, none⟩ = some (.int .i64 pe) := hZ2.cell rfl
              have z21 : x4.cell? ⟨Z2, 1, none⟩ = some (.slice A2 pL.length cap2) := hZ2.cell rfl
              have z30 : x4.cell? ⟨Z3, 0, none⟩ = some (.int .i64 V'.cf.epoch) := hZ3.cell rfl
              have z31 : x4.cell? ⟨Z3, 1, none⟩ = some (.slice A3 V'.cf.chain.length cap3) := hZ3.cell rfl
              go_wp2_with fail
              go_meet
              exact ⟨rfl, hP, hZ3, hC3, hSd⟩
            · have hk2 : (kd == 2) = false := by simpa using h2
              have hk2' : (kd != 2) = true := by simpa using h2
              have t0 : w13.cell? ⟨T, 0, none⟩ = some (.int .i64 kd) := hT.cell rfl
              have z10 : w13.cell? ⟨Z1, 0, none⟩ = some (.int .i64 V.cf.epoch) := hZ1.cell rfl
              have z11 : w13.cell? ⟨Z1, 1, none⟩ = some (.slice A V.cf.chain.length cap5) := hZ1.cell rfl
              have z20 : w13.cell? ⟨Z2, 0, none⟩ = some (.int .i64 pe) := hZ2.cell rfl
              have z21 : w13.cell? ⟨Z2, 1, none⟩ = some (.slice A2 pL.length cap2) := hZ2.cell rfl
              have z30 : w13.cell? ⟨Z3, 0, none⟩ = some (.int .i64 V'.cf.epoch) := hZ3.cell rfl
              have z31 : w13.cell? ⟨Z3, 1, none⟩ = some (.slice A3 V'.cf.chain.length cap3) := hZ3.cell rfl
              go_wp2_with fail
              refine (cfollows_at (by exact hC.1) (by exact hC3.1) (b := true) HFOL.out).mono ?_
              rintro en x1 ⟨rfl, bz⟩
              clear t0 z10 z11 z20 z21 z30 z31
              replace hP := hP.below bz
              replace hT := hT.below bz
              replace hZ1 := hZ1.below bz
              replace hC := hC.below bz
              replace hZ2 := hZ2.below bz
              replace hR := hR.below bz
              replace hZ3 := hZ3.below bz
              replace hC3 := hC3.below bz
              replace hSd := hSd.below bz
              clear bz
              have t0 : x1.cell? ⟨T, 0, none⟩ = some (.int .i64 kd) := hT.cell rfl
              have z10 : x1.cell? ⟨Z1, 0, none⟩ = some (.int .i64 V.cf.epoch) := hZ1.cell rfl
              have z11 : x1.cell? ⟨Z1, 1, none⟩ = some (.slice A V.cf.chain.length cap5) := hZ1.cell rfl
              have z20 : x1.cell? ⟨Z2, 0, none⟩ = some (.int .i64 pe) := hZ2.cell rfl
              have z21 : x1.cell? ⟨Z2, 1, none⟩ = some (.slice A2 pL.length cap2) := hZ2.cell rfl
              have z30 : x1.cell? ⟨Z3, 0, none⟩ = some (.int .i64 V'.cf.epoch) := hZ3.cell rfl
              have z31 : x1.cell? ⟨Z3, 1, none⟩ = some (.slice A3 V'.cf.chain.length cap3) := hZ3.cell rfl
              go_wp2_with fail
              refine (qcsame_at (by exact hC3.1) (by exact hC.1) (b := false) HQ1.out).mono ?_
              rintro en x2 ⟨rfl, bz⟩
              clear t0 z10 z11 z20 z21 z30 z31
              replace hP := hP.below bz
              replace hT := hT.below bz
              replace hZ1 := hZ1.below bz
              replace hC := hC.below bz
              replace hZ2 := hZ2.below bz
              replace hR := hR.below bz
              replace hZ3 := hZ3.below bz
              replace hC3 := hC3.below bz
              replace hSd := hSd.below bz
              clear bz
              have t0 : x2.cell? ⟨T, 0, none⟩ = some (.int .i64 kd) := hT.cell rfl
              have z10 : x2.cell? ⟨Z1, 0, none⟩ = some (.int .i64 V.cf.epoch) := hZ1.cell rfl
              have z11 : x2.cell? ⟨Z1, 1, none⟩ = some (.slice A V.cf.chain.length cap5) := hZ1.cell rfl
              have z20 : x2.cell? ⟨Z2, 0, none⟩ = some (.int .i64 pe) := hZ2.cell rfl
              have z21 : x2.cell? ⟨Z2, 1, none⟩ = some (.slice A2 pL.length cap2) := hZ2.cell rfl
              have z30 : x2.cell? ⟨Z3, 0, none⟩ = some (.int .i64 V'.cf.epoch) := hZ3.cell rfl
              have z31 : x2.cell? ⟨Z3, 1, none⟩ = some (.slice A3 V'.cf.chain.length cap3) := hZ3.cell rfl
              go_wp2_with fail
              refine (qcsame_at (by exact hC3.1) (by exact hR.1) (b := true) HQ2.out).mono ?_
              rintro en x3 ⟨rfl, bz⟩
              clear t0 z10 z11 z20 z21 z30 z31
              replace hP := hP.below bz
              replace hT := hT.below bz
              replace hZ1 := hZ1.below bz
              replace hC := hC.below bz
              replace hZ2 := hZ2.below bz
              replace hR := hR.below bz
              replace hZ3 := hZ3.below bz
              replace hC3 := hC3.below bz
              replace hSd := hSd.below bz
              clear bz
              have t0 : x3.cell? ⟨T, 0, none⟩ = some (.int .i64 kd) := hT.cell rfl
              have z10 : x3.cell? ⟨Z1, 0, none⟩ = some (.int .i64 V.cf.epoch) := hZ1.cell rfl
              have z11 : x3.cell? ⟨Z1, 1, none⟩ = some (.slice A V.cf.chain.length cap5) := hZ1.cell rfl
              have z20 : x3.cell? ⟨Z2, 0, none⟩ = some (.int .i64 pe) := hZ2.cell rfl
              have z21 : x3.cell? ⟨Z2, 1, none⟩ = some (.slice A2 pL.length cap2) := hZ2.cell rfl
              have z30 : x3.cell? ⟨Z3, 0, none⟩ = some (.int .i64 V'.cf.epoch) := hZ3.cell rfl
              have z31 : x3.cell? ⟨Z3, 1, none⟩ = some (.slice A3 V'.cf.chain.length cap3) := hZ3.cell rfl
              go_wp2_with fail
              go_meet
              exact ⟨rfl, hP, hZ3, hC3, hSd⟩
      case rest =>
        clear hP hT hC hZ1 hZ2 hR hSd hC3 hZ3
        obtain ⟨rfl, hP, hZ3, hC3, hSd⟩ := hcut
        have hinv := hP.inv
        have hsc := hinv.scan
        have hcp := hinv.pos
        have hrt := hinv.right
        obtain ⟨m, hm⟩ : ∃ m, cs'.length = m + 1 := ⟨cs'.length - 1, by omega⟩
        have HLAST : Hid ((cs'.map encConf)[m]? = some (encConf V'.cf)) := Lib.hid (by
          have h9 := hinv.last
          rw [List.getLast?_eq_getElem?, hm, Nat.add_sub_cancel] at h9
          rw [List.getElem?_map, h9]
          rfl)
        have hcnt := hinv.count
        have HSC := Lib.hid hsc
        have HRT := Lib.hid hrt
        have HLEN := Lib.hid hinv.len
        have hsm2 := (conf_small hrt).1
        clear hinv hsc hcp hrt
        obtain ⟨x, b, hbs, hX, hO⟩ := hP.own
        have c7 : wc.cell? ⟨p, 7, none⟩ = some (.pointer (some ⟨b.lb, 0, none⟩)) := hX.cell rfl
        obtain ⟨u9, hlog9⟩ := hO.mst.log
        have hmb : m ≤ 65535 := by omega
        have HM := Lib.hid hm
        clear hm hcnt
        go_wp2_with fail
        refine (all_any (by exact hlog9) HLEN.out).mono ?_
        rintro en x1 ⟨a9, cap9, rfl, hS9, bz⟩
        rw [HSC.out, List.length_map, HM.out] at hS9 ⊢
        clear hX hO hbs c7 hlog9
        have hPq := hP.below bz
        have hZ3q := hZ3.below bz
        have hC3q := hC3.below bz
        have hSdq := hSd.below bz
        clear hP hZ3 hC3 hSd bz
        have hP := hPq
        have hZ3 := hZ3q
        have hC3 := hC3q
        have hSd := hSdq
        clear hPq hZ3q hC3q hSdq
        have hlm : (cs'.map encConf).length = m + 1 := by rw [List.length_map, HM.out]
        have hS10 : StrsO wc.heap.size x1 (.slice a9 (cs'.map encConf).length cap9) (cs'.map encConf) := by rw [hlm]; exact hS9
        obtain ⟨_, _, hqq, _, hS11⟩ := hS10.v
        injection hqq with e1 e2 e3
        subst e1
        obtain ⟨gB, goff, rfl, hgl, hgc⟩ := hS11 (by omega)
        have hcell : x1.cell? ⟨gB, goff + m, none⟩ = some (.string ⟨(encConf V'.cf).toArray⟩) := hgc m _ HLAST.out
        clear hS9 hS10 hS11 hgc e2 e3 hlm hgl
        go_wp2_with fail
        refine (cread_s (by omega) (readC_enc HRT.out) _).mono ?_
        rintro en x2 ⟨v4, rfl, hC4, hb⟩
        obtain ⟨A4, cap4, rfl⟩ := hC4.form
        have hPq := hP.below hb
        have hZ3q := hZ3.below hb
        have hC3q := hC3.below hb
        have hSdq := hSd.below hb
        clear hP hZ3 hC3 hSd hcell
        have hP := hPq
        have hZ3 := hZ3q
        have hC3 := hC3q
        have hSd := hSdq
        clear hPq hZ3q hC3q hSdq
        go_upto_region 18 with (fail)
        have hZ4 := BlkAt.new x2 35 [.int .i64 V'.cf.epoch, .slice A4 V'.cf.chain.length cap4]
        replace hP := hP.below ((Below.refl _ _).alloc (Nat.le_refl _) (.cells #[.int .i64 V'.cf.epoch, .slice A4 V'.cf.chain.length cap4] 35))
        replace hZ3 := hZ3.below ((Below.refl _ _).alloc (Nat.le_refl _) (.cells #[.int .i64 V'.cf.epoch, .slice A4 V'.cf.chain.length cap4] 35))
        replace hC3 := hC3.below ((Below.refl _ _).alloc (Nat.le_refl _) (.cells #[.int .i64 V'.cf.epoch, .slice A4 V'.cf.chain.length cap4] 35))
        replace hSd := hSd.below ((Below.refl _ _).alloc (Nat.le_refl _) (.cells #[.int .i64 V'.cf.epoch, .slice A4 V'.cf.chain.length cap4] 35))
        replace hC4 := hC4.below ((Below.refl _ _).alloc (Nat.le_refl _) (.cells #[.int .i64 V'.cf.epoch, .slice A4 V'.cf.chain.length cap4] 35))
        replace hb := hb.alloc hb.size (.cells #[.int .i64 V'.cf.epoch, .slice A4 V'.cf.chain.length cap4] 35)
        change Code.wp _ _ _ _ (x2.alloc (.cells #[.int .i64 V'.cf.epoch, .slice A4 V'.cf.chain.length cap4] 35))
        change BlkAt (x2.alloc (.cells #[.int .i64 V'.cf.epoch, .slice A4 V'.cf.chain.length cap4] 35)) _ _ _ at hZ4
        have hZ4n := (show x2.heap.size ≤ x2.heap.size from Nat.le_refl _)
        generalize x2.alloc (.cells #[.int .i64 V'.cf.epoch, .slice A4 V'.cf.chain.length cap4] 35) = x3 at *
        generalize x2.heap.size = Z4 at hZ4 ⊢
        clear hZ4n
        clear hb
        have z30 : x3.cell? ⟨Z3, 0, none⟩ = some (.int .i64 V'.cf.epoch) := hZ3.cell rfl
        have z31 : x3.cell? ⟨Z3, 1, none⟩ = some (.slice A3 V'.cf.chain.length cap3) := hZ3.cell rfl
        have z40 : x3.cell? ⟨Z4, 0, none⟩ = some (.int .i64 V'.cf.epoch) := hZ4.cell rfl
        have z41 : x3.cell? ⟨Z4, 1, none⟩ = some (.slice A4 V'.cf.chain.length cap4) := hZ4.cell rfl
        go_wp2_with fail
        refine (qcsame_at (by exact hC4.1) (by exact hC3.1) (b := true) (sameC_iff.2 rfl)).mono ?_
        rintro en x4 ⟨rfl, bz⟩
        clear z30 z31 z40 z41 hZ4 hC4
        have hPq := hP.below bz
        have hZ3q := hZ3.below bz
        have hC3q := hC3.below bz
        have hSdq := hSd.below bz
        clear hP hZ3 hC3 hSd bz
        have hP := hPq
        have hZ3 := hZ3q
        have hC3 := hC3q
        have hSd := hSdq
        clear hPq hZ3q hC3q hSdq
        have hsl := hSd.short
        go_wp2_with fail
        have hb4 := Below.refl x4.heap.size x4
        go_loopw [161] (fun i xr => ∃ j : Nat, j ≤ said.length ∧ i = .int .i64 j ∧ Below x4.heap.size x4 xr) (fun i _ => said.length - (intOf i).toNat)
        case atStart => exact ⟨0, Nat.zero_le _, rfl, hb4⟩
        case round =>
          obtain ⟨j, hj, rfl, hb⟩ := hrel
          clear hb4
          by_cases hjl : j < said.length
          · have hjl' : (j : Int) < (said.length : Int) := by omega
            obtain ⟨mm, hmm⟩ : ∃ mm, said[j]? = some mm := ⟨_, List.getElem?_eq_getElem hjl⟩
            obtain ⟨g, gcap, A9, cap9', hv9, hgB, hG⟩ := (hSd.below hb).get hmm
            injection hv9 with e1 e2 e3
            subst e1 e3
            have hZ3r := hZ3.below hb
            have hC3r := hC3.below hb
            obtain ⟨ds, hds⟩ : ∃ ds, ds = tellC mm.1 mm.2 V'.cf.epoch (.slice A9 V'.cf.chain.length cap9') := ⟨_, rfl⟩
            have hrg : wr.rangeAt g (j * 28) ds := by rw [hds]; exact hG.1
            have hC9 := hG.2.1
            have hlen : ds.length = 28 := by rw [hds]; rfl
            have hone : ds.toArray.all (·.oneCell') = true := by rw [hds]; simp [tellC, Value.oneCell']
            have HDS := Lib.hid hds
            clear hG hds e2 hgB hmm
            have hX := BlkAt.new wr 58 [.int .i64 0, .int .i64 0, .int .i64 0, .int .i64 0, .int .i64 0, .int .i64 0, .int .i64 0, .int .i64 0, .int .i64 0, .int .i64 0, .bool false, .int .i64 0, .int .i64 0, .int .i64 0, .int .i64 0, .int .i64 0, .int .i64 0, .int .i64 0, .int .i64 0, .int .i64 0, .string ⟨#[]⟩, .int .i64 0, .int .i64 0, .int .i64 0, .int .i64 0, .slice none 0 0, .slice none 0 0, .int .i64 0]
            have HL1 := Lib.hid (show ds.length = ([.int .i64 0, .int .i64 0, .int .i64 0, .int .i64 0, .int .i64 0, .int .i64 0, .int .i64 0, .int .i64 0, .int .i64 0, .int .i64 0, .bool false, .int .i64 0, .int .i64 0, .int .i64 0, .int .i64 0, .int .i64 0, .int .i64 0, .int .i64 0, .int .i64 0, .int .i64 0, .string ⟨#[]⟩, .int .i64 0, .int .i64 0, .int .i64 0, .int .i64 0, .slice none 0 0, .slice none 0 0, .int .i64 0] : List Value).length by rw [hlen]; rfl)
            have b4 := (Below.refl wr.heap.size wr).alloc (Nat.le_refl _) (.cells #[.int .i64 0, .int .i64 0, .int .i64 0, .int .i64 0, .int .i64 0, .int .i64 0, .int .i64 0, .int .i64 0, .int .i64 0, .int .i64 0, .bool false, .int .i64 0, .int .i64 0, .int .i64 0, .int .i64 0, .int .i64 0, .int .i64 0, .int .i64 0, .int .i64 0, .int .i64 0, .string ⟨#[]⟩, .int .i64 0, .int .i64 0, .int .i64 0, .int .i64 0, .slice none 0 0, .slice none 0 0, .int .i64 0] 58)
            have G4 := grown_setCells wr.heap.size ds 0 (wr.alloc (.cells #[.int .i64 0, .int .i64 0, .int .i64 0, .int .i64 0, .int .i64 0, .int .i64 0, .int .i64 0, .int .i64 0, .int .i64 0, .int .i64 0, .bool false, .int .i64 0, .int .i64 0, .int .i64 0, .int .i64 0, .int .i64 0, .int .i64 0, .int .i64 0, .int .i64 0, .int .i64 0, .string ⟨#[]⟩, .int .i64 0, .int .i64 0, .int .i64 0, .int .i64 0, .slice none 0 0, .slice none 0 0, .int .i64 0] 58))
            have b5 := b4.grown G4 b4.size (by intro j hj; cases hj; exact Nat.le_refl _)
            have hMn := hX.stored (vs := ds) HL1.out
            have HT := Lib.hid (mblk_there2 hX HL1.out)
            have hZ3rn := hZ3r.below b5
            clear hZ3r
            have hZ3r := hZ3rn
            clear hZ3rn
            have hC3rn := hC3r.below b5
            clear hC3r
            have hC3r := hC3rn
            clear hC3rn
            have hC9n := hC9.below b5
            clear hC9
            have hC9 := hC9n
            clear hC9n
            have hbn := below_step hb b5
            clear hb
            have hb := hbn
            clear hbn
            clear hX b4 G4 b5 HL1
            go_upto_region 23 with (first | (refine wpList_store_mid rfl 58 (.tmp 20) (.tmp 164) rfl wr.heap.size 0 ds.toArray rfl rfl (by exact HT.out) (by rw [List.size_toArray, hlen]; exact mmsg_info) hone ?_; rw [List.toList_toArray]) | (refine wpList_load_mid rfl 58 (.tmp 163) rfl g (j * 28) rfl ds _ hrg Tryz.underlying58 rfl (by rw [hlen]; exact mmsg_info) ?_; simp only [Act.put, List.setIfInBounds_toArray, List.set_cons_zero, List.set_cons_succ]))
            change Code.wp _ _ _ _ ((wr.alloc (.cells #[.int .i64 0, .int .i64 0, .int .i64 0, .int .i64 0, .int .i64 0, .int .i64 0, .int .i64 0, .int .i64 0, .int .i64 0, .int .i64 0, .bool false, .int .i64 0, .int .i64 0, .int .i64 0, .int .i64 0, .int .i64 0, .int .i64 0, .int .i64 0, .int .i64 0, .int .i64 0, .string ⟨#[]⟩, .int .i64 0, .int .i64 0, .int .i64 0, .int .i64 0, .slice none 0 0, .slice none 0 0, .int .i64 0] 58)).setCells wr.heap.size 0 ds)
            generalize (wr.alloc (.cells #[.int .i64 0, .int .i64 0, .int .i64 0, .int .i64 0, .int .i64 0, .int .i64 0, .int .i64 0, .int .i64 0, .int .i64 0, .int .i64 0, .bool false, .int .i64 0, .int .i64 0, .int .i64 0, .int .i64 0, .int .i64 0, .int .i64 0, .int .i64 0, .int .i64 0, .int .i64 0, .string ⟨#[]⟩, .int .i64 0, .int .i64 0, .int .i64 0, .int .i64 0, .slice none 0 0, .slice none 0 0, .int .i64 0] 58)).setCells wr.heap.size 0 ds = y1 at *
            have hM := hMn
            clear hMn HT
            obtain ⟨mb, hLL⟩ : ∃ q, q = wr.heap.size := ⟨_, rfl⟩
            rw [← hLL] at hM ⊢
            have HEmb := Lib.hid hLL
            clear hLL
            have m0 : y1.cell? ⟨mb, 0, none⟩ = some (.int .i64 2) := hM.cell (by rw [HDS.out]; rfl)
            have m24 : y1.cell? ⟨mb, 24, none⟩ = some (.int .i64 V'.cf.epoch) := hM.cell (by rw [HDS.out]; rfl)
            have m25 : y1.cell? ⟨mb, 25, none⟩ = some (.slice A9 V'.cf.chain.length cap9') := hM.cell (by rw [HDS.out]; rfl)
            have z30 : y1.cell? ⟨Z3, 0, none⟩ = some (.int .i64 V'.cf.epoch) := hZ3r.cell rfl
            have z31 : y1.cell? ⟨Z3, 1, none⟩ = some (.slice A3 V'.cf.chain.length cap3) := hZ3r.cell rfl
            clear hM hrg
            go_wp2_with fail
            refine (qcsame_at (by exact hC9.1) (by exact hC3r.1) (b := true) (sameC_iff.2 rfl)).mono ?_
            rintro en y2 ⟨rfl, bz⟩
            have HB := Lib.hid (below_step hb bz)
            clear m0 m24 m25 z30 z31 hZ3r hC3r hC9 bz hb
            go_wp2_with fail
            go_roundw
            case rel => exact ⟨j + 1, by omega, by go_num, HB.out⟩
            case measure => simp [intOf]; omega
          · have hjl' : ¬ (j : Int) < (said.length : Int) := by omega
            have HA : Hid (Amid w wr B p s (k + 1)) := Lib.hid ⟨_, _, _, _, _, ply_next (N := 0) (hP.below hb), by omega, by omega⟩
            clear hP hZ3 hC3 hSd hb
            go_wp2_with fail
            go_roundw
            case rel => exact ⟨k + 1, by omega, by go_num, HA.out⟩
            case measure => simp [intOf]; omega
    · have hlt' : ¬ (k : Int) < (S.length : Int) := by omega
      obtain ⟨x, b, hbs, hX, hO⟩ := hP.own
      have HL := Lib.hid hO.below
      clear hP hX hO hbs
      go_wp2_with fail
      go_ret
      exact ⟨rfl, HL.out⟩
set_option maxRecDepth 100000 in
theorem MasterWrites_walk {H : Type} {enc : TypeId × Value → H} {base : Nat} {d d2 : DataW H} {p p2 : List MemPlace} (v v2 : Value) (w : World) (hv : Value.okWide Tryz.prog w .any base 23 v) (ht : DataW.Trod enc Tryz.prog w 0 (fun _ => true) true 23 v d p)
    (hv2 : Value.okWide Tryz.prog w .any base 24 v2) (ht2 : DataW.Trod enc Tryz.prog w 0 (fun _ => true) true 24 v2 d2 p2) :
    Calls Tryz.prog 7 #[v, v2] w fun e w' => e = .returned (.bool true) ∧ Below w.heap.size w w' := by
  obtain ⟨s, _, rfl⟩ := open_setup hv ht
  obtain ⟨a, S, cap, rfl, hS⟩ := open_mops hv2 ht2
  exact MasterWrites_go hS


set_option maxRecDepth 100000 in
theorem MasterWrites_calls (H : Type) (enc : TypeId × Value → H) (W : World) (base : Nat) (args : Array Value) (ds gs : List (DataW H)) (before : List MemPlace)
    (hval : ∀ (j : Nat) t v, Tryz.f7.params[j]? = some t → args[j]? = some v → Value.okWide Tryz.prog W .any base t v)
    (hW : DataW.Whole enc Tryz.prog Tryz.f7.params.toList Rows.masterWritesSpec.vars false W args.toList ds gs before) :
    Calls Tryz.prog 7 args W fun e W' => e = .returned (.bool true) ∧ Below W.heap.size W W' := by
  obtain ⟨p, q, hA, hV, rfl, hfz, hnd⟩ := hW
  rw [Tryz.params7] at hA hval
  obtain ⟨v0, vs0, d0, ds0, p0, q0, hargs, rfl, rfl, h0, r0⟩ := trodAll_cons hA
  obtain ⟨v1, vs1, d1, ds1, p1, q1, rfl, rfl, rfl, h1, r1⟩ := trodAll_cons r0
  obtain ⟨rfl, rfl, rfl⟩ := trodAll_nil r1
  obtain rfl : args = #[v0, v1] := Array.toList_inj.1 hargs

  exact MasterWrites_walk v0 v1 W (hval 0 23 v0 rfl rfl) h0 (hval 1 24 v1 rfl rfl) h1

set_option maxRecDepth 100000 in
theorem MasterWrites_lifted (os : Os) (started : os.Started) (H : Type) (enc : TypeId × Value → H) :
    ReturnsInHanded {} Tryz.checked os 7 .any (Rows.masterWritesSpec.pre6 enc Tryz.prog Tryz.f7 Rows.masterWritesRow.domain false) (Rows.masterWritesSpec.post enc Tryz.prog Tryz.f7 false true false false) := by
  refine returnsInHanded_of_change (C := Tryz.checked) own started (by kernel_rfl) Tryz.func7
    (ChangeSpec.witness6 (enc := enc) (C := Tryz.checked) false ⟨#[], #[.agg #[.int .i64 0, .int .i64 0, .int .i64 0, .int .i64 0, .int .i64 0, .int .i64 0, .int .i64 0], .slice none 0 0], []⟩ 8 (by kernel_rfl) (by kernel_rfl) (by kernel_rfl) (by kernel_rfl)) ?_
  intro W base args ds gs before hval0 hW hcnd _
  have hval : ∀ (j : Nat) t v, Tryz.f7.params[j]? = some t → args[j]? = some v → Value.okWide Tryz.prog W .any base t v := hval0
  refine (MasterWrites_calls H enc W base args ds gs before hval hW).mono fun e W' ⟨he, bel⟩ => ?_
  exact ⟨_, he, law_post (ts := [23, 24]) (by rw [Tryz.params7]) (by intro t ht; simp only [List.mem_cons, List.not_mem_nil, or_false] at ht; rcases ht with rfl | rfl <;> exact ⟨by kernel_rfl, of_decide_eq_true (by kernel_rfl)⟩) hW rfl
    (fun ds h => by match ds, h with | [_, _], _ => rfl) (by kernel_rfl) bel⟩

theorem MasterWrites_over : Rows.masterWritesRow.holds Tryz.pinned (OpenSpec.ofChange Rows.masterWritesSpec) :=
  OpenClaim.holds_of_wide 7 Tryz.f7 rfl rfl rfl rfl rfl rfl rfl ⟨rfl, rfl, rfl, rfl, rfl⟩ rfl rfl rfl rfl rfl (by kernel_rfl) Tryz.func7 (by kernel_rfl)
    (of_decide_eq_true (by kernel_rfl)) (by unfold Func.isWrapper; first | (rw [if_pos (by decide +kernel)]; kernel_rfl) | (rw [if_neg (by decide +kernel)]; exact ⟨rfl, rfl⟩))
    (fun os started H enc _ => MasterWrites_lifted os started H enc)

/-- The statement. -/
theorem MasterWrites_proved : Rows.MasterWritesSaid := MasterWrites_over

end Go.Proofs.YtomfmejodmfioaaGreat
