/- MasterKeeps: for every setup and script the law answers true. No condition. -/
import Derived.Test.YtomfmejodmfioaaGreatMstCount
import Derived.Test.YtomfmejodmfioaaGreatWun
import Derived.Deep.DeepCutAuto
namespace Go.Proofs.YtomfmejodmfioaaGreat
open Go.RowKit Go.Maps Go.ChangeShapes Go.WideShapes Go.Joins Go.Deep
set_option linter.unusedVariables false

/-- Amid the script: the map sm counts who sat so far. -/
def AmidK (w wr : World) (B p : Nat) (s : SetV) (k sm : Nat) : Prop :=
  ∃ V l cs now bs g, PlyAt w wr B p s (100 + 1100000 * k) V l cs now bs ∧ 0 ≤ now ∧ now ≤ s.base + 10 * k ∧ sm ∉ bs ∧ w.heap.size ≤ sm ∧ MapM wr sm (10 + 10 * k) (sinceV g) ∧ CntOk g (fun n lf => ∃ c ∈ cs, Sits c n lf) (1 + 10 * (k : Nat))
theorem take_sits {L : List SeatV} {j : Nat} {q : SeatV} (h : L[j]? = some q) (n lf : Int) : (∃ t ∈ L.take (j + 1), t.node = n ∧ t.life = lf) ↔ (∃ t ∈ L.take j, t.node = n ∧ t.life = lf) ∨ (n = q.node ∧ lf = q.life) := by
  rw [List.take_add_one, h]
  simp only [Option.toList_some, List.mem_append, List.mem_singleton]
  constructor
  · rintro ⟨t, ht | rfl, h1, h2⟩
    · exact .inl ⟨t, ht, h1, h2⟩
    · exact .inr ⟨h1.symm, h2.symm⟩
  · rintro (⟨t, ht, h1, h2⟩ | ⟨rfl, rfl⟩)
    · exact ⟨t, .inl ht, h1, h2⟩
    · exact ⟨q, .inr rfl, rfl, rfl⟩
theorem sits_next {s : SetV} {V V' : MstV} {l l' : List UInt8} {cs cs' : List ConfV} {now : Int} {o : MopV} {said : List (Int × Int)} (h : Stepd s V l cs now o V' l' cs' said) (hi : Inv s V l cs) (n lf : Int) : (∃ c ∈ cs', Sits c n lf) ↔ (∃ c ∈ cs, Sits c n lf) ∨ ∃ t ∈ V'.cf.chain, t.node = n ∧ t.life = lf := by
  rcases h.grow with ⟨h1, h2⟩ | ⟨_, _, h2⟩
  · rw [h2, h1]
    constructor
    · exact .inl
    · rintro (h3 | h3)
      · exact h3
      · exact ⟨V.cf, List.mem_of_getLast? hi.last, h3⟩
  · rw [h2]
    simp only [List.mem_append, List.mem_singleton]
    constructor
    · rintro ⟨c, hc | rfl, h3⟩
      · exact .inl ⟨c, hc, h3⟩
      · exact .inr h3
    · rintro (⟨c, hc, h3⟩ | h3)
      · exact ⟨c, .inl hc, h3⟩
      · exact ⟨V'.cf, .inr rfl, h3⟩
set_option maxRecDepth 100000 in
set_option maxHeartbeats 16000000 in

theorem MasterKeeps_go {w : World} {s : SetV} {a : Option Addr} {S : List MopV} {cap : Nat} (hS : MopsAt w a S) :
    Calls Tryz.prog 4 #[.agg (setC7 s).toArray, .slice a S.length cap] w fun e w' => e = .returned (.bool true) ∧ Below w.heap.size w w' := by
  have hsb := BlkAt.new w 23 (setC7 s)
  have hb := (Below.refl w.heap.size w).alloc (Nat.le_refl _) (.cells (setC7 s).toArray 23)
  go_enter Tryz.func4, Tryz.ntmps4
  go_upto_region 1 with (fail)
  change Code.wp _ _ _ _ (w.alloc (.cells (setC7 s).toArray 23))
  change BlkAt (w.alloc (.cells (setC7 s).toArray 23)) _ _ _ at hsb
  generalize (w.alloc (.cells (setC7 s).toArray 23)) = W at *
  obtain ⟨sb, hsbd⟩ : ∃ sb, sb = w.heap.size := ⟨_, rfl⟩
  rw [← hsbd] at hsb ⊢
  clear hsbd
  have hlenS := hS.1
  unfold maxLen at hlenS
  have HS := Lib.hid hS
  clear hS
  go_wp2_with fail
  refine (awake15_any _).mono ?_
  rintro en w2 ⟨rfl, b2⟩
  replace hsb := hsb.below b2
  replace hb := below_step hb b2
  clear b2
  have q0 : w2.cell? ⟨sb, 0, none⟩ = some (.int .i64 s.nodes) := hsb.cell rfl
  have q1 : w2.cell? ⟨sb, 1, none⟩ = some (.int .i64 s.clients) := hsb.cell rfl
  have q2 : w2.cell? ⟨sb, 2, none⟩ = some (.int .i64 s.timers) := hsb.cell rfl
  have q3 : w2.cell? ⟨sb, 3, none⟩ = some (.int .i64 s.lease) := hsb.cell rfl
  have q4 : w2.cell? ⟨sb, 4, none⟩ = some (.int .i64 s.suspect) := hsb.cell rfl
  have q5 : w2.cell? ⟨sb, 5, none⟩ = some (.int .i64 s.skew) := hsb.cell rfl
  have q6 : w2.cell? ⟨sb, 6, none⟩ = some (.int .i64 s.base) := hsb.cell rfl
  go_wp2_with fail
  refine (rmay_any s _).mono ?_
  rintro en w3 ⟨rfl, b3⟩
  clear q0 q1 q2 q3 q4 q5 q6
  replace hsb := hsb.below b3
  replace hb := below_step hb b3
  clear b3
  have q0 : w3.cell? ⟨sb, 0, none⟩ = some (.int .i64 s.nodes) := hsb.cell rfl
  have q1 : w3.cell? ⟨sb, 1, none⟩ = some (.int .i64 s.clients) := hsb.cell rfl
  have q2 : w3.cell? ⟨sb, 2, none⟩ = some (.int .i64 s.timers) := hsb.cell rfl
  have q3 : w3.cell? ⟨sb, 3, none⟩ = some (.int .i64 s.lease) := hsb.cell rfl
  have q4 : w3.cell? ⟨sb, 4, none⟩ = some (.int .i64 s.suspect) := hsb.cell rfl
  have q5 : w3.cell? ⟨sb, 5, none⟩ = some (.int .i64 s.skew) := hsb.cell rfl
  have q6 : w3.cell? ⟨sb, 6, none⟩ = some (.int .i64 s.base) := hsb.cell rfl
  by_cases hgo : mayS s = true ∧ s.base ≤ 549755813888 ∧ S.length ≤ 200
  case neg =>
    have HGO := Lib.hid hgo
    clear hgo
    cases hmay : mayS s with
    | false =>
      go_wp2_with fail
      refine (awake15_any _).mono ?_
      rintro en w9 ⟨rfl, b9⟩

      replace hb := below_step hb b9
      clear b9
      go_wp2_with fail
      go_ret
      exact ⟨rfl, hb⟩
    | true =>
      by_cases hbase : 549755813888 < s.base
      · skip
        go_wp2_with fail
        refine (awake15_any _).mono ?_
        rintro en w9 ⟨rfl, b9⟩

        replace hb := below_step hb b9
        clear b9
        go_wp2_with fail
        go_ret
        exact ⟨rfl, hb⟩
      · have hlim : 200 < S.length := by
          rcases Nat.lt_or_ge 200 S.length with h | h
          · exact h
          · exact absurd ⟨hmay, by omega, h⟩ HGO.out
        have hlim' : (200 : Int) < (S.length : Int) := by omega
        go_wp2_with fail
        refine (awake15_any _).mono ?_
        rintro en w9 ⟨rfl, b9⟩

        replace hb := below_step hb b9
        clear b9
        go_wp2_with fail
        go_ret
        exact ⟨rfl, hb⟩
  obtain ⟨hmay, hbase, hlim⟩ := hgo
  have hbase' : ¬ 549755813888 < s.base := by omega
  have hlim' : ¬ (200 : Int) < (S.length : Int) := by omega
  rw [hmay]
  have hset := hmay
  have hb0 : 0 ≤ s.base := by
    unfold mayS at hset
    rw [decide_eq_true_eq] at hset
    exact hset.2.2.2.2.2.2.2.2.2.2.2.2.1
  go_wp2_with fail
  refine (made15_any hset _).mono ?_
  rintro en w4 ⟨B, p, bs, rfl, hP0⟩
  have hP := hP0.over hb
  have hSB := hsb.below hP0.low
  have HSET := Lib.hid hset
  have HB34 := Lib.hid hb
  clear hP0 hb hsb hmay hset q0 q1 q2 q3 q4 q5 q6 hbase' hlim'
  clear hSB
  obtain ⟨V, l, cs, hcs, hP⟩ : ∃ V l cs, cs = [V.cf] ∧ PlyAt w w4 B p s 100 V l cs s.base bs := ⟨_, _, _, rfl, hP⟩
  have HCS := Lib.hid hcs
  clear hcs
  have hmm := @run_makeMap Tryz.prog
  have hsm : w4.heap.size ∉ bs := fun h => by
    obtain ⟨x, b, rfl, _, hO⟩ := hP.own
    exact Nat.lt_irrefl _ (hO.mst.blocks _ h)
  have hsw := hP.low.size
  have hMp : MapM (w4.alloc (.map #[] 0)) w4.heap.size 0 (sinceV fun _ _ => none) := MapM.made w4
  replace hP := hP.below ((Below.refl w4.heap.size w4).alloc (Nat.le_refl _) (.map #[] 0))
  go_upto_region 7 with (fail)
  change Code.wp _ _ _ _ (w4.alloc (.map #[] 0))
  generalize w4.alloc (.map #[] 0) = w5 at *
  obtain ⟨sm, hsmd⟩ : ∃ sm, sm = w4.heap.size := ⟨_, rfl⟩
  rw [← hsmd] at hMp hsm hsw ⊢
  clear hsmd hmm
  obtain ⟨x, b, hbs, hX, hO⟩ := hP.own
  have c8 : w5.cell? ⟨p, 8, none⟩ = some (.pointer (some ⟨x, 0, none⟩)) := hX.cell rfl
  have hrt := hP.inv.right
  go_wp2_with fail
  refine (mconfig_any (by exact hO.mst)).mono ?_
  rintro en w6 ⟨A, cap5, rfl, hC, hb⟩
  have hfd : ∀ w : World, (Instr.field 35 (.agg #[.int .i64 V.cf.epoch, .slice A V.cf.chain.length cap5]) 1).run Tryz.prog w = .ok (.slice A V.cf.chain.length cap5) w := fun w => by rfl
  have hPq := hP.below hb
  have hMq := hMp.below hb
  clear c8 hX hO hbs hP hMp hb
  have hP := hPq
  have hMp := hMq
  clear hPq hMq
  have hl8 := right_len hrt
  have hLW : Hid (∀ s ∈ V.cf.chain, W64 s.node ∧ W64 s.life) := Lib.hid (w64_seats hrt)
  clear hrt
  go_wp2_with fail
  go_loopw [52] (fun i wr => ∃ (j : Nat) (g : Int → Int → Option Int), j ≤ V.cf.chain.length ∧ i = .int .i64 j ∧ PlyAt w wr B p s 100 V l cs s.base bs ∧ ChainS wr (.slice A V.cf.chain.length cap5) V.cf.chain ∧ MapM wr sm j (sinceV g) ∧ CntOk g (fun n lf => ∃ t ∈ V.cf.chain.take j, t.node = n ∧ t.life = lf) 1) (fun i _ => V.cf.chain.length - (intOf i).toNat)
  case atStart => exact ⟨0, _, Nat.zero_le _, rfl, hP, hC, hMp, CntOk.none _ (by simp) 1⟩
  case round =>
    obtain ⟨j, g, hj, rfl, hPr, hCr, hMr, hG⟩ := hrel
    clear hP hC hMp
    have hP := hPr
    have hC := hCr
    have hMp := hMr
    clear hPr hCr hMr
    by_cases hlt : j < V.cf.chain.length
    · obtain ⟨_, _, hqq, hs⟩ := hC.1
      injection hqq with e1 e2 e3
      subst e1
      obtain ⟨q, off, rfl, hab, hc⟩ := hs.2.2 (by omega)
      obtain ⟨sq, hsq⟩ : ∃ sq, V.cf.chain[j]? = some sq := ⟨_, List.getElem?_eq_getElem hlt⟩
      obtain ⟨s0, s1, s2⟩ := hc j sq hsq
      obtain ⟨hnw, hyw⟩ := hLW.out sq (List.mem_of_getElem? hsq)
      have HTS := Lib.hid (take_sits hsq)
      obtain ⟨n, y, z⟩ := sq
      simp only at s0 s1 s2 hnw hyw HTS
      clear hc hsq hs e2 e3
      have hb := Below.refl wr.heap.size wr
      go_upto_region 10 with (fail)
      have hY := BlkAt.new wr 49 [.int .i64 n, .int .i64 y, .bool z]
      replace hP := hP.below ((Below.refl _ _).alloc (Nat.le_refl _) (.cells #[.int .i64 n, .int .i64 y, .bool z] 49))
      replace hC := hC.below ((Below.refl _ _).alloc (Nat.le_refl _) (.cells #[.int .i64 n, .int .i64 y, .bool z] 49))
      replace hMp := hMp.below ((Below.refl _ _).alloc (Nat.le_refl _) (.cells #[.int .i64 n, .int .i64 y, .bool z] 49))
      replace hb := hb.alloc hb.size (.cells #[.int .i64 n, .int .i64 y, .bool z] 49)
      change Code.wp _ _ _ _ (wr.alloc (.cells #[.int .i64 n, .int .i64 y, .bool z] 49))
      change BlkAt (wr.alloc (.cells #[.int .i64 n, .int .i64 y, .bool z] 49)) _ _ _ at hY
      have hYn := (show wr.heap.size ≤ wr.heap.size from Nat.le_refl _)
      generalize wr.alloc (.cells #[.int .i64 n, .int .i64 y, .bool z] 49) = w7 at *
      generalize wr.heap.size = Y at hY ⊢
      clear hYn
      clear s0 s1 s2 hb
      have p0 : w7.cell? ⟨Y, 0, none⟩ = some (.int .i64 n) := hY.cell rfl
      have p1 : w7.cell? ⟨Y, 1, none⟩ = some (.int .i64 y) := hY.cell rfl
      obtain ⟨w8, hrun, hM8, hg8⟩ := hMp.store Tryz.underlying30 (by unfold maxLen; omega) hnw hyw (.int .i64 1)
      have hPq := hP.otherMap hg8 hMp.isMap hsm hsw
      have hCq := hC.otherMap hg8 hMp.isMap
      rw [sinceV_upd] at hM8
      have HG := Lib.hid (hG.put (Int.le_refl 1) (x := n) (y := y) (c := 1) (by omega) (by omega) HTS.out)
      have HP := Lib.hid hPq
      have HC := Lib.hid hCq
      have HM := Lib.hid hM8
      clear hP hC hMp hG hPq hCq hM8 hg8 hY
      go_wp2_with fail
      go_roundw
      case rel => exact ⟨j + 1, _, by omega, by go_num, HP.out, HC.out, HM.out, HG.out⟩
      case measure => simp [intOf]; omega
    · have hlt' : ¬ (j : Int) < (V.cf.chain.length : Int) := by omega
      obtain rfl : j = V.cf.chain.length := by omega
      have hA : AmidK w wr B p s 0 sm := by
        refine ⟨V, l, cs, s.base, bs, g, hP, hb0, by omega, hsm, hsw, hMp.mono (by omega), CntOk.iff hG fun n lf => ?_⟩
        rw [HCS.out, List.take_length]
        simp [Sits]
      clear hP hC hMp hG hsm hsw hlt hfd hLW HCS hl8 hj
      go_wp2_with fail
      go_loopw [62] (fun i wr => ∃ k : Nat, k ≤ S.length ∧ i = .int .i64 k ∧ AmidK w wr B p s k sm) (fun i _ => S.length - (intOf i).toNat)
      case atStart => exact ⟨0, Nat.zero_le _, rfl, hA⟩
      case round =>
        obtain ⟨k, hk, rfl, hAr⟩ := hrel
        clear hA
        obtain ⟨V, l, cs, now, bs, g, hP, hn0, hn1, hsm, hsw, hMp, hG⟩ := hAr
        by_cases hlt : k < S.length
        · skip
          obtain ⟨sB, soff, rfl, sab, hc⟩ := HS.out.2.2 (by omega)
          obtain ⟨o, ho⟩ : ∃ o, S[k]? = some o := ⟨_, List.getElem?_eq_getElem hlt⟩
          have hop : MopOk o := HS.out.2.1 o (List.mem_of_getElem? ho)
          have hat := (hc k o ho).of (w' := wr) fun j => hP.low.cell (p := ⟨sB, j, none⟩) sab
          obtain ⟨kd, d0, e0, kp, nd, lf, fl⟩ := o
          have t0 : wr.cell? ⟨sB, soff + k * 7, none⟩ = some (.int .i64 kd) := hat 0 _ rfl
          have t1 : wr.cell? ⟨sB, soff + k * 7 + 1, none⟩ = some (.int .i64 d0) := hat 1 _ rfl
          have t2 : wr.cell? ⟨sB, soff + k * 7 + 2, none⟩ = some (.int .i64 e0) := hat 2 _ rfl
          have t3 : wr.cell? ⟨sB, soff + k * 7 + 3, none⟩ = some (.int .i64 kp) := hat 3 _ rfl
          have t4 : wr.cell? ⟨sB, soff + k * 7 + 4, none⟩ = some (.int .i64 nd) := hat 4 _ rfl
          have t5 : wr.cell? ⟨sB, soff + k * 7 + 5, none⟩ = some (.int .i64 lf) := hat 5 _ rfl
          have t6 : wr.cell? ⟨sB, soff + k * 7 + 6, none⟩ = some (.bool fl) := hat 6 _ rfl
          have HO := Lib.hid ho
          have HOP := Lib.hid hop
          clear hat hc ho hop
          have hb := Below.refl wr.heap.size wr
          go_upto_region 15 with (fail)
          have hT := BlkAt.new wr 44 [.int .i64 kd, .int .i64 d0, .int .i64 e0, .int .i64 kp, .int .i64 nd, .int .i64 lf, .bool fl]
          replace hP := hP.below ((Below.refl _ _).alloc (Nat.le_refl _) (.cells #[.int .i64 kd, .int .i64 d0, .int .i64 e0, .int .i64 kp, .int .i64 nd, .int .i64 lf, .bool fl] 44))
          replace hMp := hMp.below ((Below.refl _ _).alloc (Nat.le_refl _) (.cells #[.int .i64 kd, .int .i64 d0, .int .i64 e0, .int .i64 kp, .int .i64 nd, .int .i64 lf, .bool fl] 44))
          replace hb := hb.alloc hb.size (.cells #[.int .i64 kd, .int .i64 d0, .int .i64 e0, .int .i64 kp, .int .i64 nd, .int .i64 lf, .bool fl] 44)
          change Code.wp _ _ _ _ (wr.alloc (.cells #[.int .i64 kd, .int .i64 d0, .int .i64 e0, .int .i64 kp, .int .i64 nd, .int .i64 lf, .bool fl] 44))
          change BlkAt (wr.alloc (.cells #[.int .i64 kd, .int .i64 d0, .int .i64 e0, .int .i64 kp, .int .i64 nd, .int .i64 lf, .bool fl] 44)) _ _ _ at hT
          have hTn := (show wr.heap.size ≤ wr.heap.size from Nat.le_refl _)
          generalize wr.alloc (.cells #[.int .i64 kd, .int .i64 d0, .int .i64 e0, .int .i64 kp, .int .i64 nd, .int .i64 lf, .bool fl] 44) = w5 at *
          generalize wr.heap.size = T at hT ⊢
          clear hTn
          clear t0 t1 t2 t3 t4 t5 t6
          have t0 : w5.cell? ⟨T, 0, none⟩ = some (.int .i64 kd) := hT.cell rfl
          have t1 : w5.cell? ⟨T, 1, none⟩ = some (.int .i64 d0) := hT.cell rfl
          have t2 : w5.cell? ⟨T, 2, none⟩ = some (.int .i64 e0) := hT.cell rfl
          have t3 : w5.cell? ⟨T, 3, none⟩ = some (.int .i64 kp) := hT.cell rfl
          have t4 : w5.cell? ⟨T, 4, none⟩ = some (.int .i64 nd) := hT.cell rfl
          have t5 : w5.cell? ⟨T, 5, none⟩ = some (.int .i64 lf) := hT.cell rfl
          have t6 : w5.cell? ⟨T, 6, none⟩ = some (.bool fl) := hT.cell rfl
          clear t0 t1 t2 t3 t4 t5 t6 hb
          obtain ⟨x, b, hbs, hX, hO⟩ := hP.own
          have c8 : w5.cell? ⟨p, 8, none⟩ = some (.pointer (some ⟨x, 0, none⟩)) := hX.cell rfl
          go_wp2_with fail
          refine (mconfig_any (by exact hO.mst)).mono ?_
          rintro en w6 ⟨A, cap5, rfl, hC, hb⟩
          replace hP := hP.below hb
          replace hT := hT.below hb
          replace hMp := hMp.below hb
          clear c8 hX hO hbs
          go_upto_region 16 with (fail)
          have hZ1 := BlkAt.new w6 35 [.int .i64 V.cf.epoch, .slice A V.cf.chain.length cap5]
          replace hP := hP.below ((Below.refl _ _).alloc (Nat.le_refl _) (.cells #[.int .i64 V.cf.epoch, .slice A V.cf.chain.length cap5] 35))
          replace hT := hT.below ((Below.refl _ _).alloc (Nat.le_refl _) (.cells #[.int .i64 V.cf.epoch, .slice A V.cf.chain.length cap5] 35))
          replace hC := hC.below ((Below.refl _ _).alloc (Nat.le_refl _) (.cells #[.int .i64 V.cf.epoch, .slice A V.cf.chain.length cap5] 35))
          replace hMp := hMp.below ((Below.refl _ _).alloc (Nat.le_refl _) (.cells #[.int .i64 V.cf.epoch, .slice A V.cf.chain.length cap5] 35))
          replace hb := hb.alloc hb.size (.cells #[.int .i64 V.cf.epoch, .slice A V.cf.chain.length cap5] 35)
          change Code.wp _ _ _ _ (w6.alloc (.cells #[.int .i64 V.cf.epoch, .slice A V.cf.chain.length cap5] 35))
          change BlkAt (w6.alloc (.cells #[.int .i64 V.cf.epoch, .slice A V.cf.chain.length cap5] 35)) _ _ _ at hZ1
          have hZ1n := (show w6.heap.size ≤ w6.heap.size from Nat.le_refl _)
          generalize w6.alloc (.cells #[.int .i64 V.cf.epoch, .slice A V.cf.chain.length cap5] 35) = w7 at *
          generalize w6.heap.size = Z1 at hZ1 ⊢
          clear hZ1n
          clear hb
          obtain ⟨nw, hnw⟩ : ∃ nw, nowP now d0 = nw := ⟨_, rfl⟩
          have hnw1 := nowP_in now d0
          rw [hnw] at hnw1
          have HNQ := Lib.hid hnw
          clear hnw
          have t0 : w7.cell? ⟨T, 0, none⟩ = some (.int .i64 kd) := hT.cell rfl
          have t1 : w7.cell? ⟨T, 1, none⟩ = some (.int .i64 d0) := hT.cell rfl
          have t2 : w7.cell? ⟨T, 2, none⟩ = some (.int .i64 e0) := hT.cell rfl
          have t3 : w7.cell? ⟨T, 3, none⟩ = some (.int .i64 kp) := hT.cell rfl
          have t4 : w7.cell? ⟨T, 4, none⟩ = some (.int .i64 nd) := hT.cell rfl
          have t5 : w7.cell? ⟨T, 5, none⟩ = some (.int .i64 lf) := hT.cell rfl
          have t6 : w7.cell? ⟨T, 6, none⟩ = some (.bool fl) := hT.cell rfl
          go_wp2_with fail
          refine (play_any (by exact hP) HSET.out HOP.out (by omega) (by omega) HNQ.out).mono ?_
          rintro en w11 ⟨v, V', l', cs', said, bs', rfl, hSd, hP', hKp, hFN, hst⟩
          obtain ⟨SA, Scap, rfl⟩ := hSd.form
          have HST := Lib.hid hst
          have HINV := Lib.hid hP.inv
          have hZ1q := hZ1.keepP hKp (by decide) (by decide) (by decide) (by decide) (by decide)
          have hCq := hC.keepP hKp
          have hMq := hMp.keepP hKp hsm
          have hsq := notin_next hsm hFN hMp.lt
          clear t0 t1 t2 t3 t4 t5 t6 hP hT hZ1 hC hKp hFN hst hMp hsm hSd
          have hP := hP'
          have hZ1 := hZ1q
          have hC := hCq
          have hMp := hMq
          have hsm := hsq
          clear hP' hZ1q hCq hMq hsq
          obtain ⟨x, b, hbs, hX, hO⟩ := hP.own
          have c8 : w11.cell? ⟨p, 8, none⟩ = some (.pointer (some ⟨x, 0, none⟩)) := hX.cell rfl
          go_wp2_with fail
          refine (mconfig_any (by exact hO.mst)).mono ?_
          rintro en w12 ⟨A3, cap3, rfl, hC3, hb⟩
          replace hP := hP.below hb
          replace hC := hC.below hb
          replace hZ1 := hZ1.below hb
          replace hMp := hMp.below hb
          clear c8 hX hO hbs
          go_upto_region 20 with (fail)
          have hZ3 := BlkAt.new w12 35 [.int .i64 V'.cf.epoch, .slice A3 V'.cf.chain.length cap3]
          replace hP := hP.below ((Below.refl _ _).alloc (Nat.le_refl _) (.cells #[.int .i64 V'.cf.epoch, .slice A3 V'.cf.chain.length cap3] 35))
          replace hC := hC.below ((Below.refl _ _).alloc (Nat.le_refl _) (.cells #[.int .i64 V'.cf.epoch, .slice A3 V'.cf.chain.length cap3] 35))
          replace hZ1 := hZ1.below ((Below.refl _ _).alloc (Nat.le_refl _) (.cells #[.int .i64 V'.cf.epoch, .slice A3 V'.cf.chain.length cap3] 35))
          replace hMp := hMp.below ((Below.refl _ _).alloc (Nat.le_refl _) (.cells #[.int .i64 V'.cf.epoch, .slice A3 V'.cf.chain.length cap3] 35))
          replace hC3 := hC3.below ((Below.refl _ _).alloc (Nat.le_refl _) (.cells #[.int .i64 V'.cf.epoch, .slice A3 V'.cf.chain.length cap3] 35))
          replace hb := hb.alloc hb.size (.cells #[.int .i64 V'.cf.epoch, .slice A3 V'.cf.chain.length cap3] 35)
          change Code.wp _ _ _ _ (w12.alloc (.cells #[.int .i64 V'.cf.epoch, .slice A3 V'.cf.chain.length cap3] 35))
          change BlkAt (w12.alloc (.cells #[.int .i64 V'.cf.epoch, .slice A3 V'.cf.chain.length cap3] 35)) _ _ _ at hZ3
          have hZ3n := (show w12.heap.size ≤ w12.heap.size from Nat.le_refl _)
          generalize w12.alloc (.cells #[.int .i64 V'.cf.epoch, .slice A3 V'.cf.chain.length cap3] 35) = w13 at *
          generalize w12.heap.size = Z3 at hZ3 ⊢
          clear hZ3n
          clear hb
          have hrt := hP.inv.right
          have hl8 := right_len hrt
          have hLW : Hid (∀ s ∈ V'.cf.chain, W64 s.node ∧ W64 s.life) := Lib.hid (w64_seats hrt)
          have HRT := Lib.hid hrt
          clear hrt
          have z31 : w13.cell? ⟨Z3, 1, none⟩ = some (.slice A3 V'.cf.chain.length cap3) := hZ3.cell rfl
          have HG0 := Lib.hid hG
          go_wp2_with fail
          clear z31
          go_loopw [87] (fun i wr => ∃ (j : Nat) (g' : Int → Int → Option Int), j ≤ V'.cf.chain.length ∧ i = .int .i64 j ∧ PlyAt w wr B p s (100 + 1100000 * k + 1100000) V' l' cs' nw bs' ∧ BlkAt wr Z1 35 [.int .i64 V.cf.epoch, .slice A V.cf.chain.length cap5] ∧ ChainS wr (.slice A V.cf.chain.length cap5) V.cf.chain ∧ BlkAt wr Z3 35 [.int .i64 V'.cf.epoch, .slice A3 V'.cf.chain.length cap3] ∧ ChainS wr (.slice A3 V'.cf.chain.length cap3) V'.cf.chain ∧ MapM wr sm (10 + 10 * k + j) (sinceV g') ∧ CntOk g' (fun n lf => (∃ c ∈ cs, Sits c n lf) ∨ ∃ t ∈ V'.cf.chain.take j, t.node = n ∧ t.life = lf) (1 + 10 * (k : Nat) + (j : Nat))) (fun i _ => V'.cf.chain.length - (intOf i).toNat)
          case atStart => exact ⟨0, g, Nat.zero_le _, rfl, hP, hZ1, hC, hZ3, hC3, hMp, CntOk.iff hG (by simp)⟩
          case round =>
            obtain ⟨j, g', hj, rfl, hPr, hZ1r, hCr, hZ3r, hC3r, hMr, hGr⟩ := hrel
            clear hP hZ1 hC hZ3 hC3 hMp hG
            have hP := hPr
            have hZ1 := hZ1r
            have hC := hCr
            have hZ3 := hZ3r
            have hC3 := hC3r
            have hMp := hMr
            have hG := hGr
            clear hPr hZ1r hCr hZ3r hC3r hMr hGr
            by_cases hlj : j < V'.cf.chain.length
            · obtain ⟨_, _, hqq, hs⟩ := hC3.1
              injection hqq with e1 e2 e3
              subst e1
              obtain ⟨q, off, rfl, hab, hc⟩ := hs.2.2 (by omega)
              obtain ⟨sq, hsq⟩ : ∃ sq, V'.cf.chain[j]? = some sq := ⟨_, List.getElem?_eq_getElem hlj⟩
              obtain ⟨s0, s1, s2⟩ := hc j sq hsq
              obtain ⟨hnw2, hyw⟩ := hLW.out sq (List.mem_of_getElem? hsq)
              have HTS := Lib.hid (take_sits hsq)
              have HSQ := Lib.hid hsq
              obtain ⟨n, y, z⟩ := sq
              simp only at s0 s1 s2 hnw2 hyw HTS
              clear hc hsq hs e2 e3
              have hb := Below.refl wr.heap.size wr
              go_upto_region 23 with (fail)
              have hY := BlkAt.new wr 49 [.int .i64 n, .int .i64 y, .bool z]
              replace hP := hP.below ((Below.refl _ _).alloc (Nat.le_refl _) (.cells #[.int .i64 n, .int .i64 y, .bool z] 49))
              replace hZ1 := hZ1.below ((Below.refl _ _).alloc (Nat.le_refl _) (.cells #[.int .i64 n, .int .i64 y, .bool z] 49))
              replace hC := hC.below ((Below.refl _ _).alloc (Nat.le_refl _) (.cells #[.int .i64 n, .int .i64 y, .bool z] 49))
              replace hZ3 := hZ3.below ((Below.refl _ _).alloc (Nat.le_refl _) (.cells #[.int .i64 n, .int .i64 y, .bool z] 49))
              replace hC3 := hC3.below ((Below.refl _ _).alloc (Nat.le_refl _) (.cells #[.int .i64 n, .int .i64 y, .bool z] 49))
              replace hMp := hMp.below ((Below.refl _ _).alloc (Nat.le_refl _) (.cells #[.int .i64 n, .int .i64 y, .bool z] 49))
              replace hb := hb.alloc hb.size (.cells #[.int .i64 n, .int .i64 y, .bool z] 49)
              change Code.wp _ _ _ _ (wr.alloc (.cells #[.int .i64 n, .int .i64 y, .bool z] 49))
              change BlkAt (wr.alloc (.cells #[.int .i64 n, .int .i64 y, .bool z] 49)) _ _ _ at hY
              have hYn := (show wr.heap.size ≤ wr.heap.size from Nat.le_refl _)
              generalize wr.alloc (.cells #[.int .i64 n, .int .i64 y, .bool z] 49) = y1 at *
              generalize wr.heap.size = Y at hY ⊢
              clear hYn
              clear s0 s1 s2 hb
              have p0 : y1.cell? ⟨Y, 0, none⟩ = some (.int .i64 n) := hY.cell rfl
              have p1 : y1.cell? ⟨Y, 1, none⟩ = some (.int .i64 y) := hY.cell rfl
              have z10 : y1.cell? ⟨Z1, 0, none⟩ = some (.int .i64 V.cf.epoch) := hZ1.cell rfl
              have z11 : y1.cell? ⟨Z1, 1, none⟩ = some (.slice A V.cf.chain.length cap5) := hZ1.cell rfl
              obtain ⟨pl, hplq⟩ : ∃ pl, placeC V.cf.chain n y = pl := ⟨_, rfl⟩
              have HPL := Lib.hid hplq
              clear hplq
              go_wp2_with fail
              refine (qcplace_at (by exact hC.1) V.cf.epoch (p := pl) HPL.out).mono ?_
              rintro en y2 ⟨rfl, bz⟩
              clear p0 p1 z10 z11
              replace hP := hP.below bz
              replace hZ1 := hZ1.below bz
              replace hC := hC.below bz
              replace hZ3 := hZ3.below bz
              replace hC3 := hC3.below bz
              replace hMp := hMp.below bz
              replace hY := hY.below bz
              have p0 : y2.cell? ⟨Y, 0, none⟩ = some (.int .i64 n) := hY.cell rfl
              have p1 : y2.cell? ⟨Y, 1, none⟩ = some (.int .i64 y) := hY.cell rfl
              obtain ⟨hcb0, hcb1⟩ := hG.get (by omega) n y
              have hlk := look_int hMp hnw2 hyw
              obtain ⟨c, hcq⟩ : ∃ c, (g' n y).getD 0 = c := ⟨_, rfl⟩
              have HCQ := Lib.hid hcq
              rw [hcq] at hlk hcb0 hcb1
              have HCW : Hid (IntKind.i64.wrap (c + 1) = c + 1) := Lib.hid (by rw [IntWalk.i64_left, IntWalk.wrap64_in _ ⟨by omega, by omega⟩])
              by_cases hpl : pl < 0
              · have hg0 : g' n y = none := by
                  cases hgg : g' n y with
                  | none => rfl
                  | some c =>
                    obtain ⟨_, _, hh⟩ := hG.1 n y c hgg
                    rcases hh with ⟨c9, hc9, hs9⟩ | ⟨t, ht, ht1, ht2⟩
                    · exact absurd hs9 (HST.out.fresh HINV.out (q := ⟨n, y, z⟩) (List.mem_of_getElem? HSQ.out) (by rw [HPL.out]; exact hpl) c9 hc9)
                    · exfalso
                      obtain ⟨i9, hi9⟩ := List.getElem?_of_mem ht
                      have hil := (List.getElem?_eq_some_iff.1 hi9).1
                      rw [List.length_take] at hil
                      have hpw := seatsOk_nodes (rightC_iff.1 HRT.out).2.2.2.2.2
                      have hi10 : V'.cf.chain[i9]? = some t := by rw [List.getElem?_take_of_lt (by omega)] at hi9; exact hi9
                      have hne := List.pairwise_iff_getElem.1 hpw i9 j (List.getElem?_eq_some_iff.1 hi10).1 hlj (by omega)
                      rw [(List.getElem?_eq_some_iff.1 hi10).2, (List.getElem?_eq_some_iff.1 HSQ.out).2] at hne
                      exact hne ht1
                have hcz : decide (0 < c) = false := by
                  rw [hg0] at hcq
                  simp only [Option.getD_none] at hcq
                  exact decide_eq_false (by omega)
                have hpd : decide (pl < 0) = true := decide_eq_true hpl
                clear hg0 hcq
                go_upto_region 25 with (fail)
                clear p0 p1 hlk hpd hcz
                have hcq := HCQ.out
                have bd : Below y2.heap.size y2 y2.drew := below_drewN (Below.refl _ _) 1
                replace hP := hP.below bd
                replace hZ1 := hZ1.below bd
                replace hC := hC.below bd
                replace hZ3 := hZ3.below bd
                replace hC3 := hC3.below bd
                replace hMp := hMp.below bd
                replace hY := hY.below bd
                clear bd
                obtain ⟨v0, st, m1w, hr1, hg1, ⟨f1, hM1, hf1⟩, hstore⟩ := hMp.entry Tryz.underlying30 (z := .int .i64 0) (fun u => by kernel_rfl) (by unfold maxLen; omega) hnw2 hyw
                obtain ⟨m3w, hr3, hM3, hg3⟩ := hstore m1w (.int .i64 (c + 1)) rfl
                have hlk0 := look_int hMp hnw2 hyw
                have hlk1 := hM1.look Tryz.underlying30 (z := .int .i64 0) (by kernel_rfl) hnw2 hyw
                rw [hf1, sinceV_get] at hlk1
                rw [hcq] at hlk0 hlk1
                have r1 : (Instr.mapEntry 30 (.map (some sm)) (.agg #[.int .i64 n, .int .i64 y])).run Tryz.prog y2.drew = .ok (.tuple #[v0, .int .i64 (st : Nat)]) m1w := hr1
                have r3 : (Instr.entryStore 30 (.map (some sm)) (.int .i64 (st : Nat)) (.int .i64 (c + 1))).run Tryz.prog m1w = .ok () m3w := hr3
                rw [sinceV_upd] at hM3
                have i0 := hMp.isMap
                have i1 := hM1.isMap
                have hYd := hY
                have hY1 := hY.otherMap hg1 i0
                have hY3 := hY1.otherMap hg3 i1
                have HP3 := Lib.hid ((hP.otherMap hg1 i0 hsm hsw).otherMap hg3 i1 hsm hsw)
                have HZ13 := Lib.hid ((hZ1.otherMap hg1 i0).otherMap hg3 i1)
                have HC3 := Lib.hid ((hC.otherMap hg1 i0).otherMap hg3 i1)
                have HZ33 := Lib.hid ((hZ3.otherMap hg1 i0).otherMap hg3 i1)
                have HC33 := Lib.hid ((hC3.otherMap hg1 i0).otherMap hg3 i1)
                have HM3 : Hid (MapM m3w sm (10 + 10 * k + (j + 1)) _) := Lib.hid hM3
                have HG3 := Lib.hid (hG.put (M' := 1 + 10 * (k : Nat) + ((j + 1 : Nat) : Int)) (by omega) (x := n) (y := y) (c := c + 1) (P' := fun n lf => (∃ c ∈ cs, Sits c n lf) ∨ ∃ t ∈ V'.cf.chain.take (j + 1), t.node = n ∧ t.life = lf) (by omega) (by omega) (fun n' lf' => by rw [HTS.out n' lf', or_assoc]))
                clear hP hZ1 hC hZ3 hC3 hMp hY hstore hr1 hr3 hM1 hM3 hg1 hg3 hf1 i0 i1 hG
                refine wp_region_noPanic ?_
                refine wp_region_held_drew (S := (fun w' => w'.cell? ⟨Y, 0, none⟩ = some (.int .i64 n) ∧ w'.cell? ⟨Y, 1, none⟩ = some (.int .i64 y))) (by kernel_rfl) (by exact ⟨hYd.cell rfl, hYd.cell rfl⟩) (fun hHeld => ?_)
                refine wtk 0 hHeld ?_
                refine wtk 1 hHeld ?_
                refine wtk 2 hHeld ?_
                refine wpAnyH_ready (rs := [3, 5]) (by kernel_rfl) (by simp) (AllReadyH.cons (o := ?oq_1_4_3) ?op_1_4_3 (fun K hK => ?re_1_4_3) (AllReadyH.cons (o := ?oq_1_4_5) ?op_1_4_5 (fun K hK => ?re_1_4_5) AllReadyH.nil))
                case op_1_4_3 => (simp only [List.getElem?_toArray, List.getElem?_cons_succ, List.getElem?_cons_zero]; rfl)
                case op_1_4_5 => (simp only [List.getElem?_toArray, List.getElem?_cons_succ, List.getElem?_cons_zero]; rfl)
                case re_1_4_3 =>
                  go_simp
                  refine hK.out _ _ (by exact ⟨hYd.cell rfl, hYd.cell rfl⟩) (fun hHeld => ?_)
                  clear hK K
                  try simp only [Act.put, List.setIfInBounds_toArray, List.set_cons_zero, List.set_cons_succ]
                  refine wtk 4 hHeld ?_
                  refine wpAnyH_ready (rs := [5]) (by kernel_rfl) (by simp) (AllReadyH.cons (o := ?oq_1_6_5) ?op_1_6_5 (fun K hK => ?re_1_6_5) AllReadyH.nil)
                  case op_1_6_5 => (simp only [List.getElem?_toArray, List.getElem?_cons_succ, List.getElem?_cons_zero]; rfl)
                  go_simp
                  refine hK.out _ _ (by exact ⟨hY1.cell rfl, hY1.cell rfl⟩) (fun hHeld => ?_)
                  clear hK K
                  try simp only [Act.put, List.setIfInBounds_toArray, List.set_cons_zero, List.set_cons_succ]
                  refine wtk 6 hHeld ?_
                  refine wpAnyH_ready (rs := [7]) (by kernel_rfl) (by simp) (AllReadyH.cons (o := ?oq_1_8_7) ?op_1_8_7 (fun K hK => ?re_1_8_7) AllReadyH.nil)
                  case op_1_8_7 => (simp only [List.getElem?_toArray, List.getElem?_cons_succ, List.getElem?_cons_zero]; rfl)
                  rw [HCW.out]
                  go_simp
                  refine hK.out _ _ (by exact ⟨hY3.cell rfl, hY3.cell rfl⟩) (fun hHeld => ?_)
                  clear hK K
                  try simp only [Act.put, List.setIfInBounds_toArray, List.set_cons_zero, List.set_cons_succ]
                  refine wpAnyH_done (by kernel_rfl) ?_ _
                  refine NoPanic.normal ?_
                  go_wp2_with fail
                  go_roundw
                  case rel => exact ⟨j + 1, _, by omega, by go_num, HP3.out, HZ13.out, HC3.out, HZ33.out, HC33.out, HM3.out, HG3.out⟩
                  case measure => simp [intOf]; omega
                case re_1_4_5 =>
                  go_simp
                  refine hK.out _ _ (by exact ⟨hY1.cell rfl, hY1.cell rfl⟩) (fun hHeld => ?_)
                  clear hK K
                  try simp only [Act.put, List.setIfInBounds_toArray, List.set_cons_zero, List.set_cons_succ]
                  refine wtk 6 hHeld ?_
                  refine wpAnyH_ready (rs := [3]) (by kernel_rfl) (by simp) (AllReadyH.cons (o := ?oq_1_10_3) ?op_1_10_3 (fun K hK => ?re_1_10_3) AllReadyH.nil)
                  case op_1_10_3 => (simp only [List.getElem?_toArray, List.getElem?_cons_succ, List.getElem?_cons_zero]; rfl)
                  go_simp
                  refine hK.out _ _ (by exact ⟨hY1.cell rfl, hY1.cell rfl⟩) (fun hHeld => ?_)
                  clear hK K
                  try simp only [Act.put, List.setIfInBounds_toArray, List.set_cons_zero, List.set_cons_succ]
                  refine wtk 4 hHeld ?_
                  refine wpAnyH_ready (rs := [7]) (by kernel_rfl) (by simp) (AllReadyH.cons (o := ?oq_1_12_7) ?op_1_12_7 (fun K hK => ?re_1_12_7) AllReadyH.nil)
                  case op_1_12_7 => (simp only [List.getElem?_toArray, List.getElem?_cons_succ, List.getElem?_cons_zero]; rfl)
                  rw [HCW.out]
                  go_simp
                  refine hK.out _ _ (by exact ⟨hY3.cell rfl, hY3.cell rfl⟩) (fun hHeld => ?_)
                  clear hK K
                  try simp only [Act.put, List.setIfInBounds_toArray, List.set_cons_zero, List.set_cons_succ]
                  refine wpAnyH_done (by kernel_rfl) ?_ _
                  refine NoPanic.normal ?_
                  go_wp2_with fail
                  go_roundw
                  case rel => exact ⟨j + 1, _, by omega, by go_num, HP3.out, HZ13.out, HC3.out, HZ33.out, HC33.out, HM3.out, HG3.out⟩
                  case measure => simp [intOf]; omega
              · have hpd : decide (pl < 0) = false := decide_eq_false hpl
                clear hcq
                go_upto_region 25 with (fail)
                clear p0 p1 hlk hpd
                have hcq := HCQ.out
                have bd : Below y2.heap.size y2 y2.drew := below_drewN (Below.refl _ _) 1
                replace hP := hP.below bd
                replace hZ1 := hZ1.below bd
                replace hC := hC.below bd
                replace hZ3 := hZ3.below bd
                replace hC3 := hC3.below bd
                replace hMp := hMp.below bd
                replace hY := hY.below bd
                clear bd
                obtain ⟨v0, st, m1w, hr1, hg1, ⟨f1, hM1, hf1⟩, hstore⟩ := hMp.entry Tryz.underlying30 (z := .int .i64 0) (fun u => by kernel_rfl) (by unfold maxLen; omega) hnw2 hyw
                obtain ⟨m3w, hr3, hM3, hg3⟩ := hstore m1w (.int .i64 (c + 1)) rfl
                have hlk0 := look_int hMp hnw2 hyw
                have hlk1 := hM1.look Tryz.underlying30 (z := .int .i64 0) (by kernel_rfl) hnw2 hyw
                rw [hf1, sinceV_get] at hlk1
                rw [hcq] at hlk0 hlk1
                have r1 : (Instr.mapEntry 30 (.map (some sm)) (.agg #[.int .i64 n, .int .i64 y])).run Tryz.prog y2.drew = .ok (.tuple #[v0, .int .i64 (st : Nat)]) m1w := hr1
                have r3 : (Instr.entryStore 30 (.map (some sm)) (.int .i64 (st : Nat)) (.int .i64 (c + 1))).run Tryz.prog m1w = .ok () m3w := hr3
                rw [sinceV_upd] at hM3
                have i0 := hMp.isMap
                have i1 := hM1.isMap
                have hYd := hY
                have hY1 := hY.otherMap hg1 i0
                have hY3 := hY1.otherMap hg3 i1
                have HP3 := Lib.hid ((hP.otherMap hg1 i0 hsm hsw).otherMap hg3 i1 hsm hsw)
                have HZ13 := Lib.hid ((hZ1.otherMap hg1 i0).otherMap hg3 i1)
                have HC3 := Lib.hid ((hC.otherMap hg1 i0).otherMap hg3 i1)
                have HZ33 := Lib.hid ((hZ3.otherMap hg1 i0).otherMap hg3 i1)
                have HC33 := Lib.hid ((hC3.otherMap hg1 i0).otherMap hg3 i1)
                have HM3 : Hid (MapM m3w sm (10 + 10 * k + (j + 1)) _) := Lib.hid hM3
                have HG3 := Lib.hid (hG.put (M' := 1 + 10 * (k : Nat) + ((j + 1 : Nat) : Int)) (by omega) (x := n) (y := y) (c := c + 1) (P' := fun n lf => (∃ c ∈ cs, Sits c n lf) ∨ ∃ t ∈ V'.cf.chain.take (j + 1), t.node = n ∧ t.life = lf) (by omega) (by omega) (fun n' lf' => by rw [HTS.out n' lf', or_assoc]))
                clear hP hZ1 hC hZ3 hC3 hMp hY hstore hr1 hr3 hM1 hM3 hg1 hg3 hf1 i0 i1 hG
                refine wp_region_noPanic ?_
                refine wp_region_held_drew (S := (fun w' => w'.cell? ⟨Y, 0, none⟩ = some (.int .i64 n) ∧ w'.cell? ⟨Y, 1, none⟩ = some (.int .i64 y))) (by kernel_rfl) (by exact ⟨hYd.cell rfl, hYd.cell rfl⟩) (fun hHeld => ?_)
                refine wtk 0 hHeld ?_
                refine wtk 1 hHeld ?_
                refine wtk 2 hHeld ?_
                refine wpAnyH_ready (rs := [3, 5]) (by kernel_rfl) (by simp) (AllReadyH.cons (o := ?oq_2_4_3) ?op_2_4_3 (fun K hK => ?re_2_4_3) (AllReadyH.cons (o := ?oq_2_4_5) ?op_2_4_5 (fun K hK => ?re_2_4_5) AllReadyH.nil))
                case op_2_4_3 => (simp only [List.getElem?_toArray, List.getElem?_cons_succ, List.getElem?_cons_zero]; rfl)
                case op_2_4_5 => (simp only [List.getElem?_toArray, List.getElem?_cons_succ, List.getElem?_cons_zero]; rfl)
                case re_2_4_3 =>
                  go_simp
                  refine hK.out _ _ (by exact ⟨hYd.cell rfl, hYd.cell rfl⟩) (fun hHeld => ?_)
                  clear hK K
                  try simp only [Act.put, List.setIfInBounds_toArray, List.set_cons_zero, List.set_cons_succ]
                  refine wtk 4 hHeld ?_
                  refine wpAnyH_ready (rs := [5]) (by kernel_rfl) (by simp) (AllReadyH.cons (o := ?oq_2_6_5) ?op_2_6_5 (fun K hK => ?re_2_6_5) AllReadyH.nil)
                  case op_2_6_5 => (simp only [List.getElem?_toArray, List.getElem?_cons_succ, List.getElem?_cons_zero]; rfl)
                  go_simp
                  refine hK.out _ _ (by exact ⟨hY1.cell rfl, hY1.cell rfl⟩) (fun hHeld => ?_)
                  clear hK K
                  try simp only [Act.put, List.setIfInBounds_toArray, List.set_cons_zero, List.set_cons_succ]
                  refine wtk 6 hHeld ?_
                  refine wpAnyH_ready (rs := [7]) (by kernel_rfl) (by simp) (AllReadyH.cons (o := ?oq_2_8_7) ?op_2_8_7 (fun K hK => ?re_2_8_7) AllReadyH.nil)
                  case op_2_8_7 => (simp only [List.getElem?_toArray, List.getElem?_cons_succ, List.getElem?_cons_zero]; rfl)
                  rw [HCW.out]
                  go_simp
                  refine hK.out _ _ (by exact ⟨hY3.cell rfl, hY3.cell rfl⟩) (fun hHeld => ?_)
                  clear hK K
                  try simp only [Act.put, List.setIfInBounds_toArray, List.set_cons_zero, List.set_cons_succ]
                  refine wpAnyH_done (by kernel_rfl) ?_ _
                  refine NoPanic.normal ?_
                  go_wp2_with fail
                  go_roundw
                  case rel => exact ⟨j + 1, _, by omega, by go_num, HP3.out, HZ13.out, HC3.out, HZ33.out, HC33.out, HM3.out, HG3.out⟩
                  case measure => simp [intOf]; omega
                case re_2_4_5 =>
                  go_simp
                  refine hK.out _ _ (by exact ⟨hY1.cell rfl, hY1.cell rfl⟩) (fun hHeld => ?_)
                  clear hK K
                  try simp only [Act.put, List.setIfInBounds_toArray, List.set_cons_zero, List.set_cons_succ]
                  refine wtk 6 hHeld ?_
                  refine wpAnyH_ready (rs := [3]) (by kernel_rfl) (by simp) (AllReadyH.cons (o := ?oq_2_10_3) ?op_2_10_3 (fun K hK => ?re_2_10_3) AllReadyH.nil)
                  case op_2_10_3 => (simp only [List.getElem?_toArray, List.getElem?_cons_succ, List.getElem?_cons_zero]; rfl)
                  go_simp
                  refine hK.out _ _ (by exact ⟨hY1.cell rfl, hY1.cell rfl⟩) (fun hHeld => ?_)
                  clear hK K
                  try simp only [Act.put, List.setIfInBounds_toArray, List.set_cons_zero, List.set_cons_succ]
                  refine wtk 4 hHeld ?_
                  refine wpAnyH_ready (rs := [7]) (by kernel_rfl) (by simp) (AllReadyH.cons (o := ?oq_2_12_7) ?op_2_12_7 (fun K hK => ?re_2_12_7) AllReadyH.nil)
                  case op_2_12_7 => (simp only [List.getElem?_toArray, List.getElem?_cons_succ, List.getElem?_cons_zero]; rfl)
                  rw [HCW.out]
                  go_simp
                  refine hK.out _ _ (by exact ⟨hY3.cell rfl, hY3.cell rfl⟩) (fun hHeld => ?_)
                  clear hK K
                  try simp only [Act.put, List.setIfInBounds_toArray, List.set_cons_zero, List.set_cons_succ]
                  refine wpAnyH_done (by kernel_rfl) ?_ _
                  refine NoPanic.normal ?_
                  go_wp2_with fail
                  go_roundw
                  case rel => exact ⟨j + 1, _, by omega, by go_num, HP3.out, HZ13.out, HC3.out, HZ33.out, HC33.out, HM3.out, HG3.out⟩
                  case measure => simp [intOf]; omega
            · have hlj' : ¬ (j : Int) < (V'.cf.chain.length : Int) := by omega
              obtain rfl : j = V'.cf.chain.length := by omega
              have HG9 : Hid (CntOk g' (fun n lf => ∃ c ∈ cs', Sits c n lf) (1 + 10 * ((k + 1 : Nat) : Int))) := Lib.hid (CntOk.iff (hG.mono (by omega)) fun n lf => by
                rw [sits_next HST.out HINV.out, List.take_length])
              obtain ⟨sq, t9, i9, hq0, hpl9, ht9, hts⟩ := HST.out.head HINV.out
              have HPL9 := Lib.hid hpl9
              obtain ⟨_, _, hqq, hs⟩ := hC3.1
              injection hqq with e1 e2 e3
              subst e1
              obtain ⟨qh, offh, rfl, hqlt, hc⟩ := hs.2.2 (by omega)
              have hh := hc 0 sq hq0
              rw [Nat.zero_mul, Nat.add_zero] at hh
              obtain ⟨hh0, hh1, _⟩ := hh
              obtain ⟨hn, hl, hz⟩ := sq
              simp only at hh0 hh1 HPL9
              clear hc hs e2 e3 hq0 hpl9 hG hlj hj
              have hlp : 0 < V'.cf.chain.length := by omega
              go_upto_region 27 with (fail)
              have hh0d : wr.drew.cell? ⟨qh, offh, none⟩ = some (.int .i64 hn) := hh0
              have hh1d : wr.drew.cell? ⟨qh, offh + 1, none⟩ = some (.int .i64 hl) := hh1
              have hqld : qh < wr.drew.heap.size := hqlt
              have bd : Below wr.heap.size wr wr.drew := below_drewN (Below.refl _ _) 1
              replace hP := hP.below bd
              replace hZ1 := hZ1.below bd
              replace hC := hC.below bd
              replace hZ3 := hZ3.below bd
              replace hC3 := hC3.below bd
              replace hMp := hMp.below bd
              clear bd
              clear hh0 hh1 hqlt
              have hh0 := hh0d
              have hh1 := hh1d
              have hqlt := hqld
              clear hh0d hh1d hqld
              refine wp_region_noPanic ?_
              refine wp_region_held_drew (S := (fun w' => w'.cell? ⟨Z1, 0, none⟩ = some (.int .i64 V.cf.epoch) ∧ w'.cell? ⟨Z1, 1, none⟩ = some (.slice A V.cf.chain.length cap5) ∧ w'.cell? ⟨Z3, 1, none⟩ = some (.slice (some ⟨qh, offh, none⟩) V'.cf.chain.length cap3) ∧ w'.cell? ⟨qh, offh, none⟩ = some (.int .i64 hn) ∧ w'.cell? ⟨qh, offh + 1, none⟩ = some (.int .i64 hl))) (by kernel_rfl) (by exact ⟨hZ1.cell rfl, hZ1.cell rfl, hZ3.cell rfl, hh0, hh1⟩) (fun hHeld => ?_)
              refine wtk 0 hHeld ?_
              refine wtk 1 hHeld ?_
              refine wtk 2 hHeld ?_
              refine wtk 3 hHeld ?_
              refine wtk 4 hHeld ?_
              refine wtk 5 hHeld ?_
              refine wpAnyH_ready (rs := [6]) (by kernel_rfl) (by simp) (AllReadyH.cons (o := ?oq_3_6) ?op_3_6 (fun K hK => ?re_3_6) AllReadyH.nil)
              case op_3_6 => (simp only [List.getElem?_toArray, List.getElem?_cons_succ, List.getElem?_cons_zero]; rfl)
              go_simp
              go_at_call 15
              refine (qcplace_at (by exact hC.1) V.cf.epoch (p := (i9 : Nat)) HPL9.out).mono ?_
              rintro en y5 ⟨rfl, bz⟩
              have hh0q := (bz.cell (p := ⟨qh, offh, none⟩) hqlt).trans hh0
              have hh1q := (bz.cell (p := ⟨qh, offh + 1, none⟩) hqlt).trans hh1
              clear hh0 hh1 hqlt
              have hh0 := hh0q
              have hh1 := hh1q
              clear hh0q hh1q
              replace hP := hP.below bz
              replace hZ1 := hZ1.below bz
              replace hC := hC.below bz
              replace hZ3 := hZ3.below bz
              replace hC3 := hC3.below bz
              replace hMp := hMp.below bz
              clear bz
              refine hK.out _ _ (by exact ⟨hZ1.cell rfl, hZ1.cell rfl, hZ3.cell rfl, hh0, hh1⟩) (fun hHeld => ?_)
              clear hK K
              try simp only [Act.put, List.setIfInBounds_toArray, List.set_cons_zero, List.set_cons_succ]
              refine wtk 7 hHeld ?_
              refine wpAnyH_done (by kernel_rfl) ?_ _
              refine NoPanic.normal ?_
              clear hHeld hh0 hh1
              have z30 : y5.cell? ⟨Z3, 0, none⟩ = some (.int .i64 V'.cf.epoch) := hZ3.cell rfl
              have z31 : y5.cell? ⟨Z3, 1, none⟩ = some (.slice (some ⟨qh, offh, none⟩) V'.cf.chain.length cap3) := hZ3.cell rfl
              go_wp2_with fail
              refine (qcright_at (by exact hC3.1) (b := true) HRT.out).mono ?_
              rintro en y6 ⟨rfl, bz⟩
              clear z30 z31
              replace hP := hP.below bz
              replace hZ1 := hZ1.below bz
              replace hC := hC.below bz
              replace hMp := hMp.below bz
              clear bz hZ3 hC3
              obtain ⟨_, _, hqq, hs⟩ := hC.1
              injection hqq with e1 e2 e3
              subst e1
              have hil := (List.getElem?_eq_some_iff.1 ht9).1
              have hil' : (i9 : Int) < (V.cf.chain.length : Int) := by omega
              obtain ⟨qv, offv, rfl, hvlt, hc⟩ := hs.2.2 (by omega)
              have hv2 := (hc i9 t9 ht9).2.2
              rw [hts] at hv2
              have hvl8 : V.cf.chain.length ≤ 8 := by
                have := right_len HINV.out.right
                omega
              have z11 : y6.cell? ⟨Z1, 1, none⟩ = some (.slice (some ⟨qv, offv, none⟩) V.cf.chain.length cap5) := hZ1.cell rfl
              have HA : Hid (AmidK w y6 B p s (k + 1) sm) := Lib.hid ⟨_, _, _, _, _, _, ply_next (N := 0) hP, by omega, by omega, hsm, hsw, hMp.mono (by omega), HG9.out⟩
              clear hP hZ1 hC hMp hc hs e2 e3 ht9 hts
              go_wp2_with fail
              go_roundw
              case rel => exact ⟨k + 1, by omega, by go_num, HA.out⟩
              case measure => simp [intOf]; omega
        · have hlt' : ¬ (k : Int) < (S.length : Int) := by omega
          have HL := Lib.hid hP.low
          clear hP hMp hG
          go_wp2_with fail
          go_ret
          exact ⟨rfl, HL.out⟩
set_option maxRecDepth 100000 in
theorem MasterKeeps_walk {H : Type} {enc : TypeId × Value → H} {base : Nat} {d d2 : DataW H} {p p2 : List MemPlace} (v v2 : Value) (w : World) (hv : Value.okWide Tryz.prog w .any base 23 v) (ht : DataW.Trod enc Tryz.prog w 0 (fun _ => true) true 23 v d p)
    (hv2 : Value.okWide Tryz.prog w .any base 24 v2) (ht2 : DataW.Trod enc Tryz.prog w 0 (fun _ => true) true 24 v2 d2 p2) :
    Calls Tryz.prog 4 #[v, v2] w fun e w' => e = .returned (.bool true) ∧ Below w.heap.size w w' := by
  obtain ⟨s, _, rfl⟩ := open_setup hv ht
  obtain ⟨a, S, cap, rfl, hS⟩ := open_mops hv2 ht2
  exact MasterKeeps_go hS


set_option maxRecDepth 100000 in
theorem MasterKeeps_calls (H : Type) (enc : TypeId × Value → H) (W : World) (base : Nat) (args : Array Value) (ds gs : List (DataW H)) (before : List MemPlace)
    (hval : ∀ (j : Nat) t v, Tryz.f4.params[j]? = some t → args[j]? = some v → Value.okWide Tryz.prog W .any base t v)
    (hW : DataW.Whole enc Tryz.prog Tryz.f4.params.toList Rows.masterKeepsSpec.vars false W args.toList ds gs before) :
    Calls Tryz.prog 4 args W fun e W' => e = .returned (.bool true) ∧ Below W.heap.size W W' := by
  obtain ⟨p, q, hA, hV, rfl, hfz, hnd⟩ := hW
  rw [Tryz.params4] at hA hval
  obtain ⟨v0, vs0, d0, ds0, p0, q0, hargs, rfl, rfl, h0, r0⟩ := trodAll_cons hA
  obtain ⟨v1, vs1, d1, ds1, p1, q1, rfl, rfl, rfl, h1, r1⟩ := trodAll_cons r0
  obtain ⟨rfl, rfl, rfl⟩ := trodAll_nil r1
  obtain rfl : args = #[v0, v1] := Array.toList_inj.1 hargs

  exact MasterKeeps_walk v0 v1 W (hval 0 23 v0 rfl rfl) h0 (hval 1 24 v1 rfl rfl) h1

set_option maxRecDepth 100000 in
theorem MasterKeeps_lifted (os : Os) (started : os.Started) (H : Type) (enc : TypeId × Value → H) :
    ReturnsInHanded {} Tryz.checked os 4 .any (Rows.masterKeepsSpec.pre6 enc Tryz.prog Tryz.f4 Rows.masterKeepsRow.domain false) (Rows.masterKeepsSpec.post enc Tryz.prog Tryz.f4 false true false false) := by
  refine returnsInHanded_of_change (C := Tryz.checked) own started (by kernel_rfl) Tryz.func4
    (ChangeSpec.witness6 (enc := enc) (C := Tryz.checked) false ⟨#[], #[.agg #[.int .i64 0, .int .i64 0, .int .i64 0, .int .i64 0, .int .i64 0, .int .i64 0, .int .i64 0], .slice none 0 0], []⟩ 8 (by kernel_rfl) (by kernel_rfl) (by kernel_rfl) (by kernel_rfl)) ?_
  intro W base args ds gs before hval0 hW hcnd _
  have hval : ∀ (j : Nat) t v, Tryz.f4.params[j]? = some t → args[j]? = some v → Value.okWide Tryz.prog W .any base t v := hval0
  refine (MasterKeeps_calls H enc W base args ds gs before hval hW).mono fun e W' ⟨he, bel⟩ => ?_
  exact ⟨_, he, law_post (ts := [23, 24]) (by rw [Tryz.params4]) (by intro t ht; simp only [List.mem_cons, List.not_mem_nil, or_false] at ht; rcases ht with rfl | rfl <;> exact ⟨by kernel_rfl, of_decide_eq_true (by kernel_rfl)⟩) hW rfl
    (fun ds h => by match ds, h with | [_, _], _ => rfl) (by kernel_rfl) bel⟩

theorem MasterKeeps_over : Rows.masterKeepsRow.holds Tryz.pinned (OpenSpec.ofChange Rows.masterKeepsSpec) :=
  OpenClaim.holds_of_wide 4 Tryz.f4 rfl rfl rfl rfl rfl rfl rfl ⟨rfl, rfl, rfl, rfl, rfl⟩ rfl rfl rfl rfl rfl (by kernel_rfl) Tryz.func4 (by kernel_rfl)
    (of_decide_eq_true (by kernel_rfl)) (by unfold Func.isWrapper; first | (rw [if_pos (by decide +kernel)]; kernel_rfl) | (rw [if_neg (by decide +kernel)]; exact ⟨rfl, rfl⟩))
    (fun os started H enc _ => MasterKeeps_lifted os started H enc)

/-- The statement. -/
theorem MasterKeeps_proved : Rows.MasterKeepsSaid := MasterKeeps_over

end Go.Proofs.YtomfmejodmfioaaGreat
