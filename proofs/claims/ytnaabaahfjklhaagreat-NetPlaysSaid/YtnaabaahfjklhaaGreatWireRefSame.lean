/- Whether two messages are the same: the document's answer. -/
import Derived.Test.YtnaabaahfjklhaaGreatWireSameC
namespace Go.Proofs.YtnaabaahfjklhaaGreat
open Go.RowKit Go.ChangeShapes Go.WideShapes Go.Joins Go.Deep
set_option linter.unusedVariables false

set_option maxRecDepth 100000 in
set_option maxHeartbeats 2000000 in
theorem qsamefires_any {w : World} {v u : Value} {L M : List FireV} (hv : FiresAt w v L) (hu : FiresAt w u M) :
    Calls Tryz.prog 32 #[v, u] w fun en w' => en = .returned (.bool (decide (L = M))) ∧ ∃ m, w' = w.drewN m := by
  obtain ⟨a, cap, rfl, hlen, hcell⟩ := hv
  obtain ⟨a2, cap2, rfl, hlen2, hcell2⟩ := hu
  unfold maxLen at hlen hlen2
  by_cases hl : L.length = M.length
  · go_enter Tryz.func32, Tryz.ntmps32
    have hl' : (L.length : Int) = (M.length : Int) := by omega
    go_wp2_with fail
    go_loopw [5] (fun i wr => ∃ k m : Nat, k ≤ L.length ∧ i = .int .i64 k ∧ wr = w.drewN m ∧ Aside (∀ j s, j < k → L[j]? = some s → M[j]? = some s)) (fun i _ => L.length - (intOf i).toNat)
    case atStart => exact ⟨0, 0, Nat.zero_le _, rfl, rfl, fun j t hj => absurd hj (Nat.not_lt_zero _)⟩
    case round =>
      obtain ⟨k, m, hk, rfl, rfl, A⟩ := hrel
      by_cases hlt : k < L.length
      · obtain ⟨b, off, rfl, hab, hc⟩ := hcell (by omega)
        obtain ⟨b2, off2, rfl, hab2, hc2⟩ := hcell2 (by omega)
        obtain ⟨s, hs⟩ : ∃ s, L[k]? = some s := ⟨_, List.getElem?_eq_getElem hlt⟩
        obtain ⟨t, ht⟩ : ∃ t, M[k]? = some t := ⟨_, List.getElem?_eq_getElem (by omega)⟩
        have cs := hc k s hs
        have ct := hc2 k t ht
        obtain ⟨x0, x1, x2, x3, x4, x5⟩ := s
        obtain ⟨y0, y1, y2, y3, y4, y5⟩ := t
        have s0 := cs 0 x0 rfl
        have t0 := ct 0 y0 rfl
        have s1 := cs 1 x1 rfl
        have t1 := ct 1 y1 rfl
        have s2 := cs 2 x2 rfl
        have t2 := ct 2 y2 rfl
        have s3 := cs 3 x3 rfl
        have t3 := ct 3 y3 rfl
        have s4 := cs 4 x4 rfl
        have t4 := ct 4 y4 rfl
        have s5 := cs 5 x5 rfl
        have t5 := ct 5 y5 rfl
        simp only [Nat.add_zero] at s0 t0
        have hq := fun w => fire_neq x0 x1 x2 x3 x4 x5 y0 y1 y2 y3 y4 y5 w
        clear cs ct
        have HS := Lib.hid hs
        have HT := Lib.hid ht
        have hlt2 : k < M.length := by omega
        clear hs ht hc hc2 hcell hcell2
        by_cases hp : (⟨x0, x1, x2, x3, x4, x5⟩ : FireV) = ⟨y0, y1, y2, y3, y4, y5⟩
        · rw [decide_eq_true hp] at hq
          have HP := Lib.hid hp
          clear hp
          go_wp2_with fail
          go_quiet (fail)
          go_wp2_with fail
          go_roundw
          case rel => exact ⟨k + 1, m + nq, by omega, by go_num, rfl, fun j t hj hjt => by
            rcases Nat.lt_or_ge j k with h | h
            · exact A.out j t h hjt
            · obtain rfl : j = k := by omega
              rw [HS.out] at hjt
              obtain rfl := Option.some.inj hjt
              rw [HT.out, HP.out]⟩
          case measure => simp [intOf]; omega
        · rw [decide_eq_false hp] at hq
          have HE := Lib.hid (show decide (L = M) = false from decide_eq_false (ne_atG HS.out HT.out hp))
          clear hp
          go_wp2_with fail
          go_quiet (fail)
          go_wp2_with fail
          go_ret
          exact ⟨by rw [HE.out]; rfl, m + nq, by rw [World.drewN_drewN]⟩
      · have HE := Lib.hid (show decide (L = M) = true from decide_eq_true (eq_allG hl fun j s hj => A.out j s (by omega)))
        go_wp2_with fail
        go_ret
        exact ⟨by rw [HE.out]; rfl, m, rfl⟩
  · have HE := Lib.hid (show decide (L = M) = false from decide_eq_false fun e => hl (by rw [e]))
    have hl' : ¬ (L.length : Int) = (M.length : Int) := by omega
    have hb1 : ((L.length : Int) == (M.length : Int)) = false := by simpa using hl'
    have hb2 : ((L.length : Int) != (M.length : Int)) = true := by simpa using hl'
    go_enter Tryz.func32, Tryz.ntmps32
    go_wp2_with fail
    go_ret
    exact ⟨by rw [HE.out]; rfl, 0, rfl⟩

set_option maxRecDepth 100000 in
set_option maxHeartbeats 4000000 in

theorem qwsame_lit {w : World} {k dst fn fl ep seq req cl id un : Int} {flag : Bool} {ok a1 a2 a3 a4 a5 a6 a7 a8 : Int} {oc : List UInt8} {re rg rd ce life : Int} {ch : List SeatV} {fires : List FireV} {va ua : Option Addr} {vc uc : Nat}
    {yk ydst yfn yfl yep yseq yreq ycl yid yun : Int} {yflag : Bool} {yok ya1 ya2 ya3 ya4 ya5 ya6 ya7 ya8 : Int} {yoc : List UInt8} {yre yrg yrd yce ylife : Int} {ych : List SeatV} {yfires : List FireV} {yva yua : Option Addr} {yvc yuc : Nat}
    (hv1 : ChainAt w (.slice va ch.length vc) ch) (hv2 : FiresAt w (.slice ua fires.length uc) fires) (hu1 : ChainAt w (.slice yva ych.length yvc) ych) (hu2 : FiresAt w (.slice yua yfires.length yuc) yfires)
    {q : Bool} (hq : q = decide ((⟨k, dst, fn, fl, ep, seq, req, cl, id, un, flag, ⟨ok, [a1, a2, a3, a4, a5, a6, a7, a8], oc⟩, re, rg, rd, ⟨ce, ch⟩, fires, life⟩ : MsgV) = ⟨yk, ydst, yfn, yfl, yep, yseq, yreq, ycl, yid, yun, yflag, ⟨yok, [ya1, ya2, ya3, ya4, ya5, ya6, ya7, ya8], yoc⟩, yre, yrg, yrd, ⟨yce, ych⟩, yfires, ylife⟩)) :
    Calls Tryz.prog 14 #[.agg #[.int .i64 k, .int .i64 dst, .int .i64 fn, .int .i64 fl, .int .i64 ep, .int .i64 seq, .int .i64 req, .int .i64 cl, .int .i64 id, .int .i64 un, .bool flag, .int .i64 ok, .int .i64 a1, .int .i64 a2, .int .i64 a3, .int .i64 a4, .int .i64 a5, .int .i64 a6, .int .i64 a7, .int .i64 a8, .string ⟨oc.toArray⟩, .int .i64 re, .int .i64 rg, .int .i64 rd, .int .i64 ce, .slice va ch.length vc, .slice ua fires.length uc, .int .i64 life], .agg #[.int .i64 yk, .int .i64 ydst, .int .i64 yfn, .int .i64 yfl, .int .i64 yep, .int .i64 yseq, .int .i64 yreq, .int .i64 ycl, .int .i64 yid, .int .i64 yun, .bool yflag, .int .i64 yok, .int .i64 ya1, .int .i64 ya2, .int .i64 ya3, .int .i64 ya4, .int .i64 ya5, .int .i64 ya6, .int .i64 ya7, .int .i64 ya8, .string ⟨yoc.toArray⟩, .int .i64 yre, .int .i64 yrg, .int .i64 yrd, .int .i64 yce, .slice yva ych.length yvc, .slice yua yfires.length yuc, .int .i64 ylife]] w fun en w' => en = .returned (.bool q) ∧ Below w.heap.size w w' := by
  have HQ := Lib.hid hq
  clear hq
  go_enter Tryz.func14, Tryz.ntmps14
  go_upto_region 1 with (fail)
  have hA : BlkAt ((w.alloc (.cells #[.int .i64 k, .int .i64 dst, .int .i64 fn, .int .i64 fl, .int .i64 ep, .int .i64 seq, .int .i64 req, .int .i64 cl, .int .i64 id, .int .i64 un, .bool flag, .int .i64 ok, .int .i64 a1, .int .i64 a2, .int .i64 a3, .int .i64 a4, .int .i64 a5, .int .i64 a6, .int .i64 a7, .int .i64 a8, .string ⟨oc.toArray⟩, .int .i64 re, .int .i64 rg, .int .i64 rd, .int .i64 ce, .slice va ch.length vc, .slice ua fires.length uc, .int .i64 life] 40)).alloc (.cells #[.int .i64 yk, .int .i64 ydst, .int .i64 yfn, .int .i64 yfl, .int .i64 yep, .int .i64 yseq, .int .i64 yreq, .int .i64 ycl, .int .i64 yid, .int .i64 yun, .bool yflag, .int .i64 yok, .int .i64 ya1, .int .i64 ya2, .int .i64 ya3, .int .i64 ya4, .int .i64 ya5, .int .i64 ya6, .int .i64 ya7, .int .i64 ya8, .string ⟨yoc.toArray⟩, .int .i64 yre, .int .i64 yrg, .int .i64 yrd, .int .i64 yce, .slice yva ych.length yvc, .slice yua yfires.length yuc, .int .i64 ylife] 40)) w.heap.size 40 [.int .i64 k, .int .i64 dst, .int .i64 fn, .int .i64 fl, .int .i64 ep, .int .i64 seq, .int .i64 req, .int .i64 cl, .int .i64 id, .int .i64 un, .bool flag, .int .i64 ok, .int .i64 a1, .int .i64 a2, .int .i64 a3, .int .i64 a4, .int .i64 a5, .int .i64 a6, .int .i64 a7, .int .i64 a8, .string ⟨oc.toArray⟩, .int .i64 re, .int .i64 rg, .int .i64 rd, .int .i64 ce, .slice va ch.length vc, .slice ua fires.length uc, .int .i64 life] := (BlkAt.new w 40 [.int .i64 k, .int .i64 dst, .int .i64 fn, .int .i64 fl, .int .i64 ep, .int .i64 seq, .int .i64 req, .int .i64 cl, .int .i64 id, .int .i64 un, .bool flag, .int .i64 ok, .int .i64 a1, .int .i64 a2, .int .i64 a3, .int .i64 a4, .int .i64 a5, .int .i64 a6, .int .i64 a7, .int .i64 a8, .string ⟨oc.toArray⟩, .int .i64 re, .int .i64 rg, .int .i64 rd, .int .i64 ce, .slice va ch.length vc, .slice ua fires.length uc, .int .i64 life]).alloc _
  have hB : BlkAt ((w.alloc (.cells #[.int .i64 k, .int .i64 dst, .int .i64 fn, .int .i64 fl, .int .i64 ep, .int .i64 seq, .int .i64 req, .int .i64 cl, .int .i64 id, .int .i64 un, .bool flag, .int .i64 ok, .int .i64 a1, .int .i64 a2, .int .i64 a3, .int .i64 a4, .int .i64 a5, .int .i64 a6, .int .i64 a7, .int .i64 a8, .string ⟨oc.toArray⟩, .int .i64 re, .int .i64 rg, .int .i64 rd, .int .i64 ce, .slice va ch.length vc, .slice ua fires.length uc, .int .i64 life] 40)).alloc (.cells #[.int .i64 yk, .int .i64 ydst, .int .i64 yfn, .int .i64 yfl, .int .i64 yep, .int .i64 yseq, .int .i64 yreq, .int .i64 ycl, .int .i64 yid, .int .i64 yun, .bool yflag, .int .i64 yok, .int .i64 ya1, .int .i64 ya2, .int .i64 ya3, .int .i64 ya4, .int .i64 ya5, .int .i64 ya6, .int .i64 ya7, .int .i64 ya8, .string ⟨yoc.toArray⟩, .int .i64 yre, .int .i64 yrg, .int .i64 yrd, .int .i64 yce, .slice yva ych.length yvc, .slice yua yfires.length yuc, .int .i64 ylife] 40)) (w.heap.size + 1) 40 [.int .i64 yk, .int .i64 ydst, .int .i64 yfn, .int .i64 yfl, .int .i64 yep, .int .i64 yseq, .int .i64 yreq, .int .i64 ycl, .int .i64 yid, .int .i64 yun, .bool yflag, .int .i64 yok, .int .i64 ya1, .int .i64 ya2, .int .i64 ya3, .int .i64 ya4, .int .i64 ya5, .int .i64 ya6, .int .i64 ya7, .int .i64 ya8, .string ⟨yoc.toArray⟩, .int .i64 yre, .int .i64 yrg, .int .i64 yrd, .int .i64 yce, .slice yva ych.length yvc, .slice yua yfires.length yuc, .int .i64 ylife] := BlkAt.newAt (by simp) 40 [.int .i64 yk, .int .i64 ydst, .int .i64 yfn, .int .i64 yfl, .int .i64 yep, .int .i64 yseq, .int .i64 yreq, .int .i64 ycl, .int .i64 yid, .int .i64 yun, .bool yflag, .int .i64 yok, .int .i64 ya1, .int .i64 ya2, .int .i64 ya3, .int .i64 ya4, .int .i64 ya5, .int .i64 ya6, .int .i64 ya7, .int .i64 ya8, .string ⟨yoc.toArray⟩, .int .i64 yre, .int .i64 yrg, .int .i64 yrd, .int .i64 yce, .slice yva ych.length yvc, .slice yua yfires.length yuc, .int .i64 ylife]
  have hb : Below w.heap.size w ((w.alloc (.cells #[.int .i64 k, .int .i64 dst, .int .i64 fn, .int .i64 fl, .int .i64 ep, .int .i64 seq, .int .i64 req, .int .i64 cl, .int .i64 id, .int .i64 un, .bool flag, .int .i64 ok, .int .i64 a1, .int .i64 a2, .int .i64 a3, .int .i64 a4, .int .i64 a5, .int .i64 a6, .int .i64 a7, .int .i64 a8, .string ⟨oc.toArray⟩, .int .i64 re, .int .i64 rg, .int .i64 rd, .int .i64 ce, .slice va ch.length vc, .slice ua fires.length uc, .int .i64 life] 40)).alloc (.cells #[.int .i64 yk, .int .i64 ydst, .int .i64 yfn, .int .i64 yfl, .int .i64 yep, .int .i64 yseq, .int .i64 yreq, .int .i64 ycl, .int .i64 yid, .int .i64 yun, .bool yflag, .int .i64 yok, .int .i64 ya1, .int .i64 ya2, .int .i64 ya3, .int .i64 ya4, .int .i64 ya5, .int .i64 ya6, .int .i64 ya7, .int .i64 ya8, .string ⟨yoc.toArray⟩, .int .i64 yre, .int .i64 yrg, .int .i64 yrd, .int .i64 yce, .slice yva ych.length yvc, .slice yua yfires.length yuc, .int .i64 ylife] 40)) := ((Below.refl w.heap.size w).alloc (Nat.le_refl _) _).alloc (by simp) _
  have hWs : w.heap.size + 2 ≤ ((w.alloc (.cells #[.int .i64 k, .int .i64 dst, .int .i64 fn, .int .i64 fl, .int .i64 ep, .int .i64 seq, .int .i64 req, .int .i64 cl, .int .i64 id, .int .i64 un, .bool flag, .int .i64 ok, .int .i64 a1, .int .i64 a2, .int .i64 a3, .int .i64 a4, .int .i64 a5, .int .i64 a6, .int .i64 a7, .int .i64 a8, .string ⟨oc.toArray⟩, .int .i64 re, .int .i64 rg, .int .i64 rd, .int .i64 ce, .slice va ch.length vc, .slice ua fires.length uc, .int .i64 life] 40)).alloc (.cells #[.int .i64 yk, .int .i64 ydst, .int .i64 yfn, .int .i64 yfl, .int .i64 yep, .int .i64 yseq, .int .i64 yreq, .int .i64 ycl, .int .i64 yid, .int .i64 yun, .bool yflag, .int .i64 yok, .int .i64 ya1, .int .i64 ya2, .int .i64 ya3, .int .i64 ya4, .int .i64 ya5, .int .i64 ya6, .int .i64 ya7, .int .i64 ya8, .string ⟨yoc.toArray⟩, .int .i64 yre, .int .i64 yrg, .int .i64 yrd, .int .i64 yce, .slice yva ych.length yvc, .slice yua yfires.length yuc, .int .i64 ylife] 40)).heap.size := by simp
  change Code.wp _ _ _ _ ((w.alloc (.cells #[.int .i64 k, .int .i64 dst, .int .i64 fn, .int .i64 fl, .int .i64 ep, .int .i64 seq, .int .i64 req, .int .i64 cl, .int .i64 id, .int .i64 un, .bool flag, .int .i64 ok, .int .i64 a1, .int .i64 a2, .int .i64 a3, .int .i64 a4, .int .i64 a5, .int .i64 a6, .int .i64 a7, .int .i64 a8, .string ⟨oc.toArray⟩, .int .i64 re, .int .i64 rg, .int .i64 rd, .int .i64 ce, .slice va ch.length vc, .slice ua fires.length uc, .int .i64 life] 40)).alloc (.cells #[.int .i64 yk, .int .i64 ydst, .int .i64 yfn, .int .i64 yfl, .int .i64 yep, .int .i64 yseq, .int .i64 yreq, .int .i64 ycl, .int .i64 yid, .int .i64 yun, .bool yflag, .int .i64 yok, .int .i64 ya1, .int .i64 ya2, .int .i64 ya3, .int .i64 ya4, .int .i64 ya5, .int .i64 ya6, .int .i64 ya7, .int .i64 ya8, .string ⟨yoc.toArray⟩, .int .i64 yre, .int .i64 yrg, .int .i64 yrd, .int .i64 yce, .slice yva ych.length yvc, .slice yua yfires.length yuc, .int .i64 ylife] 40))
  generalize (w.alloc (.cells #[.int .i64 k, .int .i64 dst, .int .i64 fn, .int .i64 fl, .int .i64 ep, .int .i64 seq, .int .i64 req, .int .i64 cl, .int .i64 id, .int .i64 un, .bool flag, .int .i64 ok, .int .i64 a1, .int .i64 a2, .int .i64 a3, .int .i64 a4, .int .i64 a5, .int .i64 a6, .int .i64 a7, .int .i64 a8, .string ⟨oc.toArray⟩, .int .i64 re, .int .i64 rg, .int .i64 rd, .int .i64 ce, .slice va ch.length vc, .slice ua fires.length uc, .int .i64 life] 40)).alloc (.cells #[.int .i64 yk, .int .i64 ydst, .int .i64 yfn, .int .i64 yfl, .int .i64 yep, .int .i64 yseq, .int .i64 yreq, .int .i64 ycl, .int .i64 yid, .int .i64 yun, .bool yflag, .int .i64 yok, .int .i64 ya1, .int .i64 ya2, .int .i64 ya3, .int .i64 ya4, .int .i64 ya5, .int .i64 ya6, .int .i64 ya7, .int .i64 ya8, .string ⟨yoc.toArray⟩, .int .i64 yre, .int .i64 yrg, .int .i64 yrd, .int .i64 yce, .slice yva ych.length yvc, .slice yua yfires.length yuc, .int .i64 ylife] 40) = W at *
  have hnn : w.heap.size ≤ w.heap.size + 1 := by omega
  have hnb : w.heap.size + 1 < w.heap.size + 2 := by omega
  have hn0 : w.heap.size + 1 ≠ w.heap.size := by omega
  generalize hnd : w.heap.size + 1 = n at *
  have hv1 := hv1.below hb
  have hv2 := hv2.below hb
  have hu1 := hu1.below hb
  have hu2 := hu2.below hb
  have ma0 : W.cell? ⟨w.heap.size, 0, none⟩ = some (.int .i64 k) := hA.cell rfl
  have mb0 : W.cell? ⟨n, 0, none⟩ = some (.int .i64 yk) := hB.cell rfl
  have ma1 : W.cell? ⟨w.heap.size, 1, none⟩ = some (.int .i64 dst) := hA.cell rfl
  have mb1 : W.cell? ⟨n, 1, none⟩ = some (.int .i64 ydst) := hB.cell rfl
  have ma2 : W.cell? ⟨w.heap.size, 2, none⟩ = some (.int .i64 fn) := hA.cell rfl
  have mb2 : W.cell? ⟨n, 2, none⟩ = some (.int .i64 yfn) := hB.cell rfl
  have ma3 : W.cell? ⟨w.heap.size, 3, none⟩ = some (.int .i64 fl) := hA.cell rfl
  have mb3 : W.cell? ⟨n, 3, none⟩ = some (.int .i64 yfl) := hB.cell rfl
  have ma4 : W.cell? ⟨w.heap.size, 4, none⟩ = some (.int .i64 ep) := hA.cell rfl
  have mb4 : W.cell? ⟨n, 4, none⟩ = some (.int .i64 yep) := hB.cell rfl
  have ma5 : W.cell? ⟨w.heap.size, 5, none⟩ = some (.int .i64 seq) := hA.cell rfl
  have mb5 : W.cell? ⟨n, 5, none⟩ = some (.int .i64 yseq) := hB.cell rfl
  have ma6 : W.cell? ⟨w.heap.size, 6, none⟩ = some (.int .i64 req) := hA.cell rfl
  have mb6 : W.cell? ⟨n, 6, none⟩ = some (.int .i64 yreq) := hB.cell rfl
  have ma7 : W.cell? ⟨w.heap.size, 7, none⟩ = some (.int .i64 cl) := hA.cell rfl
  have mb7 : W.cell? ⟨n, 7, none⟩ = some (.int .i64 ycl) := hB.cell rfl
  have ma8 : W.cell? ⟨w.heap.size, 8, none⟩ = some (.int .i64 id) := hA.cell rfl
  have mb8 : W.cell? ⟨n, 8, none⟩ = some (.int .i64 yid) := hB.cell rfl
  by_cases ck : k = yk
  · have bk : (k != yk) = false := by simpa using ck
    have Hk := Lib.hid ck
    clear ck
    by_cases cdst : dst = ydst
    · have bdst : (dst != ydst) = false := by simpa using cdst
      have Hdst := Lib.hid cdst
      clear cdst
      by_cases cmem : fn = yfn ∧ fl = yfl
      · have bmem := fun w => mem_neq fn fl yfn yfl w
        rw [show (!(fn == yfn && fl == yfl)) = false by simpa using cmem] at bmem
        have Hmem := Lib.hid cmem
        clear cmem
        by_cases cep : ep = yep
        · have bep : (ep != yep) = false := by simpa using cep
          have Hep := Lib.hid cep
          clear cep
          by_cases cseq : seq = yseq
          · have bseq : (seq != yseq) = false := by simpa using cseq
            have Hseq := Lib.hid cseq
            clear cseq
            by_cases creq : req = yreq
            · have breq : (req != yreq) = false := by simpa using creq
              have Hreq := Lib.hid creq
              clear creq
              by_cases ccl : cl = ycl
              · have bcl : (cl != ycl) = false := by simpa using ccl
                have Hcl := Lib.hid ccl
                clear ccl
                by_cases cid : id = yid
                · have bid : (id != yid) = false := by simpa using cid
                  have Hid_ := Lib.hid cid
                  clear cid
                  go_upto_region 3 with (fail)
                  clear ma0 mb0 ma1 mb1 ma2 mb2 ma3 mb3 ma4 mb4 ma5 mb5 ma6 mb6 ma7 mb7 ma8 mb8
                  have ma9 : W.cell? ⟨w.heap.size, 9, none⟩ = some (.int .i64 un) := hA.cell rfl
                  have mb9 : W.cell? ⟨n, 9, none⟩ = some (.int .i64 yun) := hB.cell rfl
                  have ma10 : W.cell? ⟨w.heap.size, 10, none⟩ = some (.bool flag) := hA.cell rfl
                  have mb10 : W.cell? ⟨n, 10, none⟩ = some (.bool yflag) := hB.cell rfl
                  have ma11 : W.cell? ⟨w.heap.size, 11, none⟩ = some (.int .i64 ok) := hA.cell rfl
                  have mb11 : W.cell? ⟨n, 11, none⟩ = some (.int .i64 yok) := hB.cell rfl
                  have ma12 : W.cell? ⟨w.heap.size, 12, none⟩ = some (.int .i64 a1) := hA.cell rfl
                  have mb12 : W.cell? ⟨n, 12, none⟩ = some (.int .i64 ya1) := hB.cell rfl
                  have ma13 : W.cell? ⟨w.heap.size, 13, none⟩ = some (.int .i64 a2) := hA.cell rfl
                  have mb13 : W.cell? ⟨n, 13, none⟩ = some (.int .i64 ya2) := hB.cell rfl
                  have ma14 : W.cell? ⟨w.heap.size, 14, none⟩ = some (.int .i64 a3) := hA.cell rfl
                  have mb14 : W.cell? ⟨n, 14, none⟩ = some (.int .i64 ya3) := hB.cell rfl
                  have ma15 : W.cell? ⟨w.heap.size, 15, none⟩ = some (.int .i64 a4) := hA.cell rfl
                  have mb15 : W.cell? ⟨n, 15, none⟩ = some (.int .i64 ya4) := hB.cell rfl
                  have ma16 : W.cell? ⟨w.heap.size, 16, none⟩ = some (.int .i64 a5) := hA.cell rfl
                  have mb16 : W.cell? ⟨n, 16, none⟩ = some (.int .i64 ya5) := hB.cell rfl
                  have ma17 : W.cell? ⟨w.heap.size, 17, none⟩ = some (.int .i64 a6) := hA.cell rfl
                  have mb17 : W.cell? ⟨n, 17, none⟩ = some (.int .i64 ya6) := hB.cell rfl
                  have ma18 : W.cell? ⟨w.heap.size, 18, none⟩ = some (.int .i64 a7) := hA.cell rfl
                  have mb18 : W.cell? ⟨n, 18, none⟩ = some (.int .i64 ya7) := hB.cell rfl
                  have ma19 : W.cell? ⟨w.heap.size, 19, none⟩ = some (.int .i64 a8) := hA.cell rfl
                  have mb19 : W.cell? ⟨n, 19, none⟩ = some (.int .i64 ya8) := hB.cell rfl
                  have ma20 : W.cell? ⟨w.heap.size, 20, none⟩ = some (.string ⟨oc.toArray⟩) := hA.cell rfl
                  have mb20 : W.cell? ⟨n, 20, none⟩ = some (.string ⟨yoc.toArray⟩) := hB.cell rfl
                  have ma21 : W.cell? ⟨w.heap.size, 21, none⟩ = some (.int .i64 re) := hA.cell rfl
                  have mb21 : W.cell? ⟨n, 21, none⟩ = some (.int .i64 yre) := hB.cell rfl
                  have ma22 : W.cell? ⟨w.heap.size, 22, none⟩ = some (.int .i64 rg) := hA.cell rfl
                  have mb22 : W.cell? ⟨n, 22, none⟩ = some (.int .i64 yrg) := hB.cell rfl
                  have ma23 : W.cell? ⟨w.heap.size, 23, none⟩ = some (.int .i64 rd) := hA.cell rfl
                  have mb23 : W.cell? ⟨n, 23, none⟩ = some (.int .i64 yrd) := hB.cell rfl
                  have ma24 : W.cell? ⟨w.heap.size, 24, none⟩ = some (.int .i64 ce) := hA.cell rfl
                  have mb24 : W.cell? ⟨n, 24, none⟩ = some (.int .i64 yce) := hB.cell rfl
                  have ma25 : W.cell? ⟨w.heap.size, 25, none⟩ = some (.slice va ch.length vc) := hA.cell rfl
                  have mb25 : W.cell? ⟨n, 25, none⟩ = some (.slice yva ych.length yvc) := hB.cell rfl
                  have ma26 : W.cell? ⟨w.heap.size, 26, none⟩ = some (.slice ua fires.length uc) := hA.cell rfl
                  have mb26 : W.cell? ⟨n, 26, none⟩ = some (.slice yua yfires.length yuc) := hB.cell rfl
                  have ma27 : W.cell? ⟨w.heap.size, 27, none⟩ = some (.int .i64 life) := hA.cell rfl
                  have mb27 : W.cell? ⟨n, 27, none⟩ = some (.int .i64 ylife) := hB.cell rfl
                  by_cases cun : un = yun
                  · have bun : (un == yun) = true := by simpa using cun
                    have Hun := Lib.hid cun
                    clear cun
                    by_cases cflag : flag = yflag
                    · have bflag : (flag == yflag) = true := by simpa using cflag
                      have Hflag := Lib.hid cflag
                      clear cflag
                      by_cases cop : (⟨ok, [a1, a2, a3, a4, a5, a6, a7, a8], oc⟩ : OpV) = ⟨yok, [ya1, ya2, ya3, ya4, ya5, ya6, ya7, ya8], yoc⟩
                      · have bop := fun w => op_eql ok a1 a2 a3 a4 a5 a6 a7 a8 yok ya1 ya2 ya3 ya4 ya5 ya6 ya7 ya8 oc yoc w
                        rw [decide_eq_true cop] at bop
                        have Hop := Lib.hid cop
                        clear cop
                        by_cases crep : re = yre ∧ rg = yrg ∧ rd = yrd
                        · have brep := fun w => reply_eql re rg rd yre yrg yrd w
                          rw [decide_eq_true crep] at brep
                          have Hrep := Lib.hid crep
                          clear crep
                          by_cases cc : ce = yce ∧ ch = ych
                          · have HD := Lib.hid (show (ce == yce && decide (ch = ych)) = true by rw [cc.1, decide_eq_true cc.2]; simp)
                            have HCC := Lib.hid cc
                            clear cc
                            go_wp2_with fail
                            refine (qcsame_any (by exact hv1) (by exact hu1)).mono ?_
                            rintro en w3 ⟨rfl, b3⟩
                            rw [HD.out]
                            have hA3 := hA.below b3
                            have hB3 := hB.below b3
                            have hv3 := hv2.below b3
                            have hu3 := hu2.below b3
                            have hb3 := below_step hb b3
                            clear ma9 mb9 ma10 mb10 ma11 mb11 ma12 mb12 ma13 mb13 ma14 mb14 ma15 mb15 ma16 mb16 ma17 mb17 ma18 mb18 ma19 mb19 ma20 mb20 ma21 mb21 ma22 mb22 ma23 mb23 ma24 mb24 ma25 mb25 ma26 mb26 ma27 mb27 b3
                            have ma26 : w3.cell? ⟨w.heap.size, 26, none⟩ = some (.slice ua fires.length uc) := hA3.cell rfl
                            have mb26 : w3.cell? ⟨n, 26, none⟩ = some (.slice yua yfires.length yuc) := hB3.cell rfl
                            have ma27 : w3.cell? ⟨w.heap.size, 27, none⟩ = some (.int .i64 life) := hA3.cell rfl
                            have mb27 : w3.cell? ⟨n, 27, none⟩ = some (.int .i64 ylife) := hB3.cell rfl
                            clear hA hB hv1 hu1 hv2 hu2 hb
                            by_cases cf : fires = yfires
                            · have HDF := Lib.hid (decide_eq_true cf)
                              have HCF := Lib.hid cf
                              clear cf
                              go_wp2_with fail
                              refine (qsamefires_any (by exact hv3) (by exact hu3)).mono ?_
                              rintro en w4 ⟨rfl, nq, rfl⟩
                              rw [HDF.out]
                              have hb := below_drewN hb3 nq
                              have ma27 : (w3.drewN nq).cell? ⟨w.heap.size, 27, none⟩ = some (.int .i64 life) := ma27
                              have mb27 : (w3.drewN nq).cell? ⟨n, 27, none⟩ = some (.int .i64 ylife) := mb27
                              by_cases clife : life = ylife
                              · have blife : (life == ylife) = true := by simpa using clife
                                have HE := Lib.hid (show q = true from HQ.out.trans (decide_eq_true (by
                                  have hk := Hk.out; have hd := Hdst.out; have h1 := Hmem.out.1; have h2 := Hmem.out.2; have h3 := Hep.out; have h4 := Hseq.out; have h5 := Hreq.out; have h6 := Hcl.out; have h7 := Hid_.out; have h8 := Hun.out; have h9 := Hflag.out; have h10 := Hop.out; have h11 := Hrep.out; have h12 := HCC.out; have h13 := HCF.out
                                  rw [hk, hd, h1, h2, h3, h4, h5, h6, h7, h8, h9, h10, h11.1, h11.2.1, h11.2.2, h12.1, h12.2, h13, clife])))
                                clear clife
                                go_wp2_with fail
                                go_ret
                                exact ⟨by rw [HE.out]; rfl, hb⟩
                              · have blife : (life == ylife) = false := by simpa using clife
                                have HE := Lib.hid (show q = false from HQ.out.trans (decide_eq_false (fun h => clife (congrArg MsgV.life h))))
                                clear clife
                                go_wp2_with fail
                                go_ret
                                exact ⟨by rw [HE.out]; rfl, hb⟩
                            · have HDF := Lib.hid (decide_eq_false cf)
                              have HE := Lib.hid (show q = false from HQ.out.trans (decide_eq_false (fun h => cf (congrArg MsgV.fires h))))
                              clear cf
                              go_wp2_with fail
                              refine (qsamefires_any (by exact hv3) (by exact hu3)).mono ?_
                              rintro en w4 ⟨rfl, nq, rfl⟩
                              rw [HDF.out]
                              have hb := below_drewN hb3 nq
                              go_wp2_with fail
                              go_ret
                              exact ⟨by rw [HE.out]; rfl, hb⟩
                          · have HD := Lib.hid (show (ce == yce && decide (ch = ych)) = false by rw [Bool.eq_false_iff]; simpa using cc)
                            have HE := Lib.hid (show q = false from HQ.out.trans (decide_eq_false (fun h => cc ⟨congrArg (fun m : MsgV => m.cf.epoch) h, congrArg (fun m : MsgV => m.cf.chain) h⟩)))
                            clear cc
                            go_wp2_with fail
                            refine (qcsame_any (by exact hv1) (by exact hu1)).mono ?_
                            rintro en w3 ⟨rfl, b3⟩
                            rw [HD.out]
                            have hb := below_step hb b3
                            go_wp2_with fail
                            go_ret
                            exact ⟨by rw [HE.out]; rfl, hb⟩
                        · have brep := fun w => reply_eql re rg rd yre yrg yrd w
                          rw [decide_eq_false crep] at brep
                          have HE := Lib.hid (show q = false from HQ.out.trans (decide_eq_false (fun h => crep ⟨congrArg MsgV.re h, congrArg MsgV.rg h, congrArg MsgV.rd h⟩)))
                          clear crep
                          go_wp2_with fail
                          go_ret
                          exact ⟨by rw [HE.out]; rfl, hb⟩
                      · have bop := fun w => op_eql ok a1 a2 a3 a4 a5 a6 a7 a8 yok ya1 ya2 ya3 ya4 ya5 ya6 ya7 ya8 oc yoc w
                        rw [decide_eq_false cop] at bop
                        have HE := Lib.hid (show q = false from HQ.out.trans (decide_eq_false (fun h => cop (congrArg MsgV.op h))))
                        clear cop
                        go_wp2_with fail
                        go_ret
                        exact ⟨by rw [HE.out]; rfl, hb⟩
                    · have bflag : (flag == yflag) = false := by simpa using cflag
                      have HE := Lib.hid (show q = false from HQ.out.trans (decide_eq_false (fun h => cflag (congrArg MsgV.flag h))))
                      clear cflag
                      go_wp2_with fail
                      go_ret
                      exact ⟨by rw [HE.out]; rfl, hb⟩
                  · have bun : (un == yun) = false := by simpa using cun
                    have HE := Lib.hid (show q = false from HQ.out.trans (decide_eq_false (fun h => cun (congrArg MsgV.un h))))
                    clear cun
                    go_wp2_with fail
                    go_ret
                    exact ⟨by rw [HE.out]; rfl, hb⟩
                · have bid : (id != yid) = true := by simpa using cid
                  have HE := Lib.hid (show q = false from HQ.out.trans (decide_eq_false (fun h => cid (congrArg MsgV.id h))))
                  clear cid
                  go_wp2_with fail
                  go_ret
                  exact ⟨by rw [HE.out]; rfl, hb⟩
              · have bcl : (cl != ycl) = true := by simpa using ccl
                have HE := Lib.hid (show q = false from HQ.out.trans (decide_eq_false (fun h => ccl (congrArg MsgV.cl h))))
                clear ccl
                go_wp2_with fail
                go_ret
                exact ⟨by rw [HE.out]; rfl, hb⟩
            · have breq : (req != yreq) = true := by simpa using creq
              have HE := Lib.hid (show q = false from HQ.out.trans (decide_eq_false (fun h => creq (congrArg MsgV.req h))))
              clear creq
              go_wp2_with fail
              go_ret
              exact ⟨by rw [HE.out]; rfl, hb⟩
          · have bseq : (seq != yseq) = true := by simpa using cseq
            have HE := Lib.hid (show q = false from HQ.out.trans (decide_eq_false (fun h => cseq (congrArg MsgV.seq h))))
            clear cseq
            go_wp2_with fail
            go_ret
            exact ⟨by rw [HE.out]; rfl, hb⟩
        · have bep : (ep != yep) = true := by simpa using cep
          have HE := Lib.hid (show q = false from HQ.out.trans (decide_eq_false (fun h => cep (congrArg MsgV.ep h))))
          clear cep
          go_wp2_with fail
          go_ret
          exact ⟨by rw [HE.out]; rfl, hb⟩
      · have bmem := fun w => mem_neq fn fl yfn yfl w
        rw [show (!(fn == yfn && fl == yfl)) = true by rw [show (fn == yfn && fl == yfl) = false by rw [Bool.eq_false_iff]; simpa using cmem]; rfl] at bmem
        have HE := Lib.hid (show q = false from HQ.out.trans (decide_eq_false (fun h => cmem ⟨congrArg MsgV.fn h, congrArg MsgV.fl h⟩)))
        clear cmem
        go_wp2_with fail
        go_ret
        exact ⟨by rw [HE.out]; rfl, hb⟩
    · have bdst : (dst != ydst) = true := by simpa using cdst
      have HE := Lib.hid (show q = false from HQ.out.trans (decide_eq_false (fun h => cdst (congrArg MsgV.dst h))))
      clear cdst
      go_wp2_with fail
      go_ret
      exact ⟨by rw [HE.out]; rfl, hb⟩
  · have bk : (k != yk) = true := by simpa using ck
    have HE := Lib.hid (show q = false from HQ.out.trans (decide_eq_false (fun h => ck (congrArg MsgV.kind h))))
    clear ck
    go_wp2_with fail
    go_ret
    exact ⟨by rw [HE.out]; rfl, hb⟩
theorem qwsame_any {w : World} {M K : MsgV} {v u : Value} (hv : M.At w v) (hu : K.At w u) (hM : M.op.v.length = 8) (hK : K.op.v.length = 8) :
    Calls Tryz.prog 14 #[v, u] w fun en w' => en = .returned (.bool (decide (M = K))) ∧ Below w.heap.size w w' := by
  obtain ⟨v1, v2, rfl, ⟨va, vc, rfl, hc⟩, ⟨ua, uc, rfl, hf⟩⟩ := hv
  obtain ⟨u1, u2, rfl, ⟨yva, yvc, rfl, hc'⟩, ⟨yua, yuc, rfl, hf'⟩⟩ := hu
  obtain ⟨k, dst, fn, fl, ep, seq, req, cl, id, un, flag, op, re, rg, rd, cf, fires, life⟩ := M
  obtain ⟨ok, ov, oc⟩ := op
  obtain ⟨a1, a2, a3, a4, a5, a6, a7, a8, rfl⟩ := list8 hM
  obtain ⟨ce, ch⟩ := cf
  obtain ⟨yk, ydst, yfn, yfl, yep, yseq, yreq, ycl, yid, yun, yflag, yop, yre, yrg, yrd, ycf, yfires, ylife⟩ := K
  obtain ⟨yok, yov, yoc⟩ := yop
  obtain ⟨b1, b2, b3, b4, b5, b6, b7, b8, rfl⟩ := list8 hK
  obtain ⟨yce, ych⟩ := ycf
  exact qwsame_lit ⟨va, vc, rfl, hc⟩ ⟨ua, uc, rfl, hf⟩ ⟨yva, yvc, rfl, hc'⟩ ⟨yua, yuc, rfl, hf'⟩ rfl
end Go.Proofs.YtnaabaahfjklhaaGreat
