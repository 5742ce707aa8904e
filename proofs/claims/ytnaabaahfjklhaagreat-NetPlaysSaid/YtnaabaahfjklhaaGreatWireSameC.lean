/- Whether two messages are the same: the code's Same. -/
import Derived.Test.YtnaabaahfjklhaaGreatWireEqual
import Derived.Deep.DeepCutAuto
namespace Go.Proofs.YtnaabaahfjklhaaGreat
open Go.RowKit Go.ChangeShapes Go.WideShapes Go.Joins Go.Deep
set_option linter.unusedVariables false

set_option maxRecDepth 100000 in
set_option maxHeartbeats 4000000 in

theorem wsame_lit {w : World} {k dst fn fl ep seq req cl id un : Int} {flag : Bool} {ok a1 a2 a3 a4 a5 a6 a7 a8 : Int} {oc : List UInt8} {re rg rd ce life : Int} {ch : List SeatV} {fires : List FireV} {va ua : Option Addr} {vc uc : Nat}
    {yk ydst yfn yfl yep yseq yreq ycl yid yun : Int} {yflag : Bool} {yok ya1 ya2 ya3 ya4 ya5 ya6 ya7 ya8 : Int} {yoc : List UInt8} {yre yrg yrd yce ylife : Int} {ych : List SeatV} {yfires : List FireV} {yva yua : Option Addr} {yvc yuc : Nat}
    (hv1 : ChainAt w (.slice va ch.length vc) ch) (hv2 : FiresAt w (.slice ua fires.length uc) fires) (hu1 : ChainAt w (.slice yva ych.length yvc) ych) (hu2 : FiresAt w (.slice yua yfires.length yuc) yfires)
    {q : Bool} (hq : q = decide ((⟨k, dst, fn, fl, ep, seq, req, cl, id, un, flag, ⟨ok, [a1, a2, a3, a4, a5, a6, a7, a8], oc⟩, re, rg, rd, ⟨ce, ch⟩, fires, life⟩ : MsgV) = ⟨yk, ydst, yfn, yfl, yep, yseq, yreq, ycl, yid, yun, yflag, ⟨yok, [ya1, ya2, ya3, ya4, ya5, ya6, ya7, ya8], yoc⟩, yre, yrg, yrd, ⟨yce, ych⟩, yfires, ylife⟩)) :
    Calls Tryz.prog 42 #[.agg #[.int .i64 k, .int .i64 dst, .int .i64 fn, .int .i64 fl, .int .i64 ep, .int .i64 seq, .int .i64 req, .int .i64 cl, .int .i64 id, .int .i64 un, .bool flag, .int .i64 ok, .int .i64 a1, .int .i64 a2, .int .i64 a3, .int .i64 a4, .int .i64 a5, .int .i64 a6, .int .i64 a7, .int .i64 a8, .string ⟨oc.toArray⟩, .int .i64 re, .int .i64 rg, .int .i64 rd, .int .i64 ce, .slice va ch.length vc, .slice ua fires.length uc, .int .i64 life], .agg #[.int .i64 yk, .int .i64 ydst, .int .i64 yfn, .int .i64 yfl, .int .i64 yep, .int .i64 yseq, .int .i64 yreq, .int .i64 ycl, .int .i64 yid, .int .i64 yun, .bool yflag, .int .i64 yok, .int .i64 ya1, .int .i64 ya2, .int .i64 ya3, .int .i64 ya4, .int .i64 ya5, .int .i64 ya6, .int .i64 ya7, .int .i64 ya8, .string ⟨yoc.toArray⟩, .int .i64 yre, .int .i64 yrg, .int .i64 yrd, .int .i64 yce, .slice yva ych.length yvc, .slice yua yfires.length yuc, .int .i64 ylife]] w fun en w' => en = .returned (.bool q) ∧ Below w.heap.size w w' := by
  have HQ := Lib.hid hq
  clear hq
  go_enter Tryz.func42, Tryz.ntmps42
  go_upto_region 1 with (fail)
  have hA : BlkAt ((w.alloc (.cells #[.int .i64 k, .int .i64 dst, .int .i64 fn, .int .i64 fl, .int .i64 ep, .int .i64 seq, .int .i64 req, .int .i64 cl, .int .i64 id, .int .i64 un, .bool flag, .int .i64 ok, .int .i64 a1, .int .i64 a2, .int .i64 a3, .int .i64 a4, .int .i64 a5, .int .i64 a6, .int .i64 a7, .int .i64 a8, .string ⟨oc.toArray⟩, .int .i64 re, .int .i64 rg, .int .i64 rd, .int .i64 ce, .slice va ch.length vc, .slice ua fires.length uc, .int .i64 life] 40)).alloc (.cells #[.int .i64 yk, .int .i64 ydst, .int .i64 yfn, .int .i64 yfl, .int .i64 yep, .int .i64 yseq, .int .i64 yreq, .int .i64 ycl, .int .i64 yid, .int .i64 yun, .bool yflag, .int .i64 yok, .int .i64 ya1, .int .i64 ya2, .int .i64 ya3, .int .i64 ya4, .int .i64 ya5, .int .i64 ya6, .int .i64 ya7, .int .i64 ya8, .string ⟨yoc.toArray⟩, .int .i64 yre, .int .i64 yrg, .int .i64 yrd, .int .i64 yce, .slice yva ych.length yvc, .slice yua yfires.length yuc, .int .i64 ylife] 40)) w.heap.size 40 [.int .i64 k, .int .i64 dst, .int .i64 fn, .int .i64 fl, .int .i64 ep, .int .i64 seq, .int .i64 req, .int .i64 cl, .int .i64 id, .int .i64 un, .bool flag, .int .i64 ok, .int .i64 a1, .int .i64 a2, .int .i64 a3, .int .i64 a4, .int .i64 a5, .int .i64 a6, .int .i64 a7, .int .i64 a8, .string ⟨oc.toArray⟩, .int .i64 re, .int .i64 rg, .int .i64 rd, .int .i64 ce, .slice va ch.length vc, .slice ua fires.length uc, .int .i64 life] := (BlkAt.new w 40 [.int .i64 k, .int .i64 dst, .int .i64 fn, .int .i64 fl, .int .i64 ep, .int .i64 seq, .int .i64 req, .int .i64 cl, .int .i64 id, .int .i64 un, .bool flag, .int .i64 ok, .int .i64 a1, .int .i64 a2, .int .i64 a3, .int .i64 a4, .int .i64 a5, .int .i64 a6, .int .i64 a7, .int .i64 a8, .string ⟨oc.toArray⟩, .int .i64 re, .int .i64 rg, .int .i64 rd, .int .i64 ce, .slice va ch.length vc, .slice ua fires.length uc, .int .i64 life]).alloc _
  have hB : BlkAt ((w.alloc (.cells #[.int .i64 k, .int .i64 dst, .int .i64 fn, .int .i64 fl, .int .i64 ep, .int .i64 seq, .int .i64 req, .int .i64 cl, .int .i64 id, .int .i64 un, .bool flag, .int .i64 ok, .int .i64 a1, .int .i64 a2, .int .i64 a3, .int .i64 a4, .int .i64 a5, .int .i64 a6, .int .i64 a7, .int .i64 a8, .string ⟨oc.toArray⟩, .int .i64 re, .int .i64 rg, .int .i64 rd, .int .i64 ce, .slice va ch.length vc, .slice ua fires.length uc, .int .i64 life] 40)).alloc (.cells #[.int .i64 yk, .int .i64 ydst, .int .i64 yfn, .int .i64 yfl, .int .i64 yep, .int .i64 yseq, .int .i64 yreq, .int .i64 ycl, .int .i64 yid, .int .i64 yun, .bool yflag, .int .i64 yok, .int .i64 ya1, .int .i64 ya2, .int .i64 ya3, .int .i64 ya4, .int .i64 ya5, .int .i64 ya6, .int .i64 ya7, .int .i64 ya8, .string ⟨yoc.toArray⟩, .int .i64 yre, .int .i64 yrg, .int .i64 yrd, .int .i64 yce, .slice yva ych.length yvc, .slice yua yfires.length yuc, .int .i64 ylife] 40)) (w.heap.size + 1) 40 [.int .i64 yk, .int .i64 ydst, .int .i64 yfn, .int .i64 yfl, .int .i64 yep, .int .i64 yseq, .int .i64 yreq, .int .i64 ycl, .int .i64 yid, .int .i64 yun, .bool yflag, .int .i64 yok, .int .i64 ya1, .int .i64 ya2, .int .i64 ya3, .int .i64 ya4, .int .i64 ya5, .int .i64 ya6, .int .i64 ya7, .int .i64 ya8, .string ⟨yoc.toArray⟩, .int .i64 yre, .int .i64 yrg, .int .i64 yrd, .int .i64 yce, .slice yva ych.length yvc, .slice yua yfires.length yuc, .int .i64 ylife] := BlkAt.newAt (by simp) 40 [.int .i64 yk, .int .i64 ydst, .int .i64 yfn, .int .i64 yfl, .int .i64 yep, .int .i64 yseq, .int .i64 yreq, .int .i64 ycl, .int .i64 yid, .int .i64 yun, .bool yflag, .int .i64 yok, .int .i64 ya1, .int .i64 ya2, .int .i64 ya3, .int .i64 ya4, .int .i64 ya5, .int .i64 ya6, .int .i64 ya7, .int .i64 ya8, .string ⟨yoc.toArray⟩, .int .i64 yre, .int .i64 yrg, .int .i64 yrd, .int .i64 yce, .slice yva ych.length yvc, .slice yua yfires.length yuc, .int .i64 ylife]
  have hb : Below w.heap.size w ((w.alloc (.cells #[.int .i64 k, .int .i64 dst, .int .i64 fn, .int .i64 fl, .int .i64 ep, .int .i64 seq, .int .i64 req, .int .i64 cl, .int .i64 id, .int .i64 un, .bool flag, .int .i64 ok, .int .i64 a1, .int .i64 a2, .int .i64 a3, .int .i64 a4, .int .i64 a5, .int .i64 a6, .int .i64 a7, .int .i64 a8, .string ⟨oc.toArray⟩, .int .i64 re, .int .i64 rg, .int .i64 rd, .int .i64 ce, .slice va ch.length vc, .slice ua fires.length uc, .int .i64 life] 40)).alloc (.cells #[.int .i64 yk, .int .i64 ydst, .int .i64 yfn, .int .i64 yfl, .int .i64 yep, .int .i64 yseq, .int .i64 yreq, .int .i64 ycl, .int .i64 yid, .int .i64 yun, .bool yflag, .int .i64 yok, .int .i64 ya1, .int .i64 ya2, .int .i64 ya3, .int .i64 ya4, .int .i64 ya5, .int .i64 ya6, .int .i64 ya7, .int .i64 ya8, .string ⟨yoc.toArray⟩, .int .i64 yre, .int .i64 yrg, .int .i64 yrd, .int .i64 yce, .slice yva ych.length yvc, .slice yua yfires.length yuc, .int .i64 ylife] 40)) := ((Below.refl w.heap.size w).alloc (Nat.le_refl _) _).alloc (by simp) _
  have hWs : w.heap.size + 2 ≤ ((w.alloc (.cells #[.int .i64 k, .int .i64 dst, .int .i64 fn, .int .i64 fl, .int .i64 ep, .int .i64 seq, .int .i64 req, .int .i64 cl, .int .i64 id, .int .i64 un, .bool flag, .int .i64 ok, .int .i64 a1, .int .i64 a2, .int .i64 a3, .int .i64 a4, .int .i64 a5, .int .i64 a6, .int .i64 a7, .int .i64 a8, .string ⟨oc.toArray⟩, .int .i64 re, .int .i64 rg, .int .i64 rd, .int .i64 ce, .slice va ch.length vc, .slice ua fires.length uc, .int .i64 life] 40)).alloc (.cells #[.int .i64 yk, .int .i64 ydst, .int .i64 yfn, .int .i64 yfl, .int .i64 yep, .int .i64 yseq, .int .i64 yreq, .int .i64 ycl, .int .i64 yid, .int .i64 yun, .bool yflag, .int .i64 yok, .int .i64 ya1, .int .i64 ya2, .int .i64 ya3, .int .i64 ya4, .int .i64 ya5, .int .i64 ya6, .int .i64 ya7, .int .i64 ya8, .string ⟨yoc.toArray⟩, .int .i64 yre, .int .i64 yrg, .int .i64 yrd, .int .i64 yce, .slice yva ych.length yvc, .slice yua yfires.length yuc, .int .i64 ylife] 40)).heap.size := by simp
  change Code.wp _ _ _ _ ((w.alloc (.cells #[.int .i64 k, .int .i64 dst, .int .i64 fn, .int .i64 fl, .int .i64 ep, .int .i64 seq, .int .i64 req, .int .i64 cl, .int .i64 id, .int .i64 un, .bool flag, .int .i64 ok, .int .i64 a1, .int .i64 a2, .int .i64 a3, .int .i64 a4, .int .i64 a5, .int .i64 a6, .int .i64 a7, .int .i64 a8, .string ⟨oc.toArray⟩, .int .i64 re, .int .i64 rg, .int .i64 rd, .int .i64 ce, .slice va ch.length vc, .slice ua fires.length uc, .int .i64 life] 40)).alloc (.cells #[.int .i64 yk, .int .i64 ydst, .int .i64 yfn, .int .i64 yfl, .int .i64 yep, .int .i64 yseq, .int .i64 yreq, .int .i64 ycl, .int .i64 yid, .int .i64 yun, .bool yflag, .int .i64 yok, .int .i64 ya1, .int .i64 ya2, .int .i64 ya3, .int .i64 ya4, .int .i64 ya5, .int .i64 ya6, .int .i64 ya7, .int .i64 ya8, .string ⟨yoc.toArray⟩, .int .i64 yre, .int .i64 yrg, .int .i64 yrd, .int .i64 yce, .slice yva ych.length yvc, .slice yua yfires.length yuc, .int .i64 ylife] 40))
  generalize (w.alloc (.cells #[.int .i64 k, .int .i64 dst, .int .i64 fn, .int .i64 fl, .int .i64 ep, .int .i64 seq, .int .i64 req, .int .i64 cl, .int .i64 id, .int .i64 un, .bool flag, .int .i64 ok, .int .i64 a1, .int .i64 a2, .int .i64 a3, .int .i64 a4, .int .i64 a5, .int .i64 a6, .int .i64 a7, .int .i64 a8, .string ⟨oc.toArray⟩, .int .i64 re, .int .i64 rg, .int .i64 rd, .int .i64 ce, .slice va ch.length vc, .slice ua fires.length uc, .int .i64 life] 40)).alloc (.cells #[.int .i64 yk, .int .i64 ydst, .int .i64 yfn, .int .i64 yfl, .int .i64 yep, .int .i64 yseq, .int .i64 yreq, .int .i64 ycl, .int .i64 yid, .int .i64 yun, .bool yflag, .int .i64 yok, .int .i64 ya1, .int .i64 ya2, .int .i64 ya3, .int .i64 ya4, .int .i64 ya5, .int .i64 ya6, .int .i64 ya7, .int .i64 ya8, .string ⟨yoc.toArray⟩, .int .i64 yre, .int .i64 yrg, .int .i64 yrd, .int .i64 yce, .slice yva ych.length yvc, .slice yua yfires.length yuc, .int .i64 ylife] 40) = W at *
  have hnn : w.heap.size ≤ w.heap.size + 1 := by omega
  have hnb : w.heap.size + 1 < w.heap.size + 2 := by omega
  have hn0 : w.heap.size + 1 ≠ w.heap.size := by omega
  generalize hnd : w.heap.size + 1 = n at *
  have hv1 := hv1.below hb
  have hv2 := hv2.below hb
  have hu1 := hu1.below hb
  have hu2 := hu2.below hb
  go_cut [5] (fun s wx => s = .bool (decide ((k = yk) ∧ (dst = ydst) ∧ (fn = yfn ∧ fl = yfl) ∧ (life = ylife) ∧ (flag = yflag) ∧ ((⟨ok, [a1, a2, a3, a4, a5, a6, a7, a8], oc⟩ : OpV) = ⟨yok, [ya1, ya2, ya3, ya4, ya5, ya6, ya7, ya8], yoc⟩) ∧ (re = yre ∧ rg = yrg ∧ rd = yrd))) ∧ W = wx)
  case first =>
    clear hv1 hv2 hu1 hu2
    have ma0 : W.cell? ⟨w.heap.size, 0, none⟩ = some (.int .i64 k) := hA.cell rfl
    have mb0 : W.cell? ⟨n, 0, none⟩ = some (.int .i64 yk) := hB.cell rfl
    have ma1 : W.cell? ⟨w.heap.size, 1, none⟩ = some (.int .i64 dst) := hA.cell rfl
    have mb1 : W.cell? ⟨n, 1, none⟩ = some (.int .i64 ydst) := hB.cell rfl
    have ma2 : W.cell? ⟨w.heap.size, 2, none⟩ = some (.int .i64 fn) := hA.cell rfl
    have mb2 : W.cell? ⟨n, 2, none⟩ = some (.int .i64 yfn) := hB.cell rfl
    have ma3 : W.cell? ⟨w.heap.size, 3, none⟩ = some (.int .i64 fl) := hA.cell rfl
    have mb3 : W.cell? ⟨n, 3, none⟩ = some (.int .i64 yfl) := hB.cell rfl
    have ma27 : W.cell? ⟨w.heap.size, 27, none⟩ = some (.int .i64 life) := hA.cell rfl
    have mb27 : W.cell? ⟨n, 27, none⟩ = some (.int .i64 ylife) := hB.cell rfl
    have ma10 : W.cell? ⟨w.heap.size, 10, none⟩ = some (.bool flag) := hA.cell rfl
    have mb10 : W.cell? ⟨n, 10, none⟩ = some (.bool yflag) := hB.cell rfl
    have ma11 : W.cell? ⟨w.heap.size, 11, none⟩ = some (.int .i64 ok) := hA.cell rfl
    have mb11 : W.cell? ⟨n, 11, none⟩ = some (.int .i64 yok) := hB.cell rfl
    have ma12 : W.cell? ⟨w.heap.size, 12, none⟩ = some (.int .i64 a1) := hA.cell rfl
    have mb12 : W.cell? ⟨n, 12, none⟩ = some (.int .i64 ya1) := hB.cell rfl
    have ma13 : W.cell? ⟨w.heap.size, 13, none⟩ = some (.int .i64 a2) := hA.cell rfl
    have mb13 : W.cell? ⟨n, 13, none⟩ = some (.int .i64 ya2) := hB.cell rfl
    have ma14 : W.cell? ⟨w.heap.size, 14, none⟩ = some (.int .i64 a3) := hA.cell rfl
    have mb14 : W.cell? ⟨n, 14, none⟩ = some (.int .i64 ya3) := hB.cell rfl
    have ma15 : W.cell? ⟨w.heap.size, 15, none⟩ = some (.int .i64 a4) := hA.cell rfl
    have mb15 : W.cell? ⟨n, 15, none⟩ = some (.int .i64 ya4) := hB.cell rfl
    have ma16 : W.cell? ⟨w.heap.size, 16, none⟩ = some (.int .i64 a5) := hA.cell rfl
    have mb16 : W.cell? ⟨n, 16, none⟩ = some (.int .i64 ya5) := hB.cell rfl
    have ma17 : W.cell? ⟨w.heap.size, 17, none⟩ = some (.int .i64 a6) := hA.cell rfl
    have mb17 : W.cell? ⟨n, 17, none⟩ = some (.int .i64 ya6) := hB.cell rfl
    have ma18 : W.cell? ⟨w.heap.size, 18, none⟩ = some (.int .i64 a7) := hA.cell rfl
    have mb18 : W.cell? ⟨n, 18, none⟩ = some (.int .i64 ya7) := hB.cell rfl
    have ma19 : W.cell? ⟨w.heap.size, 19, none⟩ = some (.int .i64 a8) := hA.cell rfl
    have mb19 : W.cell? ⟨n, 19, none⟩ = some (.int .i64 ya8) := hB.cell rfl
    have ma20 : W.cell? ⟨w.heap.size, 20, none⟩ = some (.string ⟨oc.toArray⟩) := hA.cell rfl
    have mb20 : W.cell? ⟨n, 20, none⟩ = some (.string ⟨yoc.toArray⟩) := hB.cell rfl
    have ma21 : W.cell? ⟨w.heap.size, 21, none⟩ = some (.int .i64 re) := hA.cell rfl
    have mb21 : W.cell? ⟨n, 21, none⟩ = some (.int .i64 yre) := hB.cell rfl
    have ma22 : W.cell? ⟨w.heap.size, 22, none⟩ = some (.int .i64 rg) := hA.cell rfl
    have mb22 : W.cell? ⟨n, 22, none⟩ = some (.int .i64 yrg) := hB.cell rfl
    have ma23 : W.cell? ⟨w.heap.size, 23, none⟩ = some (.int .i64 rd) := hA.cell rfl
    have mb23 : W.cell? ⟨n, 23, none⟩ = some (.int .i64 yrd) := hB.cell rfl
    by_cases ck : k = yk
    · have bk : (k == yk) = true := by simpa using ck
      have Hk := Lib.hid ck
      clear ck
      by_cases cdst : dst = ydst
      · have bdst : (dst == ydst) = true := by simpa using cdst
        have Hdst := Lib.hid cdst
        clear cdst
        by_cases cmem : fn = yfn ∧ fl = yfl
        · have bmem := fun w => mem_eql fn fl yfn yfl w
          rw [show (fn == yfn && fl == yfl) = true by simpa using cmem] at bmem
          have Hmem := Lib.hid cmem
          clear cmem
          by_cases clife : life = ylife
          · have blife : (life == ylife) = true := by simpa using clife
            have Hlife := Lib.hid clife
            clear clife
            by_cases cflag : flag = yflag
            · have bflag : (flag == yflag) = true := by simpa using cflag
              have Hflag := Lib.hid cflag
              clear cflag
              by_cases cop : (⟨ok, [a1, a2, a3, a4, a5, a6, a7, a8], oc⟩ : OpV) = ⟨yok, [ya1, ya2, ya3, ya4, ya5, ya6, ya7, ya8], yoc⟩
              · have bop := fun w => op_eql ok a1 a2 a3 a4 a5 a6 a7 a8 yok ya1 ya2 ya3 ya4 ya5 ya6 ya7 ya8 oc yoc w
                rw [decide_eq_true cop] at bop
                have Hop := Lib.hid cop
                clear cop
                by_cases crep : re = yre ∧ rg = yrg ∧ rd = yrd
                · have brep := fun w => reply_eql re rg rd yre yrg yrd w
                  rw [decide_eq_true crep] at brep
                  have Hrep := Lib.hid crep
                  clear crep
                  go_wp2_with fail
                  go_meet
                  exact ⟨congrArg Value.bool ((decide_eq_true ⟨Hk.out, Hdst.out, Hmem.out, Hlife.out, Hflag.out, Hop.out, Hrep.out⟩).symm), rfl⟩
                · have brep := fun w => reply_eql re rg rd yre yrg yrd w
                  rw [decide_eq_false crep] at brep
                  have Hrep := Lib.hid crep
                  clear crep
                  go_wp2_with fail
                  go_meet
                  exact ⟨congrArg Value.bool ((decide_eq_false (fun h => Hrep.out h.2.2.2.2.2.2)).symm), rfl⟩
              · have bop := fun w => op_eql ok a1 a2 a3 a4 a5 a6 a7 a8 yok ya1 ya2 ya3 ya4 ya5 ya6 ya7 ya8 oc yoc w
                rw [decide_eq_false cop] at bop
                have Hop := Lib.hid cop
                clear cop
                go_wp2_with fail
                go_meet
                exact ⟨congrArg Value.bool ((decide_eq_false (fun h => Hop.out h.2.2.2.2.2.1)).symm), rfl⟩
            · have bflag : (flag == yflag) = false := by simpa using cflag
              have Hflag := Lib.hid cflag
              clear cflag
              go_wp2_with fail
              go_meet
              exact ⟨congrArg Value.bool ((decide_eq_false (fun h => Hflag.out h.2.2.2.2.1)).symm), rfl⟩
          · have blife : (life == ylife) = false := by simpa using clife
            have Hlife := Lib.hid clife
            clear clife
            go_wp2_with fail
            go_meet
            exact ⟨congrArg Value.bool ((decide_eq_false (fun h => Hlife.out h.2.2.2.1)).symm), rfl⟩
        · have bmem := fun w => mem_eql fn fl yfn yfl w
          rw [show (fn == yfn && fl == yfl) = false by rw [Bool.eq_false_iff]; simpa using cmem] at bmem
          have Hmem := Lib.hid cmem
          clear cmem
          go_wp2_with fail
          go_meet
          exact ⟨congrArg Value.bool ((decide_eq_false (fun h => Hmem.out h.2.2.1)).symm), rfl⟩
      · have bdst : (dst == ydst) = false := by simpa using cdst
        have Hdst := Lib.hid cdst
        clear cdst
        go_wp2_with fail
        go_meet
        exact ⟨congrArg Value.bool ((decide_eq_false (fun h => Hdst.out h.2.1)).symm), rfl⟩
    · have bk : (k == yk) = false := by simpa using ck
      have Hk := Lib.hid ck
      clear ck
      go_wp2_with fail
      go_meet
      exact ⟨congrArg Value.bool ((decide_eq_false (fun h => Hk.out h.1)).symm), rfl⟩
  case rest =>
    obtain ⟨rfl, rfl⟩ := hcut
    obtain ⟨p1, hp1⟩ : ∃ p, p = decide ((k = yk) ∧ (dst = ydst) ∧ (fn = yfn ∧ fl = yfl) ∧ (life = ylife) ∧ (flag = yflag) ∧ ((⟨ok, [a1, a2, a3, a4, a5, a6, a7, a8], oc⟩ : OpV) = ⟨yok, [ya1, ya2, ya3, ya4, ya5, ya6, ya7, ya8], yoc⟩) ∧ (re = yre ∧ rg = yrg ∧ rd = yrd)) := ⟨_, rfl⟩
    rw [← hp1]
    have HP1 := Lib.hid hp1
    clear hp1
    go_upto_region 2 with (fail)
    go_cut [6] (fun s wx => s = .bool (decide ((ep = yep) ∧ (seq = yseq) ∧ (req = yreq) ∧ (cl = ycl) ∧ (id = yid) ∧ (un = yun))) ∧ W = wx)
    case first =>
      clear hv1 hv2 hu1 hu2
      have ma4 : W.cell? ⟨w.heap.size, 4, none⟩ = some (.int .i64 ep) := hA.cell rfl
      have mb4 : W.cell? ⟨n, 4, none⟩ = some (.int .i64 yep) := hB.cell rfl
      have ma5 : W.cell? ⟨w.heap.size, 5, none⟩ = some (.int .i64 seq) := hA.cell rfl
      have mb5 : W.cell? ⟨n, 5, none⟩ = some (.int .i64 yseq) := hB.cell rfl
      have ma6 : W.cell? ⟨w.heap.size, 6, none⟩ = some (.int .i64 req) := hA.cell rfl
      have mb6 : W.cell? ⟨n, 6, none⟩ = some (.int .i64 yreq) := hB.cell rfl
      have ma7 : W.cell? ⟨w.heap.size, 7, none⟩ = some (.int .i64 cl) := hA.cell rfl
      have mb7 : W.cell? ⟨n, 7, none⟩ = some (.int .i64 ycl) := hB.cell rfl
      have ma8 : W.cell? ⟨w.heap.size, 8, none⟩ = some (.int .i64 id) := hA.cell rfl
      have mb8 : W.cell? ⟨n, 8, none⟩ = some (.int .i64 yid) := hB.cell rfl
      have ma9 : W.cell? ⟨w.heap.size, 9, none⟩ = some (.int .i64 un) := hA.cell rfl
      have mb9 : W.cell? ⟨n, 9, none⟩ = some (.int .i64 yun) := hB.cell rfl
      by_cases cep : ep = yep
      · have bep : (ep == yep) = true := by simpa using cep
        have Hep := Lib.hid cep
        clear cep
        by_cases cseq : seq = yseq
        · have bseq : (seq == yseq) = true := by simpa using cseq
          have Hseq := Lib.hid cseq
          clear cseq
          by_cases creq : req = yreq
          · have breq : (req == yreq) = true := by simpa using creq
            have Hreq := Lib.hid creq
            clear creq
            by_cases ccl : cl = ycl
            · have bcl : (cl == ycl) = true := by simpa using ccl
              have Hcl := Lib.hid ccl
              clear ccl
              by_cases cid : id = yid
              · have bid : (id == yid) = true := by simpa using cid
                have Hid := Lib.hid cid
                clear cid
                by_cases cun : un = yun
                · have bun : (un == yun) = true := by simpa using cun
                  have Hun := Lib.hid cun
                  clear cun
                  go_wp2_with fail
                  go_meet
                  exact ⟨congrArg Value.bool ((decide_eq_true ⟨Hep.out, Hseq.out, Hreq.out, Hcl.out, Hid.out, Hun.out⟩).symm), rfl⟩
                · have bun : (un == yun) = false := by simpa using cun
                  have Hun := Lib.hid cun
                  clear cun
                  go_wp2_with fail
                  go_meet
                  exact ⟨congrArg Value.bool ((decide_eq_false (fun h => Hun.out h.2.2.2.2.2)).symm), rfl⟩
              · have bid : (id == yid) = false := by simpa using cid
                have Hid := Lib.hid cid
                clear cid
                go_wp2_with fail
                go_meet
                exact ⟨congrArg Value.bool ((decide_eq_false (fun h => Hid.out h.2.2.2.2.1)).symm), rfl⟩
            · have bcl : (cl == ycl) = false := by simpa using ccl
              have Hcl := Lib.hid ccl
              clear ccl
              go_wp2_with fail
              go_meet
              exact ⟨congrArg Value.bool ((decide_eq_false (fun h => Hcl.out h.2.2.2.1)).symm), rfl⟩
          · have breq : (req == yreq) = false := by simpa using creq
            have Hreq := Lib.hid creq
            clear creq
            go_wp2_with fail
            go_meet
            exact ⟨congrArg Value.bool ((decide_eq_false (fun h => Hreq.out h.2.2.1)).symm), rfl⟩
        · have bseq : (seq == yseq) = false := by simpa using cseq
          have Hseq := Lib.hid cseq
          clear cseq
          go_wp2_with fail
          go_meet
          exact ⟨congrArg Value.bool ((decide_eq_false (fun h => Hseq.out h.2.1)).symm), rfl⟩
      · have bep : (ep == yep) = false := by simpa using cep
        have Hep := Lib.hid cep
        clear cep
        go_wp2_with fail
        go_meet
        exact ⟨congrArg Value.bool ((decide_eq_false (fun h => Hep.out h.1)).symm), rfl⟩
    case rest =>
      obtain ⟨rfl, rfl⟩ := hcut
      obtain ⟨p2, hp2⟩ : ∃ p, p = decide ((ep = yep) ∧ (seq = yseq) ∧ (req = yreq) ∧ (cl = ycl) ∧ (id = yid) ∧ (un = yun)) := ⟨_, rfl⟩
      rw [← hp2]
      have HP2 := Lib.hid hp2
      clear hp2
      have ma24 : W.cell? ⟨w.heap.size, 24, none⟩ = some (.int .i64 ce) := hA.cell rfl
      have mb24 : W.cell? ⟨n, 24, none⟩ = some (.int .i64 yce) := hB.cell rfl
      have ma25 : W.cell? ⟨w.heap.size, 25, none⟩ = some (.slice va ch.length vc) := hA.cell rfl
      have mb25 : W.cell? ⟨n, 25, none⟩ = some (.slice yva ych.length yvc) := hB.cell rfl
      have ma26 : W.cell? ⟨w.heap.size, 26, none⟩ = some (.slice ua fires.length uc) := hA.cell rfl
      have mb26 : W.cell? ⟨n, 26, none⟩ = some (.slice yua yfires.length yuc) := hB.cell rfl
      have HT : Hid (p1 = true ∧ p2 = true ∧ ce = yce ∧ ch = ych ∧ fires = yfires → (⟨k, dst, fn, fl, ep, seq, req, cl, id, un, flag, ⟨ok, [a1, a2, a3, a4, a5, a6, a7, a8], oc⟩, re, rg, rd, ⟨ce, ch⟩, fires, life⟩ : MsgV) = ⟨yk, ydst, yfn, yfl, yep, yseq, yreq, ycl, yid, yun, yflag, ⟨yok, [ya1, ya2, ya3, ya4, ya5, ya6, ya7, ya8], yoc⟩, yre, yrg, yrd, ⟨yce, ych⟩, yfires, ylife⟩) := Lib.hid (by
        rintro ⟨rfl, rfl, rfl, rfl, rfl⟩
        have h1 := of_decide_eq_true HP1.out.symm
        have h2 := of_decide_eq_true HP2.out.symm
        obtain ⟨rfl, rfl, ⟨rfl, rfl⟩, rfl, rfl, h3, rfl, rfl, rfl⟩ := h1
        obtain ⟨rfl, rfl, rfl, rfl, rfl, rfl⟩ := h2
        rw [h3])
      have HF : Hid ((⟨k, dst, fn, fl, ep, seq, req, cl, id, un, flag, ⟨ok, [a1, a2, a3, a4, a5, a6, a7, a8], oc⟩, re, rg, rd, ⟨ce, ch⟩, fires, life⟩ : MsgV) = ⟨yk, ydst, yfn, yfl, yep, yseq, yreq, ycl, yid, yun, yflag, ⟨yok, [ya1, ya2, ya3, ya4, ya5, ya6, ya7, ya8], yoc⟩, yre, yrg, yrd, ⟨yce, ych⟩, yfires, ylife⟩ → p1 = true ∧ p2 = true ∧ ce = yce ∧ ch = ych ∧ fires = yfires) := Lib.hid (by
        intro h
        simp only [MsgV.mk.injEq, ConfV.mk.injEq] at h
        obtain ⟨h1, h2, h3, h4, h5, h6, h7, h8, h9, h10, h11, h12, h13, h14, h15, ⟨h16, h17⟩, h18, h19⟩ := h
        exact ⟨HP1.out.trans (decide_eq_true ⟨h1, h2, ⟨h3, h4⟩, h19, h11, h12, h13, h14, h15⟩), HP2.out.trans (decide_eq_true ⟨h5, h6, h7, h8, h9, h10⟩), h16, h17, h18⟩)
      clear HP1 HP2 hA hB
      cases p1 with
      | false =>
        have HE := Lib.hid (show q = false from HQ.out.trans (decide_eq_false (fun h => Bool.noConfusion (HF.out h).1)))
        go_wp2_with fail
        go_ret
        exact ⟨by rw [HE.out]; rfl, hb⟩
      | true =>
        cases p2 with
        | false =>
          have HE := Lib.hid (show q = false from HQ.out.trans (decide_eq_false (fun h => Bool.noConfusion (HF.out h).2.1)))
          go_wp2_with fail
          go_ret
          exact ⟨by rw [HE.out]; rfl, hb⟩
        | true =>
          by_cases cce : ce = yce
          · have bce : (ce == yce) = true := by simpa using cce
            have Hce := Lib.hid cce
            clear cce
            by_cases cch : ch = ych
            · have Hch := Lib.hid cch
              have HDT := Lib.hid (decide_eq_true cch)
              clear cch
              go_wp2_with fail
              refine (equal_any (by exact hv1) (by exact hu1)).mono ?_
              rintro en w3 ⟨rfl, nq, rfl⟩
              rw [HDT.out]
              have hv2 := hv2.below (below_drewN (Below.refl _ _) nq)
              have hu2 := hu2.below (below_drewN (Below.refl _ _) nq)
              have hb := below_drewN hb nq
              have ma26 : (W.drewN nq).cell? ⟨w.heap.size, 26, none⟩ = some (.slice ua fires.length uc) := ma26
              have mb26 : (W.drewN nq).cell? ⟨n, 26, none⟩ = some (.slice yua yfires.length yuc) := mb26
              go_wp2_with fail
              refine (fequal_any (by exact hv2) (by exact hu2)).mono ?_
              rintro en w4 ⟨rfl, nq2, rfl⟩
              have hb : Below w.heap.size w (W.drewN (nq + nq2)) := by rw [← World.drewN_drewN]; exact below_drewN hb nq2
              have HE := Lib.hid (show q = decide (fires = yfires) from by
                rw [HQ.out]
                by_cases cf : fires = yfires
                · rw [decide_eq_true cf, decide_eq_true (HT.out ⟨by trivial, by trivial, Hce.out, Hch.out, cf⟩)]
                · rw [decide_eq_false cf, decide_eq_false (fun h => cf (HF.out h).2.2.2.2)])
              go_wp2_with fail
              go_ret
              exact ⟨by rw [HE.out]; rfl, hb⟩
            · have HE := Lib.hid (show q = false from HQ.out.trans (decide_eq_false (fun h => cch (HF.out h).2.2.2.1)))
              have HDT := Lib.hid (decide_eq_false cch)
              clear cch
              go_wp2_with fail
              refine (equal_any (by exact hv1) (by exact hu1)).mono ?_
              rintro en w3 ⟨rfl, nq, rfl⟩
              rw [HDT.out]
              have hb := below_drewN hb nq
              go_wp2_with fail
              go_ret
              exact ⟨by rw [HE.out]; rfl, hb⟩
          · have HE := Lib.hid (show q = false from HQ.out.trans (decide_eq_false (fun h => cce (HF.out h).2.2.1)))
            have bce : (ce == yce) = false := by simpa using cce
            clear cce
            go_wp2_with fail
            go_ret
            exact ⟨by rw [HE.out]; rfl, hb⟩
theorem wsame_any {w : World} {M K : MsgV} {v u : Value} (hv : M.At w v) (hu : K.At w u) (hM : M.op.v.length = 8) (hK : K.op.v.length = 8) :
    Calls Tryz.prog 42 #[v, u] w fun en w' => en = .returned (.bool (decide (M = K))) ∧ Below w.heap.size w w' := by
  obtain ⟨v1, v2, rfl, ⟨va, vc, rfl, hc⟩, ⟨ua, uc, rfl, hf⟩⟩ := hv
  obtain ⟨u1, u2, rfl, ⟨yva, yvc, rfl, hc'⟩, ⟨yua, yuc, rfl, hf'⟩⟩ := hu
  obtain ⟨k, dst, fn, fl, ep, seq, req, cl, id, un, flag, op, re, rg, rd, cf, fires, life⟩ := M
  obtain ⟨ok, ov, oc⟩ := op
  obtain ⟨a1, a2, a3, a4, a5, a6, a7, a8, rfl⟩ := list8 hM
  obtain ⟨ce, ch⟩ := cf
  obtain ⟨yk, ydst, yfn, yfl, yep, yseq, yreq, ycl, yid, yun, yflag, yop, yre, yrg, yrd, ycf, yfires, ylife⟩ := K
  obtain ⟨yok, yov, yoc⟩ := yop
  obtain ⟨b1, b2, b3, b4, b5, b6, b7, b8, rfl⟩ := list8 hK
  obtain ⟨yce, ych⟩ := ycf
  exact wsame_lit ⟨va, vc, rfl, hc⟩ ⟨ua, uc, rfl, hf⟩ ⟨yva, yvc, rfl, hc'⟩ ⟨yua, yuc, rfl, hf'⟩ rfl
end Go.Proofs.YtnaabaahfjklhaaGreat
