/- The master: one that begins with a chain. -/
import Derived.Test.YtomfmejodmfioaaGreatKMst3
import Derived.Deep.DeepCutAuto
import Derived.Deep.CutBlock
namespace Go.Proofs.YtomfmejodmfioaaGreat
open Go.RowKit Go.Maps Go.ChangeShapes Go.WideShapes Go.Joins Go.Deep
set_option linter.unusedVariables false

theorem beginB_snoc (now : Int) {L : List SeatV} {k : Nat} {s : SeatV} (h : L[k]? = some s) : beginB now (L.take (k + 1)) = updM (beginB now (L.take k)) s.node s.life (some { beatZero with time := now }) := by
  unfold beginB
  rw [List.take_add_one, h]
  simp
theorem beginL_snoc {L : List SeatV} {k : Nat} {s : SeatV} (h : L[k]? = some s) : beginL (L.take (k + 1)) = (beginL (L.take k)).set s.node.toNat s.life := by
  unfold beginL
  rw [List.take_add_one, h]
  simp
theorem begin_new {w : World} {lb x bk um bm sm nm : Nat} (hx : w.heap.size ≤ x) (h1 : w.heap.size ≤ bk) (h2 : w.heap.size ≤ um) (h3 : w.heap.size ≤ bm) (h4 : w.heap.size ≤ sm) (h5 : w.heap.size ≤ nm) : FNew w [lb] (MBlk.list ⟨lb, bk, um, bm, sm, nm⟩ x) := ⟨fun k hk => by
  simp only [MBlk.list, List.mem_cons, List.not_mem_nil, or_false] at hk ⊢
  rcases hk with rfl | rfl | rfl | rfl | rfl | rfl | rfl
  · exact .inr hx
  · exact .inl rfl
  · exact .inr h1
  · exact .inr h2
  · exact .inr h3
  · exact .inr h4
  · exact .inr h5, fun h => by simp at h⟩
set_option maxRecDepth 100000 in
set_option maxHeartbeats 8000000 in
theorem mbegin_any {B : Nat} {w : World} {lb : Nat} {l : List UInt8} {u : Value} (hlog : LogAt B w lb u l false) {s : SetV} (hset : mayS s = true) {c : ConfV} (hrt : rightC c = true) {v : Value} (hC : ChainS w v c.chain) {now : Int} (ht : TOk now) :
    Calls Tryz.prog 52 #[.agg (setCells7 s).toArray, .pointer (some ⟨lb, 0, none⟩), .agg #[.int .i64 c.epoch, v], .int .i64 now] w fun en w' => ∃ x b, en = .returned (.pointer (some ⟨x, 0, none⟩)) ∧ b.lb = lb ∧ MAt B w' x b 100 (beginM s c now) l ∧ FK [lb] B w w' ∧ FNew w [lb] (b.list x) := by
  obtain ⟨A, cap, rfl⟩ := hC.form
  have hmm := @run_makeMap Tryz.prog
  have HSET := Lib.hid hset
  have HRT := Lib.hid hrt
  go_enter Tryz.func52, Tryz.ntmps52
  go_upto_region 1 with (fail)
  have hsb : BlkAt ((w.alloc (.cells (setCells7 s).toArray 23)).alloc (.cells #[.int .i64 c.epoch, .slice A c.chain.length cap] 35)) w.heap.size 23 (setCells7 s) := (BlkAt.new w 23 (setCells7 s)).alloc _
  have hcb : BlkAt ((w.alloc (.cells (setCells7 s).toArray 23)).alloc (.cells #[.int .i64 c.epoch, .slice A c.chain.length cap] 35)) (w.heap.size + 1) 35 [.int .i64 c.epoch, .slice A c.chain.length cap] := BlkAt.newAt (by simp) 35 [.int .i64 c.epoch, .slice A c.chain.length cap]
  have hb : Below w.heap.size w ((w.alloc (.cells (setCells7 s).toArray 23)).alloc (.cells #[.int .i64 c.epoch, .slice A c.chain.length cap] 35)) := ((Below.refl w.heap.size w).alloc (Nat.le_refl _) _).alloc (by simp) _
  change Code.wp _ _ _ _ ((w.alloc (.cells (setCells7 s).toArray 23)).alloc (.cells #[.int .i64 c.epoch, .slice A c.chain.length cap] 35))
  generalize (w.alloc (.cells (setCells7 s).toArray 23)).alloc (.cells #[.int .i64 c.epoch, .slice A c.chain.length cap] 35) = W at *
  obtain ⟨sb, hsbd⟩ : ∃ sb, sb = w.heap.size := ⟨_, rfl⟩
  obtain ⟨cb, hcbd⟩ : ∃ cb, cb = w.heap.size + 1 := ⟨_, rfl⟩
  rw [← hcbd] at hcb ⊢
  rw [← hsbd] at hsb ⊢
  have HWS : Hid (w.heap.size ≤ W.heap.size) := Lib.hid hb.size
  have HB0 := Lib.hid hb
  have HLOG : Hid (∃ u, LogAt B W lb u l false) := Lib.hid ⟨_, hlog.below hb⟩
  have HCH : Hid (ChainS W (.slice A c.chain.length cap) c.chain) := Lib.hid (hC.below hb)
  have hS4 : Hid (∀ W', Below W.heap.size W W' → W'.cell? ⟨sb, 0, none⟩ = some (.int .i64 s.nodes) ∧ W'.cell? ⟨sb, 1, none⟩ = some (.int .i64 s.clients) ∧ W'.cell? ⟨sb, 2, none⟩ = some (.int .i64 s.timers) ∧ W'.cell? ⟨sb, 3, none⟩ = some (.int .i64 s.lease) ∧ W'.cell? ⟨sb, 4, none⟩ = some (.int .i64 s.suspect) ∧ W'.cell? ⟨sb, 5, none⟩ = some (.int .i64 s.skew) ∧ W'.cell? ⟨sb, 6, none⟩ = some (.int .i64 s.base)) := Lib.hid (fun W' hW => ⟨(hsb.below hW).cell rfl, (hsb.below hW).cell rfl, (hsb.below hW).cell rfl, (hsb.below hW).cell rfl, (hsb.below hW).cell rfl, (hsb.below hW).cell rfl, (hsb.below hW).cell rfl⟩)
  have hC6 : Hid (∀ W', Below W.heap.size W W' → W'.cell? ⟨cb, 0, none⟩ = some (.int .i64 c.epoch) ∧ W'.cell? ⟨cb, 1, none⟩ = some (.slice A c.chain.length cap)) := Lib.hid (fun W' hW => ⟨(hcb.below hW).cell rfl, (hcb.below hW).cell rfl⟩)
  have hCB := Lib.hid hcb
  clear hsbd hcbd hsb hcb hb hlog hC hset hrt
  go_cut [9] (fun s9 wx => ∃ (x : Nat) (b : MBlk), s9 = .pointer (some ⟨x, 0, none⟩) ∧ b.lb = lb ∧ MAt B wx x b 0 { s := s, cf := c, til := fun _ _ => 0, held := 0, beats := fun _ _ => none, lives := List.replicate 8 0, sat := fun _ _ => false, since := fun _ _ => none } l ∧ Below W.heap.size W wx ∧ FNew w [lb] (b.list x))
  case first =>
    have hb := below_drewN (Below.refl W.heap.size W) 1
    have hb : Below W.heap.size W W.drew := hb
    refine wp_region_noPanic ?_
    refine wp_region_held_drew (S := (fun w' => w'.cell? ⟨sb, 0, none⟩ = some (.int .i64 s.nodes) ∧ w'.cell? ⟨sb, 1, none⟩ = some (.int .i64 s.clients) ∧ w'.cell? ⟨sb, 2, none⟩ = some (.int .i64 s.timers) ∧ w'.cell? ⟨sb, 3, none⟩ = some (.int .i64 s.lease) ∧ w'.cell? ⟨sb, 4, none⟩ = some (.int .i64 s.suspect) ∧ w'.cell? ⟨sb, 5, none⟩ = some (.int .i64 s.skew) ∧ w'.cell? ⟨sb, 6, none⟩ = some (.int .i64 s.base) ∧ w'.cell? ⟨cb, 0, none⟩ = some (.int .i64 c.epoch) ∧ w'.cell? ⟨cb, 1, none⟩ = some (.slice A c.chain.length cap))) (by kernel_rfl) (by exact ⟨(hS4.out _ hb).1, (hS4.out _ hb).2.1, (hS4.out _ hb).2.2.1, (hS4.out _ hb).2.2.2.1, (hS4.out _ hb).2.2.2.2.1, (hS4.out _ hb).2.2.2.2.2.1, (hS4.out _ hb).2.2.2.2.2.2, (hC6.out _ hb).1, (hC6.out _ hb).2⟩) (fun hHeld => ?_)
    refine wtk 0 hHeld ?_
    refine wtk 1 hHeld ?_
    refine wtk 2 hHeld ?_
    refine wpAnyH_ready (rs := [3, 4, 5, 6]) (by kernel_rfl) (by simp) (AllReadyH.cons (o := ?oq_1_4_3) ?op_1_4_3 (fun K hK => ?re_1_4_3) (AllReadyH.cons (o := ?oq_1_4_4) ?op_1_4_4 (fun K hK => ?re_1_4_4) (AllReadyH.cons (o := ?oq_1_4_5) ?op_1_4_5 (fun K hK => ?re_1_4_5) (AllReadyH.cons (o := ?oq_1_4_6) ?op_1_4_6 (fun K hK => ?re_1_4_6) AllReadyH.nil))))
    case op_1_4_3 => (simp only [List.getElem?_toArray, List.getElem?_cons_succ, List.getElem?_cons_zero]; rfl)
    case op_1_4_4 => (simp only [List.getElem?_toArray, List.getElem?_cons_succ, List.getElem?_cons_zero]; rfl)
    case op_1_4_5 => (simp only [List.getElem?_toArray, List.getElem?_cons_succ, List.getElem?_cons_zero]; rfl)
    case op_1_4_6 => (simp only [List.getElem?_toArray, List.getElem?_cons_succ, List.getElem?_cons_zero]; rfl)
    case re_1_4_3 =>
      go_simp
      go_at_call 80
      refine (lnew_any _).mono ?_
      rintro en v1 ⟨bk, um, rfl, hbk, hbkn, humn, bz⟩
      have hbkb : W.heap.size ≤ bk := Nat.le_trans hb.size hbkn
      have humb : W.heap.size ≤ um := Nat.le_trans hb.size humn
      have hbq := below_step hb bz
      clear hb bz hbkn humn
      have hb := hbq
      clear hbq
      refine hK.out _ _ (by exact ⟨(hS4.out _ hb).1, (hS4.out _ hb).2.1, (hS4.out _ hb).2.2.1, (hS4.out _ hb).2.2.2.1, (hS4.out _ hb).2.2.2.2.1, (hS4.out _ hb).2.2.2.2.2.1, (hS4.out _ hb).2.2.2.2.2.2, (hC6.out _ hb).1, (hC6.out _ hb).2⟩) (fun hHeld => ?_)
      clear hK K
      try simp only [Act.put, List.setIfInBounds_toArray, List.set_cons_zero, List.set_cons_succ]
      refine wpAnyH_ready (rs := [4, 5, 6]) (by kernel_rfl) (by simp) (AllReadyH.cons (o := ?oq_1_5_4) ?op_1_5_4 (fun K hK => ?re_1_5_4) (AllReadyH.cons (o := ?oq_1_5_5) ?op_1_5_5 (fun K hK => ?re_1_5_5) (AllReadyH.cons (o := ?oq_1_5_6) ?op_1_5_6 (fun K hK => ?re_1_5_6) AllReadyH.nil)))
      case op_1_5_4 => (simp only [List.getElem?_toArray, List.getElem?_cons_succ, List.getElem?_cons_zero]; rfl)
      case op_1_5_5 => (simp only [List.getElem?_toArray, List.getElem?_cons_succ, List.getElem?_cons_zero]; rfl)
      case op_1_5_6 => (simp only [List.getElem?_toArray, List.getElem?_cons_succ, List.getElem?_cons_zero]; rfl)
      case re_1_5_4 =>
        go_simp
        have hbm : MapM (v1.alloc (.map #[] 0)) v1.heap.size 0 (fun _ _ => none) := MapM.made v1
        have bz : Below v1.heap.size v1 (v1.alloc (.map #[] 0)) := (Below.refl v1.heap.size v1).alloc (Nat.le_refl _) (.map #[] 0)
        have ne_bm_um : v1.heap.size ≠ um := fun e => by have := hbk.map.lt; omega
        replace hbk := hbk.below bz
        have hbmb : W.heap.size ≤ v1.heap.size := hb.size
        have hbq := below_step hb bz
        clear hb bz
        have hb := hbq
        clear hbq
        generalize (v1.alloc (.map #[] 0)) = v2 at *
        generalize v1.heap.size = bm at hbm hbmb ne_bm_um ⊢
        refine hK.out _ _ (by exact ⟨(hS4.out _ hb).1, (hS4.out _ hb).2.1, (hS4.out _ hb).2.2.1, (hS4.out _ hb).2.2.2.1, (hS4.out _ hb).2.2.2.2.1, (hS4.out _ hb).2.2.2.2.2.1, (hS4.out _ hb).2.2.2.2.2.2, (hC6.out _ hb).1, (hC6.out _ hb).2⟩) (fun hHeld => ?_)
        clear hK K
        try simp only [Act.put, List.setIfInBounds_toArray, List.set_cons_zero, List.set_cons_succ]
        refine wpAnyH_ready (rs := [5, 6]) (by kernel_rfl) (by simp) (AllReadyH.cons (o := ?oq_1_6_5) ?op_1_6_5 (fun K hK => ?re_1_6_5) (AllReadyH.cons (o := ?oq_1_6_6) ?op_1_6_6 (fun K hK => ?re_1_6_6) AllReadyH.nil))
        case op_1_6_5 => (simp only [List.getElem?_toArray, List.getElem?_cons_succ, List.getElem?_cons_zero]; rfl)
        case op_1_6_6 => (simp only [List.getElem?_toArray, List.getElem?_cons_succ, List.getElem?_cons_zero]; rfl)
        case re_1_6_5 =>
          go_simp
          have hsm : MapM (v2.alloc (.map #[] 0)) v2.heap.size 0 (fun _ _ => none) := MapM.made v2
          have bz : Below v2.heap.size v2 (v2.alloc (.map #[] 0)) := (Below.refl v2.heap.size v2).alloc (Nat.le_refl _) (.map #[] 0)
          have ne_sm_um : v2.heap.size ≠ um := fun e => by have := hbk.map.lt; omega
          have ne_sm_bm : v2.heap.size ≠ bm := fun e => by have := hbm.lt; omega
          replace hbk := hbk.below bz
          replace hbm := hbm.below bz
          have hsmb : W.heap.size ≤ v2.heap.size := hb.size
          have hbq := below_step hb bz
          clear hb bz
          have hb := hbq
          clear hbq
          generalize (v2.alloc (.map #[] 0)) = v3 at *
          generalize v2.heap.size = sm at hsm hsmb ne_sm_um ne_sm_bm ⊢
          refine hK.out _ _ (by exact ⟨(hS4.out _ hb).1, (hS4.out _ hb).2.1, (hS4.out _ hb).2.2.1, (hS4.out _ hb).2.2.2.1, (hS4.out _ hb).2.2.2.2.1, (hS4.out _ hb).2.2.2.2.2.1, (hS4.out _ hb).2.2.2.2.2.2, (hC6.out _ hb).1, (hC6.out _ hb).2⟩) (fun hHeld => ?_)
          clear hK K
          try simp only [Act.put, List.setIfInBounds_toArray, List.set_cons_zero, List.set_cons_succ]
          refine wpAnyH_ready (rs := [6]) (by kernel_rfl) (by simp) (AllReadyH.cons (o := ?oq_1_7_6) ?op_1_7_6 (fun K hK => ?re_1_7_6) AllReadyH.nil)
          case op_1_7_6 => (simp only [List.getElem?_toArray, List.getElem?_cons_succ, List.getElem?_cons_zero]; rfl)
          go_simp
          have hnm : MapM (v3.alloc (.map #[] 0)) v3.heap.size 0 (fun _ _ => none) := MapM.made v3
          have bz : Below v3.heap.size v3 (v3.alloc (.map #[] 0)) := (Below.refl v3.heap.size v3).alloc (Nat.le_refl _) (.map #[] 0)
          have ne_nm_um : v3.heap.size ≠ um := fun e => by have := hbk.map.lt; omega
          have ne_nm_bm : v3.heap.size ≠ bm := fun e => by have := hbm.lt; omega
          have ne_nm_sm : v3.heap.size ≠ sm := fun e => by have := hsm.lt; omega
          replace hbk := hbk.below bz
          replace hbm := hbm.below bz
          replace hsm := hsm.below bz
          have hnmb : W.heap.size ≤ v3.heap.size := hb.size
          have hbq := below_step hb bz
          clear hb bz
          have hb := hbq
          clear hbq
          generalize (v3.alloc (.map #[] 0)) = v4 at *
          generalize v3.heap.size = nm at hnm hnmb ne_nm_um ne_nm_bm ne_nm_sm ⊢
          refine hK.out _ _ (by exact ⟨(hS4.out _ hb).1, (hS4.out _ hb).2.1, (hS4.out _ hb).2.2.1, (hS4.out _ hb).2.2.2.1, (hS4.out _ hb).2.2.2.2.1, (hS4.out _ hb).2.2.2.2.2.1, (hS4.out _ hb).2.2.2.2.2.2, (hC6.out _ hb).1, (hC6.out _ hb).2⟩) (fun hHeld => ?_)
          clear hK K
          try simp only [Act.put, List.setIfInBounds_toArray, List.set_cons_zero, List.set_cons_succ]
          refine wtk 7 hHeld ?_
          refine wpAnyH_ready (rs := [8]) (by kernel_rfl) (by simp) (AllReadyH.cons (o := ?oq_1_9_8) ?op_1_9_8 (fun K hK => ?re_1_9_8) AllReadyH.nil)
          case op_1_9_8 => (simp only [List.getElem?_toArray, List.getElem?_cons_succ, List.getElem?_cons_zero]; rfl)
          go_simp
          have hXB : BlkAt (v4.alloc (.cells (mcells ⟨lb, bk, um, bm, sm, nm⟩ (.slice A c.chain.length cap) { s := s, cf := c, til := fun _ _ => 0, held := 0, beats := fun _ _ => none, lives := List.replicate 8 0, sat := fun _ _ => false, since := fun _ _ => none }).toArray 87)) v4.heap.size 87 (mcells ⟨lb, bk, um, bm, sm, nm⟩ (.slice A c.chain.length cap) { s := s, cf := c, til := fun _ _ => 0, held := 0, beats := fun _ _ => none, lives := List.replicate 8 0, sat := fun _ _ => false, since := fun _ _ => none }) := BlkAt.new v4 87 _
          have bz := (Below.refl v4.heap.size v4).alloc (Nat.le_refl _) (.cells (mcells ⟨lb, bk, um, bm, sm, nm⟩ (.slice A c.chain.length cap) { s := s, cf := c, til := fun _ _ => 0, held := 0, beats := fun _ _ => none, lives := List.replicate 8 0, sat := fun _ _ => false, since := fun _ _ => none }).toArray 87)
          have hq := below_step hb bz
          have hMq : MAt B (v4.alloc (.cells (mcells ⟨lb, bk, um, bm, sm, nm⟩ (.slice A c.chain.length cap) { s := s, cf := c, til := fun _ _ => 0, held := 0, beats := fun _ _ => none, lives := List.replicate 8 0, sat := fun _ _ => false, since := fun _ _ => none }).toArray 87)) v4.heap.size ⟨lb, bk, um, bm, sm, nm⟩ 0 { s := s, cf := c, til := fun _ _ => 0, held := 0, beats := fun _ _ => none, lives := List.replicate 8 0, sat := fun _ _ => false, since := fun _ _ => none } l :=
            ⟨⟨_, hXB, HCH.out.below hq⟩, ⟨HLOG.out.choose, HLOG.out.choose_spec.below hq⟩, hbk.below bz, hbm.below bz, hsm.below bz, hnm.below bz, ⟨(Ne.symm ne_bm_um), (Ne.symm ne_sm_um), (Ne.symm ne_nm_um), (Ne.symm ne_sm_bm), (Ne.symm ne_nm_bm), (Ne.symm ne_nm_sm)⟩, ⟨HSET.out, HRT.out, rfl, fun u hu => (by rw [List.eq_of_mem_replicate hu]; exact W64.mk (by decide) (by decide)), fun _ _ _ h => (by cases h), fun _ _ _ h => (by cases h)⟩⟩
          have hN : FNew w [lb] (MBlk.list ⟨lb, bk, um, bm, sm, nm⟩ v4.heap.size) := begin_new (Nat.le_trans HWS.out hb.size) (Nat.le_trans HWS.out hbkb) (Nat.le_trans HWS.out humb) (Nat.le_trans HWS.out hbmb) (Nat.le_trans HWS.out hsmb) (Nat.le_trans HWS.out hnmb)
          clear hb hXB hbk hbm hsm hnm bz
          have hb := hq
          clear hq
          refine hK.out _ _ (by exact ⟨(hS4.out _ hb).1, (hS4.out _ hb).2.1, (hS4.out _ hb).2.2.1, (hS4.out _ hb).2.2.2.1, (hS4.out _ hb).2.2.2.2.1, (hS4.out _ hb).2.2.2.2.2.1, (hS4.out _ hb).2.2.2.2.2.2, (hC6.out _ hb).1, (hC6.out _ hb).2⟩) (fun hHeld => ?_)
          clear hK K
          try simp only [Act.put, List.setIfInBounds_toArray, List.set_cons_zero, List.set_cons_succ]
          refine wtk 9 hHeld ?_
          refine wpAnyH_done (by kernel_rfl) ?_ _
          refine NoPanic.normal ?_
          clear hHeld
          go_wp2_with fail
          go_meet
          exact ⟨_, ⟨lb, bk, um, bm, sm, nm⟩, rfl, rfl, hMq, hb, hN⟩
        case re_1_6_6 =>
          go_simp
          have hnm : MapM (v2.alloc (.map #[] 0)) v2.heap.size 0 (fun _ _ => none) := MapM.made v2
          have bz : Below v2.heap.size v2 (v2.alloc (.map #[] 0)) := (Below.refl v2.heap.size v2).alloc (Nat.le_refl _) (.map #[] 0)
          have ne_nm_um : v2.heap.size ≠ um := fun e => by have := hbk.map.lt; omega
          have ne_nm_bm : v2.heap.size ≠ bm := fun e => by have := hbm.lt; omega
          replace hbk := hbk.below bz
          replace hbm := hbm.below bz
          have hnmb : W.heap.size ≤ v2.heap.size := hb.size
          have hbq := below_step hb bz
          clear hb bz
          have hb := hbq
          clear hbq
          generalize (v2.alloc (.map #[] 0)) = v5 at *
          generalize v2.heap.size = nm at hnm hnmb ne_nm_um ne_nm_bm ⊢
          refine hK.out _ _ (by exact ⟨(hS4.out _ hb).1, (hS4.out _ hb).2.1, (hS4.out _ hb).2.2.1, (hS4.out _ hb).2.2.2.1, (hS4.out _ hb).2.2.2.2.1, (hS4.out _ hb).2.2.2.2.2.1, (hS4.out _ hb).2.2.2.2.2.2, (hC6.out _ hb).1, (hC6.out _ hb).2⟩) (fun hHeld => ?_)
          clear hK K
          try simp only [Act.put, List.setIfInBounds_toArray, List.set_cons_zero, List.set_cons_succ]
          refine wpAnyH_ready (rs := [5]) (by kernel_rfl) (by simp) (AllReadyH.cons (o := ?oq_1_11_5) ?op_1_11_5 (fun K hK => ?re_1_11_5) AllReadyH.nil)
          case op_1_11_5 => (simp only [List.getElem?_toArray, List.getElem?_cons_succ, List.getElem?_cons_zero]; rfl)
          go_simp
          have hsm : MapM (v5.alloc (.map #[] 0)) v5.heap.size 0 (fun _ _ => none) := MapM.made v5
          have bz : Below v5.heap.size v5 (v5.alloc (.map #[] 0)) := (Below.refl v5.heap.size v5).alloc (Nat.le_refl _) (.map #[] 0)
          have ne_sm_um : v5.heap.size ≠ um := fun e => by have := hbk.map.lt; omega
          have ne_sm_bm : v5.heap.size ≠ bm := fun e => by have := hbm.lt; omega
          have ne_sm_nm : v5.heap.size ≠ nm := fun e => by have := hnm.lt; omega
          replace hbk := hbk.below bz
          replace hbm := hbm.below bz
          replace hnm := hnm.below bz
          have hsmb : W.heap.size ≤ v5.heap.size := hb.size
          have hbq := below_step hb bz
          clear hb bz
          have hb := hbq
          clear hbq
          generalize (v5.alloc (.map #[] 0)) = v6 at *
          generalize v5.heap.size = sm at hsm hsmb ne_sm_um ne_sm_bm ne_sm_nm ⊢
          refine hK.out _ _ (by exact ⟨(hS4.out _ hb).1, (hS4.out _ hb).2.1, (hS4.out _ hb).2.2.1, (hS4.out _ hb).2.2.2.1, (hS4.out _ hb).2.2.2.2.1, (hS4.out _ hb).2.2.2.2.2.1, (hS4.out _ hb).2.2.2.2.2.2, (hC6.out _ hb).1, (hC6.out _ hb).2⟩) (fun hHeld => ?_)
          clear hK K
          try simp only [Act.put, List.setIfInBounds_toArray, List.set_cons_zero, List.set_cons_succ]
          refine wtk 7 hHeld ?_
          refine wpAnyH_ready (rs := [8]) (by kernel_rfl) (by simp) (AllReadyH.cons (o := ?oq_1_13_8) ?op_1_13_8 (fun K hK => ?re_1_13_8) AllReadyH.nil)
          case op_1_13_8 => (simp only [List.getElem?_toArray, List.getElem?_cons_succ, List.getElem?_cons_zero]; rfl)
          go_simp
          have hXB : BlkAt (v6.alloc (.cells (mcells ⟨lb, bk, um, bm, sm, nm⟩ (.slice A c.chain.length cap) { s := s, cf := c, til := fun _ _ => 0, held := 0, beats := fun _ _ => none, lives := List.replicate 8 0, sat := fun _ _ => false, since := fun _ _ => none }).toArray 87)) v6.heap.size 87 (mcells ⟨lb, bk, um, bm, sm, nm⟩ (.slice A c.chain.length cap) { s := s, cf := c, til := fun _ _ => 0, held := 0, beats := fun _ _ => none, lives := List.replicate 8 0, sat := fun _ _ => false, since := fun _ _ => none }) := BlkAt.new v6 87 _
          have bz := (Below.refl v6.heap.size v6).alloc (Nat.le_refl _) (.cells (mcells ⟨lb, bk, um, bm, sm, nm⟩ (.slice A c.chain.length cap) { s := s, cf := c, til := fun _ _ => 0, held := 0, beats := fun _ _ => none, lives := List.replicate 8 0, sat := fun _ _ => false, since := fun _ _ => none }).toArray 87)
          have hq := below_step hb bz
          have hMq : MAt B (v6.alloc (.cells (mcells ⟨lb, bk, um, bm, sm, nm⟩ (.slice A c.chain.length cap) { s := s, cf := c, til := fun _ _ => 0, held := 0, beats := fun _ _ => none, lives := List.replicate 8 0, sat := fun _ _ => false, since := fun _ _ => none }).toArray 87)) v6.heap.size ⟨lb, bk, um, bm, sm, nm⟩ 0 { s := s, cf := c, til := fun _ _ => 0, held := 0, beats := fun _ _ => none, lives := List.replicate 8 0, sat := fun _ _ => false, since := fun _ _ => none } l :=
            ⟨⟨_, hXB, HCH.out.below hq⟩, ⟨HLOG.out.choose, HLOG.out.choose_spec.below hq⟩, hbk.below bz, hbm.below bz, hsm.below bz, hnm.below bz, ⟨(Ne.symm ne_bm_um), (Ne.symm ne_sm_um), (Ne.symm ne_nm_um), (Ne.symm ne_sm_bm), (Ne.symm ne_nm_bm), ne_sm_nm⟩, ⟨HSET.out, HRT.out, rfl, fun u hu => (by rw [List.eq_of_mem_replicate hu]; exact W64.mk (by decide) (by decide)), fun _ _ _ h => (by cases h), fun _ _ _ h => (by cases h)⟩⟩
          have hN : FNew w [lb] (MBlk.list ⟨lb, bk, um, bm, sm, nm⟩ v6.heap.size) := begin_new (Nat.le_trans HWS.out hb.size) (Nat.le_trans HWS.out hbkb) (Nat.le_trans HWS.out humb) (Nat.le_trans HWS.out hbmb) (Nat.le_trans HWS.out hsmb) (Nat.le_trans HWS.out hnmb)
          clear hb hXB hbk hbm hsm hnm bz
          have hb := hq
          clear hq
          refine hK.out _ _ (by exact ⟨(hS4.out _ hb).1, (hS4.out _ hb).2.1, (hS4.out _ hb).2.2.1, (hS4.out _ hb).2.2.2.1, (hS4.out _ hb).2.2.2.2.1, (hS4.out _ hb).2.2.2.2.2.1, (hS4.out _ hb).2.2.2.2.2.2, (hC6.out _ hb).1, (hC6.out _ hb).2⟩) (fun hHeld => ?_)
          clear hK K
          try simp only [Act.put, List.setIfInBounds_toArray, List.set_cons_zero, List.set_cons_succ]
          refine wtk 9 hHeld ?_
          refine wpAnyH_done (by kernel_rfl) ?_ _
          refine NoPanic.normal ?_
          clear hHeld
          go_wp2_with fail
          go_meet
          exact ⟨_, ⟨lb, bk, um, bm, sm, nm⟩, rfl, rfl, hMq, hb, hN⟩
      case re_1_5_5 =>
        go_simp
        have hsm : MapM (v1.alloc (.map #[] 0)) v1.heap.size 0 (fun _ _ => none) := MapM.made v1
        have bz : Below v1.heap.size v1 (v1.alloc (.map #[] 0)) := (Below.refl v1.heap.size v1).alloc (Nat.le_refl _) (.map #[] 0)
        have ne_sm_um : v1.heap.size ≠ um := fun e => by have := hbk.map.lt; omega
        replace hbk := hbk.below bz
        have hsmb : W.heap.size ≤ v1.heap.size := hb.size
        have hbq := below_step hb bz
        clear hb bz
        have hb := hbq
        clear hbq
        generalize (v1.alloc (.map #[] 0)) = v7 at *
        generalize v1.heap.size = sm at hsm hsmb ne_sm_um ⊢
        refine hK.out _ _ (by exact ⟨(hS4.out _ hb).1, (hS4.out _ hb).2.1, (hS4.out _ hb).2.2.1, (hS4.out _ hb).2.2.2.1, (hS4.out _ hb).2.2.2.2.1, (hS4.out _ hb).2.2.2.2.2.1, (hS4.out _ hb).2.2.2.2.2.2, (hC6.out _ hb).1, (hC6.out _ hb).2⟩) (fun hHeld => ?_)
        clear hK K
        try simp only [Act.put, List.setIfInBounds_toArray, List.set_cons_zero, List.set_cons_succ]
        refine wpAnyH_ready (rs := [4, 6]) (by kernel_rfl) (by simp) (AllReadyH.cons (o := ?oq_1_15_4) ?op_1_15_4 (fun K hK => ?re_1_15_4) (AllReadyH.cons (o := ?oq_1_15_6) ?op_1_15_6 (fun K hK => ?re_1_15_6) AllReadyH.nil))
        case op_1_15_4 => (simp only [List.getElem?_toArray, List.getElem?_cons_succ, List.getElem?_cons_zero]; rfl)
        case op_1_15_6 => (simp only [List.getElem?_toArray, List.getElem?_cons_succ, List.getElem?_cons_zero]; rfl)
        case re_1_15_4 =>
          go_simp
          have hbm : MapM (v7.alloc (.map #[] 0)) v7.heap.size 0 (fun _ _ => none) := MapM.made v7
          have bz : Below v7.heap.size v7 (v7.alloc (.map #[] 0)) := (Below.refl v7.heap.size v7).alloc (Nat.le_refl _) (.map #[] 0)
          have ne_bm_um : v7.heap.size ≠ um := fun e => by have := hbk.map.lt; omega
          have ne_bm_sm : v7.heap.size ≠ sm := fun e => by have := hsm.lt; omega
          replace hbk := hbk.below bz
          replace hsm := hsm.below bz
          have hbmb : W.heap.size ≤ v7.heap.size := hb.size
          have hbq := below_step hb bz
          clear hb bz
          have hb := hbq
          clear hbq
          generalize (v7.alloc (.map #[] 0)) = v8 at *
          generalize v7.heap.size = bm at hbm hbmb ne_bm_um ne_bm_sm ⊢
          refine hK.out _ _ (by exact ⟨(hS4.out _ hb).1, (hS4.out _ hb).2.1, (hS4.out _ hb).2.2.1, (hS4.out _ hb).2.2.2.1, (hS4.out _ hb).2.2.2.2.1, (hS4.out _ hb).2.2.2.2.2.1, (hS4.out _ hb).2.2.2.2.2.2, (hC6.out _ hb).1, (hC6.out _ hb).2⟩) (fun hHeld => ?_)
          clear hK K
          try simp only [Act.put, List.setIfInBounds_toArray, List.set_cons_zero, List.set_cons_succ]
          refine wpAnyH_ready (rs := [6]) (by kernel_rfl) (by simp) (AllReadyH.cons (o := ?oq_1_16_6) ?op_1_16_6 (fun K hK => ?re_1_16_6) AllReadyH.nil)
          case op_1_16_6 => (simp only [List.getElem?_toArray, List.getElem?_cons_succ, List.getElem?_cons_zero]; rfl)
          go_simp
          have hnm : MapM (v8.alloc (.map #[] 0)) v8.heap.size 0 (fun _ _ => none) := MapM.made v8
          have bz : Below v8.heap.size v8 (v8.alloc (.map #[] 0)) := (Below.refl v8.heap.size v8).alloc (Nat.le_refl _) (.map #[] 0)
          have ne_nm_um : v8.heap.size ≠ um := fun e => by have := hbk.map.lt; omega
          have ne_nm_sm : v8.heap.size ≠ sm := fun e => by have := hsm.lt; omega
          have ne_nm_bm : v8.heap.size ≠ bm := fun e => by have := hbm.lt; omega
          replace hbk := hbk.below bz
          replace hsm := hsm.below bz
          replace hbm := hbm.below bz
          have hnmb : W.heap.size ≤ v8.heap.size := hb.size
          have hbq := below_step hb bz
          clear hb bz
          have hb := hbq
          clear hbq
          generalize (v8.alloc (.map #[] 0)) = v9 at *
          generalize v8.heap.size = nm at hnm hnmb ne_nm_um ne_nm_sm ne_nm_bm ⊢
          refine hK.out _ _ (by exact ⟨(hS4.out _ hb).1, (hS4.out _ hb).2.1, (hS4.out _ hb).2.2.1, (hS4.out _ hb).2.2.2.1, (hS4.out _ hb).2.2.2.2.1, (hS4.out _ hb).2.2.2.2.2.1, (hS4.out _ hb).2.2.2.2.2.2, (hC6.out _ hb).1, (hC6.out _ hb).2⟩) (fun hHeld => ?_)
          clear hK K
          try simp only [Act.put, List.setIfInBounds_toArray, List.set_cons_zero, List.set_cons_succ]
          refine wtk 7 hHeld ?_
          refine wpAnyH_ready (rs := [8]) (by kernel_rfl) (by simp) (AllReadyH.cons (o := ?oq_1_18_8) ?op_1_18_8 (fun K hK => ?re_1_18_8) AllReadyH.nil)
          case op_1_18_8 => (simp only [List.getElem?_toArray, List.getElem?_cons_succ, List.getElem?_cons_zero]; rfl)
          go_simp
          have hXB : BlkAt (v9.alloc (.cells (mcells ⟨lb, bk, um, bm, sm, nm⟩ (.slice A c.chain.length cap) { s := s, cf := c, til := fun _ _ => 0, held := 0, beats := fun _ _ => none, lives := List.replicate 8 0, sat := fun _ _ => false, since := fun _ _ => none }).toArray 87)) v9.heap.size 87 (mcells ⟨lb, bk, um, bm, sm, nm⟩ (.slice A c.chain.length cap) { s := s, cf := c, til := fun _ _ => 0, held := 0, beats := fun _ _ => none, lives := List.replicate 8 0, sat := fun _ _ => false, since := fun _ _ => none }) := BlkAt.new v9 87 _
          have bz := (Below.refl v9.heap.size v9).alloc (Nat.le_refl _) (.cells (mcells ⟨lb, bk, um, bm, sm, nm⟩ (.slice A c.chain.length cap) { s := s, cf := c, til := fun _ _ => 0, held := 0, beats := fun _ _ => none, lives := List.replicate 8 0, sat := fun _ _ => false, since := fun _ _ => none }).toArray 87)
          have hq := below_step hb bz
          have hMq : MAt B (v9.alloc (.cells (mcells ⟨lb, bk, um, bm, sm, nm⟩ (.slice A c.chain.length cap) { s := s, cf := c, til := fun _ _ => 0, held := 0, beats := fun _ _ => none, lives := List.replicate 8 0, sat := fun _ _ => false, since := fun _ _ => none }).toArray 87)) v9.heap.size ⟨lb, bk, um, bm, sm, nm⟩ 0 { s := s, cf := c, til := fun _ _ => 0, held := 0, beats := fun _ _ => none, lives := List.replicate 8 0, sat := fun _ _ => false, since := fun _ _ => none } l :=
            ⟨⟨_, hXB, HCH.out.below hq⟩, ⟨HLOG.out.choose, HLOG.out.choose_spec.below hq⟩, hbk.below bz, hbm.below bz, hsm.below bz, hnm.below bz, ⟨(Ne.symm ne_bm_um), (Ne.symm ne_sm_um), (Ne.symm ne_nm_um), ne_bm_sm, (Ne.symm ne_nm_bm), (Ne.symm ne_nm_sm)⟩, ⟨HSET.out, HRT.out, rfl, fun u hu => (by rw [List.eq_of_mem_replicate hu]; exact W64.mk (by decide) (by decide)), fun _ _ _ h => (by cases h), fun _ _ _ h => (by cases h)⟩⟩
          have hN : FNew w [lb] (MBlk.list ⟨lb, bk, um, bm, sm, nm⟩ v9.heap.size) := begin_new (Nat.le_trans HWS.out hb.size) (Nat.le_trans HWS.out hbkb) (Nat.le_trans HWS.out humb) (Nat.le_trans HWS.out hbmb) (Nat.le_trans HWS.out hsmb) (Nat.le_trans HWS.out hnmb)
          clear hb hXB hbk hbm hsm hnm bz
          have hb := hq
          clear hq
          refine hK.out _ _ (by exact ⟨(hS4.out _ hb).1, (hS4.out _ hb).2.1, (hS4.out _ hb).2.2.1, (hS4.out _ hb).2.2.2.1, (hS4.out _ hb).2.2.2.2.1, (hS4.out _ hb).2.2.2.2.2.1, (hS4.out _ hb).2.2.2.2.2.2, (hC6.out _ hb).1, (hC6.out _ hb).2⟩) (fun hHeld => ?_)
          clear hK K
          try simp only [Act.put, List.setIfInBounds_toArray, List.set_cons_zero, List.set_cons_succ]
          refine wtk 9 hHeld ?_
          refine wpAnyH_done (by kernel_rfl) ?_ _
          refine NoPanic.normal ?_
          clear hHeld
          go_wp2_with fail
          go_meet
          exact ⟨_, ⟨lb, bk, um, bm, sm, nm⟩, rfl, rfl, hMq, hb, hN⟩
        case re_1_15_6 =>
          go_simp
          have hnm : MapM (v7.alloc (.map #[] 0)) v7.heap.size 0 (fun _ _ => none) := MapM.made v7
          have bz : Below v7.heap.size v7 (v7.alloc (.map #[] 0)) := (Below.refl v7.heap.size v7).alloc (Nat.le_refl _) (.map #[] 0)
          have ne_nm_um : v7.heap.size ≠ um := fun e => by have := hbk.map.lt; omega
          have ne_nm_sm : v7.heap.size ≠ sm := fun e => by have := hsm.lt; omega
          replace hbk := hbk.below bz
          replace hsm := hsm.below bz
          have hnmb : W.heap.size ≤ v7.heap.size := hb.size
          have hbq := below_step hb bz
          clear hb bz
          have hb := hbq
          clear hbq
          generalize (v7.alloc (.map #[] 0)) = v10 at *
          generalize v7.heap.size = nm at hnm hnmb ne_nm_um ne_nm_sm ⊢
          refine hK.out _ _ (by exact ⟨(hS4.out _ hb).1, (hS4.out _ hb).2.1, (hS4.out _ hb).2.2.1, (hS4.out _ hb).2.2.2.1, (hS4.out _ hb).2.2.2.2.1, (hS4.out _ hb).2.2.2.2.2.1, (hS4.out _ hb).2.2.2.2.2.2, (hC6.out _ hb).1, (hC6.out _ hb).2⟩) (fun hHeld => ?_)
          clear hK K
          try simp only [Act.put, List.setIfInBounds_toArray, List.set_cons_zero, List.set_cons_succ]
          refine wpAnyH_ready (rs := [4]) (by kernel_rfl) (by simp) (AllReadyH.cons (o := ?oq_1_20_4) ?op_1_20_4 (fun K hK => ?re_1_20_4) AllReadyH.nil)
          case op_1_20_4 => (simp only [List.getElem?_toArray, List.getElem?_cons_succ, List.getElem?_cons_zero]; rfl)
          go_simp
          have hbm : MapM (v10.alloc (.map #[] 0)) v10.heap.size 0 (fun _ _ => none) := MapM.made v10
          have bz : Below v10.heap.size v10 (v10.alloc (.map #[] 0)) := (Below.refl v10.heap.size v10).alloc (Nat.le_refl _) (.map #[] 0)
          have ne_bm_um : v10.heap.size ≠ um := fun e => by have := hbk.map.lt; omega
          have ne_bm_sm : v10.heap.size ≠ sm := fun e => by have := hsm.lt; omega
          have ne_bm_nm : v10.heap.size ≠ nm := fun e => by have := hnm.lt; omega
          replace hbk := hbk.below bz
          replace hsm := hsm.below bz
          replace hnm := hnm.below bz
          have hbmb : W.heap.size ≤ v10.heap.size := hb.size
          have hbq := below_step hb bz
          clear hb bz
          have hb := hbq
          clear hbq
          generalize (v10.alloc (.map #[] 0)) = v11 at *
          generalize v10.heap.size = bm at hbm hbmb ne_bm_um ne_bm_sm ne_bm_nm ⊢
          refine hK.out _ _ (by exact ⟨(hS4.out _ hb).1, (hS4.out _ hb).2.1, (hS4.out _ hb).2.2.1, (hS4.out _ hb).2.2.2.1, (hS4.out _ hb).2.2.2.2.1, (hS4.out _ hb).2.2.2.2.2.1, (hS4.out _ hb).2.2.2.2.2.2, (hC6.out _ hb).1, (hC6.out _ hb).2⟩) (fun hHeld => ?_)
          clear hK K
          try simp only [Act.put, List.setIfInBounds_toArray, List.set_cons_zero, List.set_cons_succ]
          refine wtk 7 hHeld ?_
          refine wpAnyH_ready (rs := [8]) (by kernel_rfl) (by simp) (AllReadyH.cons (o := ?oq_1_22_8) ?op_1_22_8 (fun K hK => ?re_1_22_8) AllReadyH.nil)
          case op_1_22_8 => (simp only [List.getElem?_toArray, List.getElem?_cons_succ, List.getElem?_cons_zero]; rfl)
          go_simp
          have hXB : BlkAt (v11.alloc (.cells (mcells ⟨lb, bk, um, bm, sm, nm⟩ (.slice A c.chain.length cap) { s := s, cf := c, til := fun _ _ => 0, held := 0, beats := fun _ _ => none, lives := List.replicate 8 0, sat := fun _ _ => false, since := fun _ _ => none }).toArray 87)) v11.heap.size 87 (mcells ⟨lb, bk, um, bm, sm, nm⟩ (.slice A c.chain.length cap) { s := s, cf := c, til := fun _ _ => 0, held := 0, beats := fun _ _ => none, lives := List.replicate 8 0, sat := fun _ _ => false, since := fun _ _ => none }) := BlkAt.new v11 87 _
          have bz := (Below.refl v11.heap.size v11).alloc (Nat.le_refl _) (.cells (mcells ⟨lb, bk, um, bm, sm, nm⟩ (.slice A c.chain.length cap) { s := s, cf := c, til := fun _ _ => 0, held := 0, beats := fun _ _ => none, lives := List.replicate 8 0, sat := fun _ _ => false, since := fun _ _ => none }).toArray 87)
          have hq := below_step hb bz
          have hMq : MAt B (v11.alloc (.cells (mcells ⟨lb, bk, um, bm, sm, nm⟩ (.slice A c.chain.length cap) { s := s, cf := c, til := fun _ _ => 0, held := 0, beats := fun _ _ => none, lives := List.replicate 8 0, sat := fun _ _ => false, since := fun _ _ => none }).toArray 87)) v11.heap.size ⟨lb, bk, um, bm, sm, nm⟩ 0 { s := s, cf := c, til := fun _ _ => 0, held := 0, beats := fun _ _ => none, lives := List.replicate 8 0, sat := fun _ _ => false, since := fun _ _ => none } l :=
            ⟨⟨_, hXB, HCH.out.below hq⟩, ⟨HLOG.out.choose, HLOG.out.choose_spec.below hq⟩, hbk.below bz, hbm.below bz, hsm.below bz, hnm.below bz, ⟨(Ne.symm ne_bm_um), (Ne.symm ne_sm_um), (Ne.symm ne_nm_um), ne_bm_sm, ne_bm_nm, (Ne.symm ne_nm_sm)⟩, ⟨HSET.out, HRT.out, rfl, fun u hu => (by rw [List.eq_of_mem_replicate hu]; exact W64.mk (by decide) (by decide)), fun _ _ _ h => (by cases h), fun _ _ _ h => (by cases h)⟩⟩
          have hN : FNew w [lb] (MBlk.list ⟨lb, bk, um, bm, sm, nm⟩ v11.heap.size) := begin_new (Nat.le_trans HWS.out hb.size) (Nat.le_trans HWS.out hbkb) (Nat.le_trans HWS.out humb) (Nat.le_trans HWS.out hbmb) (Nat.le_trans HWS.out hsmb) (Nat.le_trans HWS.out hnmb)
          clear hb hXB hbk hbm hsm hnm bz
          have hb := hq
          clear hq
          refine hK.out _ _ (by exact ⟨(hS4.out _ hb).1, (hS4.out _ hb).2.1, (hS4.out _ hb).2.2.1, (hS4.out _ hb).2.2.2.1, (hS4.out _ hb).2.2.2.2.1, (hS4.out _ hb).2.2.2.2.2.1, (hS4.out _ hb).2.2.2.2.2.2, (hC6.out _ hb).1, (hC6.out _ hb).2⟩) (fun hHeld => ?_)
          clear hK K
          try simp only [Act.put, List.setIfInBounds_toArray, List.set_cons_zero, List.set_cons_succ]
          refine wtk 9 hHeld ?_
          refine wpAnyH_done (by kernel_rfl) ?_ _
          refine NoPanic.normal ?_
          clear hHeld
          go_wp2_with fail
          go_meet
          exact ⟨_, ⟨lb, bk, um, bm, sm, nm⟩, rfl, rfl, hMq, hb, hN⟩
      case re_1_5_6 =>
        go_simp
        have hnm : MapM (v1.alloc (.map #[] 0)) v1.heap.size 0 (fun _ _ => none) := MapM.made v1
        have bz : Below v1.heap.size v1 (v1.alloc (.map #[] 0)) := (Below.refl v1.heap.size v1).alloc (Nat.le_refl _) (.map #[] 0)
        have ne_nm_um : v1.heap.size ≠ um := fun e => by have := hbk.map.lt; omega
        replace hbk := hbk.below bz
        have hnmb : W.heap.size ≤ v1.heap.size := hb.size
        have hbq := below_step hb bz
        clear hb bz
        have hb := hbq
        clear hbq
        generalize (v1.alloc (.map #[] 0)) = v12 at *
        generalize v1.heap.size = nm at hnm hnmb ne_nm_um ⊢
        refine hK.out _ _ (by exact ⟨(hS4.out _ hb).1, (hS4.out _ hb).2.1, (hS4.out _ hb).2.2.1, (hS4.out _ hb).2.2.2.1, (hS4.out _ hb).2.2.2.2.1, (hS4.out _ hb).2.2.2.2.2.1, (hS4.out _ hb).2.2.2.2.2.2, (hC6.out _ hb).1, (hC6.out _ hb).2⟩) (fun hHeld => ?_)
        clear hK K
        try simp only [Act.put, List.setIfInBounds_toArray, List.set_cons_zero, List.set_cons_succ]
        refine wpAnyH_ready (rs := [4, 5]) (by kernel_rfl) (by simp) (AllReadyH.cons (o := ?oq_1_24_4) ?op_1_24_4 (fun K hK => ?re_1_24_4) (AllReadyH.cons (o := ?oq_1_24_5) ?op_1_24_5 (fun K hK => ?re_1_24_5) AllReadyH.nil))
        case op_1_24_4 => (simp only [List.getElem?_toArray, List.getElem?_cons_succ, List.getElem?_cons_zero]; rfl)
        case op_1_24_5 => (simp only [List.getElem?_toArray, List.getElem?_cons_succ, List.getElem?_cons_zero]; rfl)
        case re_1_24_4 =>
          go_simp
          have hbm : MapM (v12.alloc (.map #[] 0)) v12.heap.size 0 (fun _ _ => none) := MapM.made v12
          have bz : Below v12.heap.size v12 (v12.alloc (.map #[] 0)) := (Below.refl v12.heap.size v12).alloc (Nat.le_refl _) (.map #[] 0)
          have ne_bm_um : v12.heap.size ≠ um := fun e => by have := hbk.map.lt; omega
          have ne_bm_nm : v12.heap.size ≠ nm := fun e => by have := hnm.lt; omega
          replace hbk := hbk.below bz
          replace hnm := hnm.below bz
          have hbmb : W.heap.size ≤ v12.heap.size := hb.size
          have hbq := below_step hb bz
          clear hb bz
          have hb := hbq
          clear hbq
          generalize (v12.alloc (.map #[] 0)) = v13 at *
          generalize v12.heap.size = bm at hbm hbmb ne_bm_um ne_bm_nm ⊢
          refine hK.out _ _ (by exact ⟨(hS4.out _ hb).1, (hS4.out _ hb).2.1, (hS4.out _ hb).2.2.1, (hS4.out _ hb).2.2.2.1, (hS4.out _ hb).2.2.2.2.1, (hS4.out _ hb).2.2.2.2.2.1, (hS4.out _ hb).2.2.2.2.2.2, (hC6.out _ hb).1, (hC6.out _ hb).2⟩) (fun hHeld => ?_)
          clear hK K
          try simp only [Act.put, List.setIfInBounds_toArray, List.set_cons_zero, List.set_cons_succ]
          refine wpAnyH_ready (rs := [5]) (by kernel_rfl) (by simp) (AllReadyH.cons (o := ?oq_1_25_5) ?op_1_25_5 (fun K hK => ?re_1_25_5) AllReadyH.nil)
          case op_1_25_5 => (simp only [List.getElem?_toArray, List.getElem?_cons_succ, List.getElem?_cons_zero]; rfl)
          go_simp
          have hsm : MapM (v13.alloc (.map #[] 0)) v13.heap.size 0 (fun _ _ => none) := MapM.made v13
          have bz : Below v13.heap.size v13 (v13.alloc (.map #[] 0)) := (Below.refl v13.heap.size v13).alloc (Nat.le_refl _) (.map #[] 0)
          have ne_sm_um : v13.heap.size ≠ um := fun e => by have := hbk.map.lt; omega
          have ne_sm_nm : v13.heap.size ≠ nm := fun e => by have := hnm.lt; omega
          have ne_sm_bm : v13.heap.size ≠ bm := fun e => by have := hbm.lt; omega
          replace hbk := hbk.below bz
          replace hnm := hnm.below bz
          replace hbm := hbm.below bz
          have hsmb : W.heap.size ≤ v13.heap.size := hb.size
          have hbq := below_step hb bz
          clear hb bz
          have hb := hbq
          clear hbq
          generalize (v13.alloc (.map #[] 0)) = v14 at *
          generalize v13.heap.size = sm at hsm hsmb ne_sm_um ne_sm_nm ne_sm_bm ⊢
          refine hK.out _ _ (by exact ⟨(hS4.out _ hb).1, (hS4.out _ hb).2.1, (hS4.out _ hb).2.2.1, (hS4.out _ hb).2.2.2.1, (hS4.out _ hb).2.2.2.2.1, (hS4.out _ hb).2.2.2.2.2.1, (hS4.out _ hb).2.2.2.2.2.2, (hC6.out _ hb).1, (hC6.out _ hb).2⟩) (fun hHeld => ?_)
          clear hK K
          try simp only [Act.put, List.setIfInBounds_toArray, List.set_cons_zero, List.set_cons_succ]
          refine wtk 7 hHeld ?_
          refine wpAnyH_ready (rs := [8]) (by kernel_rfl) (by simp) (AllReadyH.cons (o := ?oq_1_27_8) ?op_1_27_8 (fun K hK => ?re_1_27_8) AllReadyH.nil)
          case op_1_27_8 => (simp only [List.getElem?_toArray, List.getElem?_cons_succ, List.getElem?_cons_zero]; rfl)
          go_simp
          have hXB : BlkAt (v14.alloc (.cells (mcells ⟨lb, bk, um, bm, sm, nm⟩ (.slice A c.chain.length cap) { s := s, cf := c, til := fun _ _ => 0, held := 0, beats := fun _ _ => none, lives := List.replicate 8 0, sat := fun _ _ => false, since := fun _ _ => none }).toArray 87)) v14.heap.size 87 (mcells ⟨lb, bk, um, bm, sm, nm⟩ (.slice A c.chain.length cap) { s := s, cf := c, til := fun _ _ => 0, held := 0, beats := fun _ _ => none, lives := List.replicate 8 0, sat := fun _ _ => false, since := fun _ _ => none }) := BlkAt.new v14 87 _
          have bz := (Below.refl v14.heap.size v14).alloc (Nat.le_refl _) (.cells (mcells ⟨lb, bk, um, bm, sm, nm⟩ (.slice A c.chain.length cap) { s := s, cf := c, til := fun _ _ => 0, held := 0, beats := fun _ _ => none, lives := List.replicate 8 0, sat := fun _ _ => false, since := fun _ _ => none }).toArray 87)
          have hq := below_step hb bz
          have hMq : MAt B (v14.alloc (.cells (mcells ⟨lb, bk, um, bm, sm, nm⟩ (.slice A c.chain.length cap) { s := s, cf := c, til := fun _ _ => 0, held := 0, beats := fun _ _ => none, lives := List.replicate 8 0, sat := fun _ _ => false, since := fun _ _ => none }).toArray 87)) v14.heap.size ⟨lb, bk, um, bm, sm, nm⟩ 0 { s := s, cf := c, til := fun _ _ => 0, held := 0, beats := fun _ _ => none, lives := List.replicate 8 0, sat := fun _ _ => false, since := fun _ _ => none } l :=
            ⟨⟨_, hXB, HCH.out.below hq⟩, ⟨HLOG.out.choose, HLOG.out.choose_spec.below hq⟩, hbk.below bz, hbm.below bz, hsm.below bz, hnm.below bz, ⟨(Ne.symm ne_bm_um), (Ne.symm ne_sm_um), (Ne.symm ne_nm_um), (Ne.symm ne_sm_bm), ne_bm_nm, ne_sm_nm⟩, ⟨HSET.out, HRT.out, rfl, fun u hu => (by rw [List.eq_of_mem_replicate hu]; exact W64.mk (by decide) (by decide)), fun _ _ _ h => (by cases h), fun _ _ _ h => (by cases h)⟩⟩
          have hN : FNew w [lb] (MBlk.list ⟨lb, bk, um, bm, sm, nm⟩ v14.heap.size) := begin_new (Nat.le_trans HWS.out hb.size) (Nat.le_trans HWS.out hbkb) (Nat.le_trans HWS.out humb) (Nat.le_trans HWS.out hbmb) (Nat.le_trans HWS.out hsmb) (Nat.le_trans HWS.out hnmb)
          clear hb hXB hbk hbm hsm hnm bz
          have hb := hq
          clear hq
          refine hK.out _ _ (by exact ⟨(hS4.out _ hb).1, (hS4.out _ hb).2.1, (hS4.out _ hb).2.2.1, (hS4.out _ hb).2.2.2.1, (hS4.out _ hb).2.2.2.2.1, (hS4.out _ hb).2.2.2.2.2.1, (hS4.out _ hb).2.2.2.2.2.2, (hC6.out _ hb).1, (hC6.out _ hb).2⟩) (fun hHeld => ?_)
          clear hK K
          try simp only [Act.put, List.setIfInBounds_toArray, List.set_cons_zero, List.set_cons_succ]
          refine wtk 9 hHeld ?_
          refine wpAnyH_done (by kernel_rfl) ?_ _
          refine NoPanic.normal ?_
          clear hHeld
          go_wp2_with fail
          go_meet
          exact ⟨_, ⟨lb, bk, um, bm, sm, nm⟩, rfl, rfl, hMq, hb, hN⟩
        case re_1_24_5 =>
          go_simp
          have hsm : MapM (v12.alloc (.map #[] 0)) v12.heap.size 0 (fun _ _ => none) := MapM.made v12
          have bz : Below v12.heap.size v12 (v12.alloc (.map #[] 0)) := (Below.refl v12.heap.size v12).alloc (Nat.le_refl _) (.map #[] 0)
          have ne_sm_um : v12.heap.size ≠ um := fun e => by have := hbk.map.lt; omega
          have ne_sm_nm : v12.heap.size ≠ nm := fun e => by have := hnm.lt; omega
          replace hbk := hbk.below bz
          replace hnm := hnm.below bz
          have hsmb : W.heap.size ≤ v12.heap.size := hb.size
          have hbq := below_step hb bz
          clear hb bz
          have hb := hbq
          clear hbq
          generalize (v12.alloc (.map #[] 0)) = v15 at *
          generalize v12.heap.size = sm at hsm hsmb ne_sm_um ne_sm_nm ⊢
          refine hK.out _ _ (by exact ⟨(hS4.out _ hb).1, (hS4.out _ hb).2.1, (hS4.out _ hb).2.2.1, (hS4.out _ hb).2.2.2.1, (hS4.out _ hb).2.2.2.2.1, (hS4.out _ hb).2.2.2.2.2.1, (hS4.out _ hb).2.2.2.2.2.2, (hC6.out _ hb).1, (hC6.out _ hb).2⟩) (fun hHeld => ?_)
          clear hK K
          try simp only [Act.put, List.setIfInBounds_toArray, List.set_cons_zero, List.set_cons_succ]
          refine wpAnyH_ready (rs := [4]) (by kernel_rfl) (by simp) (AllReadyH.cons (o := ?oq_1_29_4) ?op_1_29_4 (fun K hK => ?re_1_29_4) AllReadyH.nil)
          case op_1_29_4 => (simp only [List.getElem?_toArray, List.getElem?_cons_succ, List.getElem?_cons_zero]; rfl)
          go_simp
          have hbm : MapM (v15.alloc (.map #[] 0)) v15.heap.size 0 (fun _ _ => none) := MapM.made v15
          have bz : Below v15.heap.size v15 (v15.alloc (.map #[] 0)) := (Below.refl v15.heap.size v15).alloc (Nat.le_refl _) (.map #[] 0)
          have ne_bm_um : v15.heap.size ≠ um := fun e => by have := hbk.map.lt; omega
          have ne_bm_nm : v15.heap.size ≠ nm := fun e => by have := hnm.lt; omega
          have ne_bm_sm : v15.heap.size ≠ sm := fun e => by have := hsm.lt; omega
          replace hbk := hbk.below bz
          replace hnm := hnm.below bz
          replace hsm := hsm.below bz
          have hbmb : W.heap.size ≤ v15.heap.size := hb.size
          have hbq := below_step hb bz
          clear hb bz
          have hb := hbq
          clear hbq
          generalize (v15.alloc (.map #[] 0)) = v16 at *
          generalize v15.heap.size = bm at hbm hbmb ne_bm_um ne_bm_nm ne_bm_sm ⊢
          refine hK.out _ _ (by exact ⟨(hS4.out _ hb).1, (hS4.out _ hb).2.1, (hS4.out _ hb).2.2.1, (hS4.out _ hb).2.2.2.1, (hS4.out _ hb).2.2.2.2.1, (hS4.out _ hb).2.2.2.2.2.1, (hS4.out _ hb).2.2.2.2.2.2, (hC6.out _ hb).1, (hC6.out _ hb).2⟩) (fun hHeld => ?_)
          clear hK K
          try simp only [Act.put, List.setIfInBounds_toArray, List.set_cons_zero, List.set_cons_succ]
          refine wtk 7 hHeld ?_
          refine wpAnyH_ready (rs := [8]) (by kernel_rfl) (by simp) (AllReadyH.cons (o := ?oq_1_31_8) ?op_1_31_8 (fun K hK => ?re_1_31_8) AllReadyH.nil)
          case op_1_31_8 => (simp only [List.getElem?_toArray, List.getElem?_cons_succ, List.getElem?_cons_zero]; rfl)
          go_simp
          have hXB : BlkAt (v16.alloc (.cells (mcells ⟨lb, bk, um, bm, sm, nm⟩ (.slice A c.chain.length cap) { s := s, cf := c, til := fun _ _ => 0, held := 0, beats := fun _ _ => none, lives := List.replicate 8 0, sat := fun _ _ => false, since := fun _ _ => none }).toArray 87)) v16.heap.size 87 (mcells ⟨lb, bk, um, bm, sm, nm⟩ (.slice A c.chain.length cap) { s := s, cf := c, til := fun _ _ => 0, held := 0, beats := fun _ _ => none, lives := List.replicate 8 0, sat := fun _ _ => false, since := fun _ _ => none }) := BlkAt.new v16 87 _
          have bz := (Below.refl v16.heap.size v16).alloc (Nat.le_refl _) (.cells (mcells ⟨lb, bk, um, bm, sm, nm⟩ (.slice A c.chain.length cap) { s := s, cf := c, til := fun _ _ => 0, held := 0, beats := fun _ _ => none, lives := List.replicate 8 0, sat := fun _ _ => false, since := fun _ _ => none }).toArray 87)
          have hq := below_step hb bz
          have hMq : MAt B (v16.alloc (.cells (mcells ⟨lb, bk, um, bm, sm, nm⟩ (.slice A c.chain.length cap) { s := s, cf := c, til := fun _ _ => 0, held := 0, beats := fun _ _ => none, lives := List.replicate 8 0, sat := fun _ _ => false, since := fun _ _ => none }).toArray 87)) v16.heap.size ⟨lb, bk, um, bm, sm, nm⟩ 0 { s := s, cf := c, til := fun _ _ => 0, held := 0, beats := fun _ _ => none, lives := List.replicate 8 0, sat := fun _ _ => false, since := fun _ _ => none } l :=
            ⟨⟨_, hXB, HCH.out.below hq⟩, ⟨HLOG.out.choose, HLOG.out.choose_spec.below hq⟩, hbk.below bz, hbm.below bz, hsm.below bz, hnm.below bz, ⟨(Ne.symm ne_bm_um), (Ne.symm ne_sm_um), (Ne.symm ne_nm_um), ne_bm_sm, ne_bm_nm, ne_sm_nm⟩, ⟨HSET.out, HRT.out, rfl, fun u hu => (by rw [List.eq_of_mem_replicate hu]; exact W64.mk (by decide) (by decide)), fun _ _ _ h => (by cases h), fun _ _ _ h => (by cases h)⟩⟩
          have hN : FNew w [lb] (MBlk.list ⟨lb, bk, um, bm, sm, nm⟩ v16.heap.size) := begin_new (Nat.le_trans HWS.out hb.size) (Nat.le_trans HWS.out hbkb) (Nat.le_trans HWS.out humb) (Nat.le_trans HWS.out hbmb) (Nat.le_trans HWS.out hsmb) (Nat.le_trans HWS.out hnmb)
          clear hb hXB hbk hbm hsm hnm bz
          have hb := hq
          clear hq
          refine hK.out _ _ (by exact ⟨(hS4.out _ hb).1, (hS4.out _ hb).2.1, (hS4.out _ hb).2.2.1, (hS4.out _ hb).2.2.2.1, (hS4.out _ hb).2.2.2.2.1, (hS4.out _ hb).2.2.2.2.2.1, (hS4.out _ hb).2.2.2.2.2.2, (hC6.out _ hb).1, (hC6.out _ hb).2⟩) (fun hHeld => ?_)
          clear hK K
          try simp only [Act.put, List.setIfInBounds_toArray, List.set_cons_zero, List.set_cons_succ]
          refine wtk 9 hHeld ?_
          refine wpAnyH_done (by kernel_rfl) ?_ _
          refine NoPanic.normal ?_
          clear hHeld
          go_wp2_with fail
          go_meet
          exact ⟨_, ⟨lb, bk, um, bm, sm, nm⟩, rfl, rfl, hMq, hb, hN⟩
    case re_1_4_4 =>
      go_simp
      have hbm : MapM (W.alloc (.map #[] 0)).drew W.heap.size 0 (fun _ _ => none) := MapM.made W
      have bz : Below W.heap.size W (W.alloc (.map #[] 0)).drew := below_drewN ((Below.refl W.heap.size W).alloc (Nat.le_refl _) (.map #[] 0)) 1
      clear hb
      have hb := bz
      clear bz
      generalize (W.alloc (.map #[] 0)).drew = v17 at *
      obtain ⟨bm, hbmd⟩ : ∃ m, m = W.heap.size := ⟨_, rfl⟩
      have hbmb : W.heap.size ≤ bm := Nat.le_of_eq hbmd.symm
      rw [← hbmd] at hbm ⊢
      clear hbmd
      refine hK.out _ _ (by exact ⟨(hS4.out _ hb).1, (hS4.out _ hb).2.1, (hS4.out _ hb).2.2.1, (hS4.out _ hb).2.2.2.1, (hS4.out _ hb).2.2.2.2.1, (hS4.out _ hb).2.2.2.2.2.1, (hS4.out _ hb).2.2.2.2.2.2, (hC6.out _ hb).1, (hC6.out _ hb).2⟩) (fun hHeld => ?_)
      clear hK K
      try simp only [Act.put, List.setIfInBounds_toArray, List.set_cons_zero, List.set_cons_succ]
      refine wpAnyH_ready (rs := [3, 5, 6]) (by kernel_rfl) (by simp) (AllReadyH.cons (o := ?oq_1_33_3) ?op_1_33_3 (fun K hK => ?re_1_33_3) (AllReadyH.cons (o := ?oq_1_33_5) ?op_1_33_5 (fun K hK => ?re_1_33_5) (AllReadyH.cons (o := ?oq_1_33_6) ?op_1_33_6 (fun K hK => ?re_1_33_6) AllReadyH.nil)))
      case op_1_33_3 => (simp only [List.getElem?_toArray, List.getElem?_cons_succ, List.getElem?_cons_zero]; rfl)
      case op_1_33_5 => (simp only [List.getElem?_toArray, List.getElem?_cons_succ, List.getElem?_cons_zero]; rfl)
      case op_1_33_6 => (simp only [List.getElem?_toArray, List.getElem?_cons_succ, List.getElem?_cons_zero]; rfl)
      case re_1_33_3 =>
        go_simp
        go_at_call 80
        refine (lnew_any _).mono ?_
        rintro en v18 ⟨bk, um, rfl, hbk, hbkn, humn, bz⟩
        have ne_um_bm : um ≠ bm := fun e => by have := hbm.lt; omega
        replace hbm := hbm.below bz
        have hbkb : W.heap.size ≤ bk := Nat.le_trans hb.size hbkn
        have humb : W.heap.size ≤ um := Nat.le_trans hb.size humn
        have hbq := below_step hb bz
        clear hb bz hbkn humn
        have hb := hbq
        clear hbq
        refine hK.out _ _ (by exact ⟨(hS4.out _ hb).1, (hS4.out _ hb).2.1, (hS4.out _ hb).2.2.1, (hS4.out _ hb).2.2.2.1, (hS4.out _ hb).2.2.2.2.1, (hS4.out _ hb).2.2.2.2.2.1, (hS4.out _ hb).2.2.2.2.2.2, (hC6.out _ hb).1, (hC6.out _ hb).2⟩) (fun hHeld => ?_)
        clear hK K
        try simp only [Act.put, List.setIfInBounds_toArray, List.set_cons_zero, List.set_cons_succ]
        refine wpAnyH_ready (rs := [5, 6]) (by kernel_rfl) (by simp) (AllReadyH.cons (o := ?oq_1_34_5) ?op_1_34_5 (fun K hK => ?re_1_34_5) (AllReadyH.cons (o := ?oq_1_34_6) ?op_1_34_6 (fun K hK => ?re_1_34_6) AllReadyH.nil))
        case op_1_34_5 => (simp only [List.getElem?_toArray, List.getElem?_cons_succ, List.getElem?_cons_zero]; rfl)
        case op_1_34_6 => (simp only [List.getElem?_toArray, List.getElem?_cons_succ, List.getElem?_cons_zero]; rfl)
        case re_1_34_5 =>
          go_simp
          have hsm : MapM (v18.alloc (.map #[] 0)) v18.heap.size 0 (fun _ _ => none) := MapM.made v18
          have bz : Below v18.heap.size v18 (v18.alloc (.map #[] 0)) := (Below.refl v18.heap.size v18).alloc (Nat.le_refl _) (.map #[] 0)
          have ne_sm_bm : v18.heap.size ≠ bm := fun e => by have := hbm.lt; omega
          have ne_sm_um : v18.heap.size ≠ um := fun e => by have := hbk.map.lt; omega
          replace hbm := hbm.below bz
          replace hbk := hbk.below bz
          have hsmb : W.heap.size ≤ v18.heap.size := hb.size
          have hbq := below_step hb bz
          clear hb bz
          have hb := hbq
          clear hbq
          generalize (v18.alloc (.map #[] 0)) = v19 at *
          generalize v18.heap.size = sm at hsm hsmb ne_sm_bm ne_sm_um ⊢
          refine hK.out _ _ (by exact ⟨(hS4.out _ hb).1, (hS4.out _ hb).2.1, (hS4.out _ hb).2.2.1, (hS4.out _ hb).2.2.2.1, (hS4.out _ hb).2.2.2.2.1, (hS4.out _ hb).2.2.2.2.2.1, (hS4.out _ hb).2.2.2.2.2.2, (hC6.out _ hb).1, (hC6.out _ hb).2⟩) (fun hHeld => ?_)
          clear hK K
          try simp only [Act.put, List.setIfInBounds_toArray, List.set_cons_zero, List.set_cons_succ]
          refine wpAnyH_ready (rs := [6]) (by kernel_rfl) (by simp) (AllReadyH.cons (o := ?oq_1_35_6) ?op_1_35_6 (fun K hK => ?re_1_35_6) AllReadyH.nil)
          case op_1_35_6 => (simp only [List.getElem?_toArray, List.getElem?_cons_succ, List.getElem?_cons_zero]; rfl)
          go_simp
          have hnm : MapM (v19.alloc (.map #[] 0)) v19.heap.size 0 (fun _ _ => none) := MapM.made v19
          have bz : Below v19.heap.size v19 (v19.alloc (.map #[] 0)) := (Below.refl v19.heap.size v19).alloc (Nat.le_refl _) (.map #[] 0)
          have ne_nm_bm : v19.heap.size ≠ bm := fun e => by have := hbm.lt; omega
          have ne_nm_um : v19.heap.size ≠ um := fun e => by have := hbk.map.lt; omega
          have ne_nm_sm : v19.heap.size ≠ sm := fun e => by have := hsm.lt; omega
          replace hbm := hbm.below bz
          replace hbk := hbk.below bz
          replace hsm := hsm.below bz
          have hnmb : W.heap.size ≤ v19.heap.size := hb.size
          have hbq := below_step hb bz
          clear hb bz
          have hb := hbq
          clear hbq
          generalize (v19.alloc (.map #[] 0)) = v20 at *
          generalize v19.heap.size = nm at hnm hnmb ne_nm_bm ne_nm_um ne_nm_sm ⊢
          refine hK.out _ _ (by exact ⟨(hS4.out _ hb).1, (hS4.out _ hb).2.1, (hS4.out _ hb).2.2.1, (hS4.out _ hb).2.2.2.1, (hS4.out _ hb).2.2.2.2.1, (hS4.out _ hb).2.2.2.2.2.1, (hS4.out _ hb).2.2.2.2.2.2, (hC6.out _ hb).1, (hC6.out _ hb).2⟩) (fun hHeld => ?_)
          clear hK K
          try simp only [Act.put, List.setIfInBounds_toArray, List.set_cons_zero, List.set_cons_succ]
          refine wtk 7 hHeld ?_
          refine wpAnyH_ready (rs := [8]) (by kernel_rfl) (by simp) (AllReadyH.cons (o := ?oq_1_37_8) ?op_1_37_8 (fun K hK => ?re_1_37_8) AllReadyH.nil)
          case op_1_37_8 => (simp only [List.getElem?_toArray, List.getElem?_cons_succ, List.getElem?_cons_zero]; rfl)
          go_simp
          have hXB : BlkAt (v20.alloc (.cells (mcells ⟨lb, bk, um, bm, sm, nm⟩ (.slice A c.chain.length cap) { s := s, cf := c, til := fun _ _ => 0, held := 0, beats := fun _ _ => none, lives := List.replicate 8 0, sat := fun _ _ => false, since := fun _ _ => none }).toArray 87)) v20.heap.size 87 (mcells ⟨lb, bk, um, bm, sm, nm⟩ (.slice A c.chain.length cap) { s := s, cf := c, til := fun _ _ => 0, held := 0, beats := fun _ _ => none, lives := List.replicate 8 0, sat := fun _ _ => false, since := fun _ _ => none }) := BlkAt.new v20 87 _
          have bz := (Below.refl v20.heap.size v20).alloc (Nat.le_refl _) (.cells (mcells ⟨lb, bk, um, bm, sm, nm⟩ (.slice A c.chain.length cap) { s := s, cf := c, til := fun _ _ => 0, held := 0, beats := fun _ _ => none, lives := List.replicate 8 0, sat := fun _ _ => false, since := fun _ _ => none }).toArray 87)
          have hq := below_step hb bz
          have hMq : MAt B (v20.alloc (.cells (mcells ⟨lb, bk, um, bm, sm, nm⟩ (.slice A c.chain.length cap) { s := s, cf := c, til := fun _ _ => 0, held := 0, beats := fun _ _ => none, lives := List.replicate 8 0, sat := fun _ _ => false, since := fun _ _ => none }).toArray 87)) v20.heap.size ⟨lb, bk, um, bm, sm, nm⟩ 0 { s := s, cf := c, til := fun _ _ => 0, held := 0, beats := fun _ _ => none, lives := List.replicate 8 0, sat := fun _ _ => false, since := fun _ _ => none } l :=
            ⟨⟨_, hXB, HCH.out.below hq⟩, ⟨HLOG.out.choose, HLOG.out.choose_spec.below hq⟩, hbk.below bz, hbm.below bz, hsm.below bz, hnm.below bz, ⟨ne_um_bm, (Ne.symm ne_sm_um), (Ne.symm ne_nm_um), (Ne.symm ne_sm_bm), (Ne.symm ne_nm_bm), (Ne.symm ne_nm_sm)⟩, ⟨HSET.out, HRT.out, rfl, fun u hu => (by rw [List.eq_of_mem_replicate hu]; exact W64.mk (by decide) (by decide)), fun _ _ _ h => (by cases h), fun _ _ _ h => (by cases h)⟩⟩
          have hN : FNew w [lb] (MBlk.list ⟨lb, bk, um, bm, sm, nm⟩ v20.heap.size) := begin_new (Nat.le_trans HWS.out hb.size) (Nat.le_trans HWS.out hbkb) (Nat.le_trans HWS.out humb) (Nat.le_trans HWS.out hbmb) (Nat.le_trans HWS.out hsmb) (Nat.le_trans HWS.out hnmb)
          clear hb hXB hbk hbm hsm hnm bz
          have hb := hq
          clear hq
          refine hK.out _ _ (by exact ⟨(hS4.out _ hb).1, (hS4.out _ hb).2.1, (hS4.out _ hb).2.2.1, (hS4.out _ hb).2.2.2.1, (hS4.out _ hb).2.2.2.2.1, (hS4.out _ hb).2.2.2.2.2.1, (hS4.out _ hb).2.2.2.2.2.2, (hC6.out _ hb).1, (hC6.out _ hb).2⟩) (fun hHeld => ?_)
          clear hK K
          try simp only [Act.put, List.setIfInBounds_toArray, List.set_cons_zero, List.set_cons_succ]
          refine wtk 9 hHeld ?_
          refine wpAnyH_done (by kernel_rfl) ?_ _
          refine NoPanic.normal ?_
          clear hHeld
          go_wp2_with fail
          go_meet
          exact ⟨_, ⟨lb, bk, um, bm, sm, nm⟩, rfl, rfl, hMq, hb, hN⟩
        case re_1_34_6 =>
          go_simp
          have hnm : MapM (v18.alloc (.map #[] 0)) v18.heap.size 0 (fun _ _ => none) := MapM.made v18
          have bz : Below v18.heap.size v18 (v18.alloc (.map #[] 0)) := (Below.refl v18.heap.size v18).alloc (Nat.le_refl _) (.map #[] 0)
          have ne_nm_bm : v18.heap.size ≠ bm := fun e => by have := hbm.lt; omega
          have ne_nm_um : v18.heap.size ≠ um := fun e => by have := hbk.map.lt; omega
          replace hbm := hbm.below bz
          replace hbk := hbk.below bz
          have hnmb : W.heap.size ≤ v18.heap.size := hb.size
          have hbq := below_step hb bz
          clear hb bz
          have hb := hbq
          clear hbq
          generalize (v18.alloc (.map #[] 0)) = v21 at *
          generalize v18.heap.size = nm at hnm hnmb ne_nm_bm ne_nm_um ⊢
          refine hK.out _ _ (by exact ⟨(hS4.out _ hb).1, (hS4.out _ hb).2.1, (hS4.out _ hb).2.2.1, (hS4.out _ hb).2.2.2.1, (hS4.out _ hb).2.2.2.2.1, (hS4.out _ hb).2.2.2.2.2.1, (hS4.out _ hb).2.2.2.2.2.2, (hC6.out _ hb).1, (hC6.out _ hb).2⟩) (fun hHeld => ?_)
          clear hK K
          try simp only [Act.put, List.setIfInBounds_toArray, List.set_cons_zero, List.set_cons_succ]
          refine wpAnyH_ready (rs := [5]) (by kernel_rfl) (by simp) (AllReadyH.cons (o := ?oq_1_39_5) ?op_1_39_5 (fun K hK => ?re_1_39_5) AllReadyH.nil)
          case op_1_39_5 => (simp only [List.getElem?_toArray, List.getElem?_cons_succ, List.getElem?_cons_zero]; rfl)
          go_simp
          have hsm : MapM (v21.alloc (.map #[] 0)) v21.heap.size 0 (fun _ _ => none) := MapM.made v21
          have bz : Below v21.heap.size v21 (v21.alloc (.map #[] 0)) := (Below.refl v21.heap.size v21).alloc (Nat.le_refl _) (.map #[] 0)
          have ne_sm_bm : v21.heap.size ≠ bm := fun e => by have := hbm.lt; omega
          have ne_sm_um : v21.heap.size ≠ um := fun e => by have := hbk.map.lt; omega
          have ne_sm_nm : v21.heap.size ≠ nm := fun e => by have := hnm.lt; omega
          replace hbm := hbm.below bz
          replace hbk := hbk.below bz
          replace hnm := hnm.below bz
          have hsmb : W.heap.size ≤ v21.heap.size := hb.size
          have hbq := below_step hb bz
          clear hb bz
          have hb := hbq
          clear hbq
          generalize (v21.alloc (.map #[] 0)) = v22 at *
          generalize v21.heap.size = sm at hsm hsmb ne_sm_bm ne_sm_um ne_sm_nm ⊢
          refine hK.out _ _ (by exact ⟨(hS4.out _ hb).1, (hS4.out _ hb).2.1, (hS4.out _ hb).2.2.1, (hS4.out _ hb).2.2.2.1, (hS4.out _ hb).2.2.2.2.1, (hS4.out _ hb).2.2.2.2.2.1, (hS4.out _ hb).2.2.2.2.2.2, (hC6.out _ hb).1, (hC6.out _ hb).2⟩) (fun hHeld => ?_)
          clear hK K
          try simp only [Act.put, List.setIfInBounds_toArray, List.set_cons_zero, List.set_cons_succ]
          refine wtk 7 hHeld ?_
          refine wpAnyH_ready (rs := [8]) (by kernel_rfl) (by simp) (AllReadyH.cons (o := ?oq_1_41_8) ?op_1_41_8 (fun K hK => ?re_1_41_8) AllReadyH.nil)
          case op_1_41_8 => (simp only [List.getElem?_toArray, List.getElem?_cons_succ, List.getElem?_cons_zero]; rfl)
          go_simp
          have hXB : BlkAt (v22.alloc (.cells (mcells ⟨lb, bk, um, bm, sm, nm⟩ (.slice A c.chain.length cap) { s := s, cf := c, til := fun _ _ => 0, held := 0, beats := fun _ _ => none, lives := List.replicate 8 0, sat := fun _ _ => false, since := fun _ _ => none }).toArray 87)) v22.heap.size 87 (mcells ⟨lb, bk, um, bm, sm, nm⟩ (.slice A c.chain.length cap) { s := s, cf := c, til := fun _ _ => 0, held := 0, beats := fun _ _ => none, lives := List.replicate 8 0, sat := fun _ _ => false, since := fun _ _ => none }) := BlkAt.new v22 87 _
          have bz := (Below.refl v22.heap.size v22).alloc (Nat.le_refl _) (.cells (mcells ⟨lb, bk, um, bm, sm, nm⟩ (.slice A c.chain.length cap) { s := s, cf := c, til := fun _ _ => 0, held := 0, beats := fun _ _ => none, lives := List.replicate 8 0, sat := fun _ _ => false, since := fun _ _ => none }).toArray 87)
          have hq := below_step hb bz
          have hMq : MAt B (v22.alloc (.cells (mcells ⟨lb, bk, um, bm, sm, nm⟩ (.slice A c.chain.length cap) { s := s, cf := c, til := fun _ _ => 0, held := 0, beats := fun _ _ => none, lives := List.replicate 8 0, sat := fun _ _ => false, since := fun _ _ => none }).toArray 87)) v22.heap.size ⟨lb, bk, um, bm, sm, nm⟩ 0 { s := s, cf := c, til := fun _ _ => 0, held := 0, beats := fun _ _ => none, lives := List.replicate 8 0, sat := fun _ _ => false, since := fun _ _ => none } l :=
            ⟨⟨_, hXB, HCH.out.below hq⟩, ⟨HLOG.out.choose, HLOG.out.choose_spec.below hq⟩, hbk.below bz, hbm.below bz, hsm.below bz, hnm.below bz, ⟨ne_um_bm, (Ne.symm ne_sm_um), (Ne.symm ne_nm_um), (Ne.symm ne_sm_bm), (Ne.symm ne_nm_bm), ne_sm_nm⟩, ⟨HSET.out, HRT.out, rfl, fun u hu => (by rw [List.eq_of_mem_replicate hu]; exact W64.mk (by decide) (by decide)), fun _ _ _ h => (by cases h), fun _ _ _ h => (by cases h)⟩⟩
          have hN : FNew w [lb] (MBlk.list ⟨lb, bk, um, bm, sm, nm⟩ v22.heap.size) := begin_new (Nat.le_trans HWS.out hb.size) (Nat.le_trans HWS.out hbkb) (Nat.le_trans HWS.out humb) (Nat.le_trans HWS.out hbmb) (Nat.le_trans HWS.out hsmb) (Nat.le_trans HWS.out hnmb)
          clear hb hXB hbk hbm hsm hnm bz
          have hb := hq
          clear hq
          refine hK.out _ _ (by exact ⟨(hS4.out _ hb).1, (hS4.out _ hb).2.1, (hS4.out _ hb).2.2.1, (hS4.out _ hb).2.2.2.1, (hS4.out _ hb).2.2.2.2.1, (hS4.out _ hb).2.2.2.2.2.1, (hS4.out _ hb).2.2.2.2.2.2, (hC6.out _ hb).1, (hC6.out _ hb).2⟩) (fun hHeld => ?_)
          clear hK K
          try simp only [Act.put, List.setIfInBounds_toArray, List.set_cons_zero, List.set_cons_succ]
          refine wtk 9 hHeld ?_
          refine wpAnyH_done (by kernel_rfl) ?_ _
          refine NoPanic.normal ?_
          clear hHeld
          go_wp2_with fail
          go_meet
          exact ⟨_, ⟨lb, bk, um, bm, sm, nm⟩, rfl, rfl, hMq, hb, hN⟩
      case re_1_33_5 =>
        go_simp
        have hsm : MapM (v17.alloc (.map #[] 0)) v17.heap.size 0 (fun _ _ => none) := MapM.made v17
        have bz : Below v17.heap.size v17 (v17.alloc (.map #[] 0)) := (Below.refl v17.heap.size v17).alloc (Nat.le_refl _) (.map #[] 0)
        have ne_sm_bm : v17.heap.size ≠ bm := fun e => by have := hbm.lt; omega
        replace hbm := hbm.below bz
        have hsmb : W.heap.size ≤ v17.heap.size := hb.size
        have hbq := below_step hb bz
        clear hb bz
        have hb := hbq
        clear hbq
        generalize (v17.alloc (.map #[] 0)) = v23 at *
        generalize v17.heap.size = sm at hsm hsmb ne_sm_bm ⊢
        refine hK.out _ _ (by exact ⟨(hS4.out _ hb).1, (hS4.out _ hb).2.1, (hS4.out _ hb).2.2.1, (hS4.out _ hb).2.2.2.1, (hS4.out _ hb).2.2.2.2.1, (hS4.out _ hb).2.2.2.2.2.1, (hS4.out _ hb).2.2.2.2.2.2, (hC6.out _ hb).1, (hC6.out _ hb).2⟩) (fun hHeld => ?_)
        clear hK K
        try simp only [Act.put, List.setIfInBounds_toArray, List.set_cons_zero, List.set_cons_succ]
        refine wpAnyH_ready (rs := [3, 6]) (by kernel_rfl) (by simp) (AllReadyH.cons (o := ?oq_1_43_3) ?op_1_43_3 (fun K hK => ?re_1_43_3) (AllReadyH.cons (o := ?oq_1_43_6) ?op_1_43_6 (fun K hK => ?re_1_43_6) AllReadyH.nil))
        case op_1_43_3 => (simp only [List.getElem?_toArray, List.getElem?_cons_succ, List.getElem?_cons_zero]; rfl)
        case op_1_43_6 => (simp only [List.getElem?_toArray, List.getElem?_cons_succ, List.getElem?_cons_zero]; rfl)
        case re_1_43_3 =>
          go_simp
          go_at_call 80
          refine (lnew_any _).mono ?_
          rintro en v24 ⟨bk, um, rfl, hbk, hbkn, humn, bz⟩
          have ne_um_bm : um ≠ bm := fun e => by have := hbm.lt; omega
          have ne_um_sm : um ≠ sm := fun e => by have := hsm.lt; omega
          replace hbm := hbm.below bz
          replace hsm := hsm.below bz
          have hbkb : W.heap.size ≤ bk := Nat.le_trans hb.size hbkn
          have humb : W.heap.size ≤ um := Nat.le_trans hb.size humn
          have hbq := below_step hb bz
          clear hb bz hbkn humn
          have hb := hbq
          clear hbq
          refine hK.out _ _ (by exact ⟨(hS4.out _ hb).1, (hS4.out _ hb).2.1, (hS4.out _ hb).2.2.1, (hS4.out _ hb).2.2.2.1, (hS4.out _ hb).2.2.2.2.1, (hS4.out _ hb).2.2.2.2.2.1, (hS4.out _ hb).2.2.2.2.2.2, (hC6.out _ hb).1, (hC6.out _ hb).2⟩) (fun hHeld => ?_)
          clear hK K
          try simp only [Act.put, List.setIfInBounds_toArray, List.set_cons_zero, List.set_cons_succ]
          refine wpAnyH_ready (rs := [6]) (by kernel_rfl) (by simp) (AllReadyH.cons (o := ?oq_1_44_6) ?op_1_44_6 (fun K hK => ?re_1_44_6) AllReadyH.nil)
          case op_1_44_6 => (simp only [List.getElem?_toArray, List.getElem?_cons_succ, List.getElem?_cons_zero]; rfl)
          go_simp
          have hnm : MapM (v24.alloc (.map #[] 0)) v24.heap.size 0 (fun _ _ => none) := MapM.made v24
          have bz : Below v24.heap.size v24 (v24.alloc (.map #[] 0)) := (Below.refl v24.heap.size v24).alloc (Nat.le_refl _) (.map #[] 0)
          have ne_nm_bm : v24.heap.size ≠ bm := fun e => by have := hbm.lt; omega
          have ne_nm_sm : v24.heap.size ≠ sm := fun e => by have := hsm.lt; omega
          have ne_nm_um : v24.heap.size ≠ um := fun e => by have := hbk.map.lt; omega
          replace hbm := hbm.below bz
          replace hsm := hsm.below bz
          replace hbk := hbk.below bz
          have hnmb : W.heap.size ≤ v24.heap.size := hb.size
          have hbq := below_step hb bz
          clear hb bz
          have hb := hbq
          clear hbq
          generalize (v24.alloc (.map #[] 0)) = v25 at *
          generalize v24.heap.size = nm at hnm hnmb ne_nm_bm ne_nm_sm ne_nm_um ⊢
          refine hK.out _ _ (by exact ⟨(hS4.out _ hb).1, (hS4.out _ hb).2.1, (hS4.out _ hb).2.2.1, (hS4.out _ hb).2.2.2.1, (hS4.out _ hb).2.2.2.2.1, (hS4.out _ hb).2.2.2.2.2.1, (hS4.out _ hb).2.2.2.2.2.2, (hC6.out _ hb).1, (hC6.out _ hb).2⟩) (fun hHeld => ?_)
          clear hK K
          try simp only [Act.put, List.setIfInBounds_toArray, List.set_cons_zero, List.set_cons_succ]
          refine wtk 7 hHeld ?_
          refine wpAnyH_ready (rs := [8]) (by kernel_rfl) (by simp) (AllReadyH.cons (o := ?oq_1_46_8) ?op_1_46_8 (fun K hK => ?re_1_46_8) AllReadyH.nil)
          case op_1_46_8 => (simp only [List.getElem?_toArray, List.getElem?_cons_succ, List.getElem?_cons_zero]; rfl)
          go_simp
          have hXB : BlkAt (v25.alloc (.cells (mcells ⟨lb, bk, um, bm, sm, nm⟩ (.slice A c.chain.length cap) { s := s, cf := c, til := fun _ _ => 0, held := 0, beats := fun _ _ => none, lives := List.replicate 8 0, sat := fun _ _ => false, since := fun _ _ => none }).toArray 87)) v25.heap.size 87 (mcells ⟨lb, bk, um, bm, sm, nm⟩ (.slice A c.chain.length cap) { s := s, cf := c, til := fun _ _ => 0, held := 0, beats := fun _ _ => none, lives := List.replicate 8 0, sat := fun _ _ => false, since := fun _ _ => none }) := BlkAt.new v25 87 _
          have bz := (Below.refl v25.heap.size v25).alloc (Nat.le_refl _) (.cells (mcells ⟨lb, bk, um, bm, sm, nm⟩ (.slice A c.chain.length cap) { s := s, cf := c, til := fun _ _ => 0, held := 0, beats := fun _ _ => none, lives := List.replicate 8 0, sat := fun _ _ => false, since := fun _ _ => none }).toArray 87)
          have hq := below_step hb bz
          have hMq : MAt B (v25.alloc (.cells (mcells ⟨lb, bk, um, bm, sm, nm⟩ (.slice A c.chain.length cap) { s := s, cf := c, til := fun _ _ => 0, held := 0, beats := fun _ _ => none, lives := List.replicate 8 0, sat := fun _ _ => false, since := fun _ _ => none }).toArray 87)) v25.heap.size ⟨lb, bk, um, bm, sm, nm⟩ 0 { s := s, cf := c, til := fun _ _ => 0, held := 0, beats := fun _ _ => none, lives := List.replicate 8 0, sat := fun _ _ => false, since := fun _ _ => none } l :=
            ⟨⟨_, hXB, HCH.out.below hq⟩, ⟨HLOG.out.choose, HLOG.out.choose_spec.below hq⟩, hbk.below bz, hbm.below bz, hsm.below bz, hnm.below bz, ⟨ne_um_bm, ne_um_sm, (Ne.symm ne_nm_um), (Ne.symm ne_sm_bm), (Ne.symm ne_nm_bm), (Ne.symm ne_nm_sm)⟩, ⟨HSET.out, HRT.out, rfl, fun u hu => (by rw [List.eq_of_mem_replicate hu]; exact W64.mk (by decide) (by decide)), fun _ _ _ h => (by cases h), fun _ _ _ h => (by cases h)⟩⟩
          have hN : FNew w [lb] (MBlk.list ⟨lb, bk, um, bm, sm, nm⟩ v25.heap.size) := begin_new (Nat.le_trans HWS.out hb.size) (Nat.le_trans HWS.out hbkb) (Nat.le_trans HWS.out humb) (Nat.le_trans HWS.out hbmb) (Nat.le_trans HWS.out hsmb) (Nat.le_trans HWS.out hnmb)
          clear hb hXB hbk hbm hsm hnm bz
          have hb := hq
          clear hq
          refine hK.out _ _ (by exact ⟨(hS4.out _ hb).1, (hS4.out _ hb).2.1, (hS4.out _ hb).2.2.1, (hS4.out _ hb).2.2.2.1, (hS4.out _ hb).2.2.2.2.1, (hS4.out _ hb).2.2.2.2.2.1, (hS4.out _ hb).2.2.2.2.2.2, (hC6.out _ hb).1, (hC6.out _ hb).2⟩) (fun hHeld => ?_)
          clear hK K
          try simp only [Act.put, List.setIfInBounds_toArray, List.set_cons_zero, List.set_cons_succ]
          refine wtk 9 hHeld ?_
          refine wpAnyH_done (by kernel_rfl) ?_ _
          refine NoPanic.normal ?_
          clear hHeld
          go_wp2_with fail
          go_meet
          exact ⟨_, ⟨lb, bk, um, bm, sm, nm⟩, rfl, rfl, hMq, hb, hN⟩
        case re_1_43_6 =>
          go_simp
          have hnm : MapM (v23.alloc (.map #[] 0)) v23.heap.size 0 (fun _ _ => none) := MapM.made v23
          have bz : Below v23.heap.size v23 (v23.alloc (.map #[] 0)) := (Below.refl v23.heap.size v23).alloc (Nat.le_refl _) (.map #[] 0)
          have ne_nm_bm : v23.heap.size ≠ bm := fun e => by have := hbm.lt; omega
          have ne_nm_sm : v23.heap.size ≠ sm := fun e => by have := hsm.lt; omega
          replace hbm := hbm.below bz
          replace hsm := hsm.below bz
          have hnmb : W.heap.size ≤ v23.heap.size := hb.size
          have hbq := below_step hb bz
          clear hb bz
          have hb := hbq
          clear hbq
          generalize (v23.alloc (.map #[] 0)) = v26 at *
          generalize v23.heap.size = nm at hnm hnmb ne_nm_bm ne_nm_sm ⊢
          refine hK.out _ _ (by exact ⟨(hS4.out _ hb).1, (hS4.out _ hb).2.1, (hS4.out _ hb).2.2.1, (hS4.out _ hb).2.2.2.1, (hS4.out _ hb).2.2.2.2.1, (hS4.out _ hb).2.2.2.2.2.1, (hS4.out _ hb).2.2.2.2.2.2, (hC6.out _ hb).1, (hC6.out _ hb).2⟩) (fun hHeld => ?_)
          clear hK K
          try simp only [Act.put, List.setIfInBounds_toArray, List.set_cons_zero, List.set_cons_succ]
          refine wpAnyH_ready (rs := [3]) (by kernel_rfl) (by simp) (AllReadyH.cons (o := ?oq_1_48_3) ?op_1_48_3 (fun K hK => ?re_1_48_3) AllReadyH.nil)
          case op_1_48_3 => (simp only [List.getElem?_toArray, List.getElem?_cons_succ, List.getElem?_cons_zero]; rfl)
          go_simp
          go_at_call 80
          refine (lnew_any _).mono ?_
          rintro en v27 ⟨bk, um, rfl, hbk, hbkn, humn, bz⟩
          have ne_um_bm : um ≠ bm := fun e => by have := hbm.lt; omega
          have ne_um_sm : um ≠ sm := fun e => by have := hsm.lt; omega
          have ne_um_nm : um ≠ nm := fun e => by have := hnm.lt; omega
          replace hbm := hbm.below bz
          replace hsm := hsm.below bz
          replace hnm := hnm.below bz
          have hbkb : W.heap.size ≤ bk := Nat.le_trans hb.size hbkn
          have humb : W.heap.size ≤ um := Nat.le_trans hb.size humn
          have hbq := below_step hb bz
          clear hb bz hbkn humn
          have hb := hbq
          clear hbq
          refine hK.out _ _ (by exact ⟨(hS4.out _ hb).1, (hS4.out _ hb).2.1, (hS4.out _ hb).2.2.1, (hS4.out _ hb).2.2.2.1, (hS4.out _ hb).2.2.2.2.1, (hS4.out _ hb).2.2.2.2.2.1, (hS4.out _ hb).2.2.2.2.2.2, (hC6.out _ hb).1, (hC6.out _ hb).2⟩) (fun hHeld => ?_)
          clear hK K
          try simp only [Act.put, List.setIfInBounds_toArray, List.set_cons_zero, List.set_cons_succ]
          refine wtk 7 hHeld ?_
          refine wpAnyH_ready (rs := [8]) (by kernel_rfl) (by simp) (AllReadyH.cons (o := ?oq_1_50_8) ?op_1_50_8 (fun K hK => ?re_1_50_8) AllReadyH.nil)
          case op_1_50_8 => (simp only [List.getElem?_toArray, List.getElem?_cons_succ, List.getElem?_cons_zero]; rfl)
          go_simp
          have hXB : BlkAt (v27.alloc (.cells (mcells ⟨lb, bk, um, bm, sm, nm⟩ (.slice A c.chain.length cap) { s := s, cf := c, til := fun _ _ => 0, held := 0, beats := fun _ _ => none, lives := List.replicate 8 0, sat := fun _ _ => false, since := fun _ _ => none }).toArray 87)) v27.heap.size 87 (mcells ⟨lb, bk, um, bm, sm, nm⟩ (.slice A c.chain.length cap) { s := s, cf := c, til := fun _ _ => 0, held := 0, beats := fun _ _ => none, lives := List.replicate 8 0, sat := fun _ _ => false, since := fun _ _ => none }) := BlkAt.new v27 87 _
          have bz := (Below.refl v27.heap.size v27).alloc (Nat.le_refl _) (.cells (mcells ⟨lb, bk, um, bm, sm, nm⟩ (.slice A c.chain.length cap) { s := s, cf := c, til := fun _ _ => 0, held := 0, beats := fun _ _ => none, lives := List.replicate 8 0, sat := fun _ _ => false, since := fun _ _ => none }).toArray 87)
          have hq := below_step hb bz
          have hMq : MAt B (v27.alloc (.cells (mcells ⟨lb, bk, um, bm, sm, nm⟩ (.slice A c.chain.length cap) { s := s, cf := c, til := fun _ _ => 0, held := 0, beats := fun _ _ => none, lives := List.replicate 8 0, sat := fun _ _ => false, since := fun _ _ => none }).toArray 87)) v27.heap.size ⟨lb, bk, um, bm, sm, nm⟩ 0 { s := s, cf := c, til := fun _ _ => 0, held := 0, beats := fun _ _ => none, lives := List.replicate 8 0, sat := fun _ _ => false, since := fun _ _ => none } l :=
            ⟨⟨_, hXB, HCH.out.below hq⟩, ⟨HLOG.out.choose, HLOG.out.choose_spec.below hq⟩, hbk.below bz, hbm.below bz, hsm.below bz, hnm.below bz, ⟨ne_um_bm, ne_um_sm, ne_um_nm, (Ne.symm ne_sm_bm), (Ne.symm ne_nm_bm), (Ne.symm ne_nm_sm)⟩, ⟨HSET.out, HRT.out, rfl, fun u hu => (by rw [List.eq_of_mem_replicate hu]; exact W64.mk (by decide) (by decide)), fun _ _ _ h => (by cases h), fun _ _ _ h => (by cases h)⟩⟩
          have hN : FNew w [lb] (MBlk.list ⟨lb, bk, um, bm, sm, nm⟩ v27.heap.size) := begin_new (Nat.le_trans HWS.out hb.size) (Nat.le_trans HWS.out hbkb) (Nat.le_trans HWS.out humb) (Nat.le_trans HWS.out hbmb) (Nat.le_trans HWS.out hsmb) (Nat.le_trans HWS.out hnmb)
          clear hb hXB hbk hbm hsm hnm bz
          have hb := hq
          clear hq
          refine hK.out _ _ (by exact ⟨(hS4.out _ hb).1, (hS4.out _ hb).2.1, (hS4.out _ hb).2.2.1, (hS4.out _ hb).2.2.2.1, (hS4.out _ hb).2.2.2.2.1, (hS4.out _ hb).2.2.2.2.2.1, (hS4.out _ hb).2.2.2.2.2.2, (hC6.out _ hb).1, (hC6.out _ hb).2⟩) (fun hHeld => ?_)
          clear hK K
          try simp only [Act.put, List.setIfInBounds_toArray, List.set_cons_zero, List.set_cons_succ]
          refine wtk 9 hHeld ?_
          refine wpAnyH_done (by kernel_rfl) ?_ _
          refine NoPanic.normal ?_
          clear hHeld
          go_wp2_with fail
          go_meet
          exact ⟨_, ⟨lb, bk, um, bm, sm, nm⟩, rfl, rfl, hMq, hb, hN⟩
      case re_1_33_6 =>
        go_simp
        have hnm : MapM (v17.alloc (.map #[] 0)) v17.heap.size 0 (fun _ _ => none) := MapM.made v17
        have bz : Below v17.heap.size v17 (v17.alloc (.map #[] 0)) := (Below.refl v17.heap.size v17).alloc (Nat.le_refl _) (.map #[] 0)
        have ne_nm_bm : v17.heap.size ≠ bm := fun e => by have := hbm.lt; omega
        replace hbm := hbm.below bz
        have hnmb : W.heap.size ≤ v17.heap.size := hb.size
        have hbq := below_step hb bz
        clear hb bz
        have hb := hbq
        clear hbq
        generalize (v17.alloc (.map #[] 0)) = v28 at *
        generalize v17.heap.size = nm at hnm hnmb ne_nm_bm ⊢
        refine hK.out _ _ (by exact ⟨(hS4.out _ hb).1, (hS4.out _ hb).2.1, (hS4.out _ hb).2.2.1, (hS4.out _ hb).2.2.2.1, (hS4.out _ hb).2.2.2.2.1, (hS4.out _ hb).2.2.2.2.2.1, (hS4.out _ hb).2.2.2.2.2.2, (hC6.out _ hb).1, (hC6.out _ hb).2⟩) (fun hHeld => ?_)
        clear hK K
        try simp only [Act.put, List.setIfInBounds_toArray, List.set_cons_zero, List.set_cons_succ]
        refine wpAnyH_ready (rs := [3, 5]) (by kernel_rfl) (by simp) (AllReadyH.cons (o := ?oq_1_52_3) ?op_1_52_3 (fun K hK => ?re_1_52_3) (AllReadyH.cons (o := ?oq_1_52_5) ?op_1_52_5 (fun K hK => ?re_1_52_5) AllReadyH.nil))
        case op_1_52_3 => (simp only [List.getElem?_toArray, List.getElem?_cons_succ, List.getElem?_cons_zero]; rfl)
        case op_1_52_5 => (simp only [List.getElem?_toArray, List.getElem?_cons_succ, List.getElem?_cons_zero]; rfl)
        case re_1_52_3 =>
          go_simp
          go_at_call 80
          refine (lnew_any _).mono ?_
          rintro en v29 ⟨bk, um, rfl, hbk, hbkn, humn, bz⟩
          have ne_um_bm : um ≠ bm := fun e => by have := hbm.lt; omega
          have ne_um_nm : um ≠ nm := fun e => by have := hnm.lt; omega
          replace hbm := hbm.below bz
          replace hnm := hnm.below bz
          have hbkb : W.heap.size ≤ bk := Nat.le_trans hb.size hbkn
          have humb : W.heap.size ≤ um := Nat.le_trans hb.size humn
          have hbq := below_step hb bz
          clear hb bz hbkn humn
          have hb := hbq
          clear hbq
          refine hK.out _ _ (by exact ⟨(hS4.out _ hb).1, (hS4.out _ hb).2.1, (hS4.out _ hb).2.2.1, (hS4.out _ hb).2.2.2.1, (hS4.out _ hb).2.2.2.2.1, (hS4.out _ hb).2.2.2.2.2.1, (hS4.out _ hb).2.2.2.2.2.2, (hC6.out _ hb).1, (hC6.out _ hb).2⟩) (fun hHeld => ?_)
          clear hK K
          try simp only [Act.put, List.setIfInBounds_toArray, List.set_cons_zero, List.set_cons_succ]
          refine wpAnyH_ready (rs := [5]) (by kernel_rfl) (by simp) (AllReadyH.cons (o := ?oq_1_53_5) ?op_1_53_5 (fun K hK => ?re_1_53_5) AllReadyH.nil)
          case op_1_53_5 => (simp only [List.getElem?_toArray, List.getElem?_cons_succ, List.getElem?_cons_zero]; rfl)
          go_simp
          have hsm : MapM (v29.alloc (.map #[] 0)) v29.heap.size 0 (fun _ _ => none) := MapM.made v29
          have bz : Below v29.heap.size v29 (v29.alloc (.map #[] 0)) := (Below.refl v29.heap.size v29).alloc (Nat.le_refl _) (.map #[] 0)
          have ne_sm_bm : v29.heap.size ≠ bm := fun e => by have := hbm.lt; omega
          have ne_sm_nm : v29.heap.size ≠ nm := fun e => by have := hnm.lt; omega
          have ne_sm_um : v29.heap.size ≠ um := fun e => by have := hbk.map.lt; omega
          replace hbm := hbm.below bz
          replace hnm := hnm.below bz
          replace hbk := hbk.below bz
          have hsmb : W.heap.size ≤ v29.heap.size := hb.size
          have hbq := below_step hb bz
          clear hb bz
          have hb := hbq
          clear hbq
          generalize (v29.alloc (.map #[] 0)) = v30 at *
          generalize v29.heap.size = sm at hsm hsmb ne_sm_bm ne_sm_nm ne_sm_um ⊢
          refine hK.out _ _ (by exact ⟨(hS4.out _ hb).1, (hS4.out _ hb).2.1, (hS4.out _ hb).2.2.1, (hS4.out _ hb).2.2.2.1, (hS4.out _ hb).2.2.2.2.1, (hS4.out _ hb).2.2.2.2.2.1, (hS4.out _ hb).2.2.2.2.2.2, (hC6.out _ hb).1, (hC6.out _ hb).2⟩) (fun hHeld => ?_)
          clear hK K
          try simp only [Act.put, List.setIfInBounds_toArray, List.set_cons_zero, List.set_cons_succ]
          refine wtk 7 hHeld ?_
          refine wpAnyH_ready (rs := [8]) (by kernel_rfl) (by simp) (AllReadyH.cons (o := ?oq_1_55_8) ?op_1_55_8 (fun K hK => ?re_1_55_8) AllReadyH.nil)
          case op_1_55_8 => (simp only [List.getElem?_toArray, List.getElem?_cons_succ, List.getElem?_cons_zero]; rfl)
          go_simp
          have hXB : BlkAt (v30.alloc (.cells (mcells ⟨lb, bk, um, bm, sm, nm⟩ (.slice A c.chain.length cap) { s := s, cf := c, til := fun _ _ => 0, held := 0, beats := fun _ _ => none, lives := List.replicate 8 0, sat := fun _ _ => false, since := fun _ _ => none }).toArray 87)) v30.heap.size 87 (mcells ⟨lb, bk, um, bm, sm, nm⟩ (.slice A c.chain.length cap) { s := s, cf := c, til := fun _ _ => 0, held := 0, beats := fun _ _ => none, lives := List.replicate 8 0, sat := fun _ _ => false, since := fun _ _ => none }) := BlkAt.new v30 87 _
          have bz := (Below.refl v30.heap.size v30).alloc (Nat.le_refl _) (.cells (mcells ⟨lb, bk, um, bm, sm, nm⟩ (.slice A c.chain.length cap) { s := s, cf := c, til := fun _ _ => 0, held := 0, beats := fun _ _ => none, lives := List.replicate 8 0, sat := fun _ _ => false, since := fun _ _ => none }).toArray 87)
          have hq := below_step hb bz
          have hMq : MAt B (v30.alloc (.cells (mcells ⟨lb, bk, um, bm, sm, nm⟩ (.slice A c.chain.length cap) { s := s, cf := c, til := fun _ _ => 0, held := 0, beats := fun _ _ => none, lives := List.replicate 8 0, sat := fun _ _ => false, since := fun _ _ => none }).toArray 87)) v30.heap.size ⟨lb, bk, um, bm, sm, nm⟩ 0 { s := s, cf := c, til := fun _ _ => 0, held := 0, beats := fun _ _ => none, lives := List.replicate 8 0, sat := fun _ _ => false, since := fun _ _ => none } l :=
            ⟨⟨_, hXB, HCH.out.below hq⟩, ⟨HLOG.out.choose, HLOG.out.choose_spec.below hq⟩, hbk.below bz, hbm.below bz, hsm.below bz, hnm.below bz, ⟨ne_um_bm, (Ne.symm ne_sm_um), ne_um_nm, (Ne.symm ne_sm_bm), (Ne.symm ne_nm_bm), ne_sm_nm⟩, ⟨HSET.out, HRT.out, rfl, fun u hu => (by rw [List.eq_of_mem_replicate hu]; exact W64.mk (by decide) (by decide)), fun _ _ _ h => (by cases h), fun _ _ _ h => (by cases h)⟩⟩
          have hN : FNew w [lb] (MBlk.list ⟨lb, bk, um, bm, sm, nm⟩ v30.heap.size) := begin_new (Nat.le_trans HWS.out hb.size) (Nat.le_trans HWS.out hbkb) (Nat.le_trans HWS.out humb) (Nat.le_trans HWS.out hbmb) (Nat.le_trans HWS.out hsmb) (Nat.le_trans HWS.out hnmb)
          clear hb hXB hbk hbm hsm hnm bz
          have hb := hq
          clear hq
          refine hK.out _ _ (by exact ⟨(hS4.out _ hb).1, (hS4.out _ hb).2.1, (hS4.out _ hb).2.2.1, (hS4.out _ hb).2.2.2.1, (hS4.out _ hb).2.2.2.2.1, (hS4.out _ hb).2.2.2.2.2.1, (hS4.out _ hb).2.2.2.2.2.2, (hC6.out _ hb).1, (hC6.out _ hb).2⟩) (fun hHeld => ?_)
          clear hK K
          try simp only [Act.put, List.setIfInBounds_toArray, List.set_cons_zero, List.set_cons_succ]
          refine wtk 9 hHeld ?_
          refine wpAnyH_done (by kernel_rfl) ?_ _
          refine NoPanic.normal ?_
          clear hHeld
          go_wp2_with fail
          go_meet
          exact ⟨_, ⟨lb, bk, um, bm, sm, nm⟩, rfl, rfl, hMq, hb, hN⟩
        case re_1_52_5 =>
          go_simp
          have hsm : MapM (v28.alloc (.map #[] 0)) v28.heap.size 0 (fun _ _ => none) := MapM.made v28
          have bz : Below v28.heap.size v28 (v28.alloc (.map #[] 0)) := (Below.refl v28.heap.size v28).alloc (Nat.le_refl _) (.map #[] 0)
          have ne_sm_bm : v28.heap.size ≠ bm := fun e => by have := hbm.lt; omega
          have ne_sm_nm : v28.heap.size ≠ nm := fun e => by have := hnm.lt; omega
          replace hbm := hbm.below bz
          replace hnm := hnm.below bz
          have hsmb : W.heap.size ≤ v28.heap.size := hb.size
          have hbq := below_step hb bz
          clear hb bz
          have hb := hbq
          clear hbq
          generalize (v28.alloc (.map #[] 0)) = v31 at *
          generalize v28.heap.size = sm at hsm hsmb ne_sm_bm ne_sm_nm ⊢
          refine hK.out _ _ (by exact ⟨(hS4.out _ hb).1, (hS4.out _ hb).2.1, (hS4.out _ hb).2.2.1, (hS4.out _ hb).2.2.2.1, (hS4.out _ hb).2.2.2.2.1, (hS4.out _ hb).2.2.2.2.2.1, (hS4.out _ hb).2.2.2.2.2.2, (hC6.out _ hb).1, (hC6.out _ hb).2⟩) (fun hHeld => ?_)
          clear hK K
          try simp only [Act.put, List.setIfInBounds_toArray, List.set_cons_zero, List.set_cons_succ]
          refine wpAnyH_ready (rs := [3]) (by kernel_rfl) (by simp) (AllReadyH.cons (o := ?oq_1_57_3) ?op_1_57_3 (fun K hK => ?re_1_57_3) AllReadyH.nil)
          case op_1_57_3 => (simp only [List.getElem?_toArray, List.getElem?_cons_succ, List.getElem?_cons_zero]; rfl)
          go_simp
          go_at_call 80
          refine (lnew_any _).mono ?_
          rintro en v32 ⟨bk, um, rfl, hbk, hbkn, humn, bz⟩
          have ne_um_bm : um ≠ bm := fun e => by have := hbm.lt; omega
          have ne_um_nm : um ≠ nm := fun e => by have := hnm.lt; omega
          have ne_um_sm : um ≠ sm := fun e => by have := hsm.lt; omega
          replace hbm := hbm.below bz
          replace hnm := hnm.below bz
          replace hsm := hsm.below bz
          have hbkb : W.heap.size ≤ bk := Nat.le_trans hb.size hbkn
          have humb : W.heap.size ≤ um := Nat.le_trans hb.size humn
          have hbq := below_step hb bz
          clear hb bz hbkn humn
          have hb := hbq
          clear hbq
          refine hK.out _ _ (by exact ⟨(hS4.out _ hb).1, (hS4.out _ hb).2.1, (hS4.out _ hb).2.2.1, (hS4.out _ hb).2.2.2.1, (hS4.out _ hb).2.2.2.2.1, (hS4.out _ hb).2.2.2.2.2.1, (hS4.out _ hb).2.2.2.2.2.2, (hC6.out _ hb).1, (hC6.out _ hb).2⟩) (fun hHeld => ?_)
          clear hK K
          try simp only [Act.put, List.setIfInBounds_toArray, List.set_cons_zero, List.set_cons_succ]
          refine wtk 7 hHeld ?_
          refine wpAnyH_ready (rs := [8]) (by kernel_rfl) (by simp) (AllReadyH.cons (o := ?oq_1_59_8) ?op_1_59_8 (fun K hK => ?re_1_59_8) AllReadyH.nil)
          case op_1_59_8 => (simp only [List.getElem?_toArray, List.getElem?_cons_succ, List.getElem?_cons_zero]; rfl)
          go_simp
          have hXB : BlkAt (v32.alloc (.cells (mcells ⟨lb, bk, um, bm, sm, nm⟩ (.slice A c.chain.length cap) { s := s, cf := c, til := fun _ _ => 0, held := 0, beats := fun _ _ => none, lives := List.replicate 8 0, sat := fun _ _ => false, since := fun _ _ => none }).toArray 87)) v32.heap.size 87 (mcells ⟨lb, bk, um, bm, sm, nm⟩ (.slice A c.chain.length cap) { s := s, cf := c, til := fun _ _ => 0, held := 0, beats := fun _ _ => none, lives := List.replicate 8 0, sat := fun _ _ => false, since := fun _ _ => none }) := BlkAt.new v32 87 _
          have bz := (Below.refl v32.heap.size v32).alloc (Nat.le_refl _) (.cells (mcells ⟨lb, bk, um, bm, sm, nm⟩ (.slice A c.chain.length cap) { s := s, cf := c, til := fun _ _ => 0, held := 0, beats := fun _ _ => none, lives := List.replicate 8 0, sat := fun _ _ => false, since := fun _ _ => none }).toArray 87)
          have hq := below_step hb bz
          have hMq : MAt B (v32.alloc (.cells (mcells ⟨lb, bk, um, bm, sm, nm⟩ (.slice A c.chain.length cap) { s := s, cf := c, til := fun _ _ => 0, held := 0, beats := fun _ _ => none, lives := List.replicate 8 0, sat := fun _ _ => false, since := fun _ _ => none }).toArray 87)) v32.heap.size ⟨lb, bk, um, bm, sm, nm⟩ 0 { s := s, cf := c, til := fun _ _ => 0, held := 0, beats := fun _ _ => none, lives := List.replicate 8 0, sat := fun _ _ => false, since := fun _ _ => none } l :=
            ⟨⟨_, hXB, HCH.out.below hq⟩, ⟨HLOG.out.choose, HLOG.out.choose_spec.below hq⟩, hbk.below bz, hbm.below bz, hsm.below bz, hnm.below bz, ⟨ne_um_bm, ne_um_sm, ne_um_nm, (Ne.symm ne_sm_bm), (Ne.symm ne_nm_bm), ne_sm_nm⟩, ⟨HSET.out, HRT.out, rfl, fun u hu => (by rw [List.eq_of_mem_replicate hu]; exact W64.mk (by decide) (by decide)), fun _ _ _ h => (by cases h), fun _ _ _ h => (by cases h)⟩⟩
          have hN : FNew w [lb] (MBlk.list ⟨lb, bk, um, bm, sm, nm⟩ v32.heap.size) := begin_new (Nat.le_trans HWS.out hb.size) (Nat.le_trans HWS.out hbkb) (Nat.le_trans HWS.out humb) (Nat.le_trans HWS.out hbmb) (Nat.le_trans HWS.out hsmb) (Nat.le_trans HWS.out hnmb)
          clear hb hXB hbk hbm hsm hnm bz
          have hb := hq
          clear hq
          refine hK.out _ _ (by exact ⟨(hS4.out _ hb).1, (hS4.out _ hb).2.1, (hS4.out _ hb).2.2.1, (hS4.out _ hb).2.2.2.1, (hS4.out _ hb).2.2.2.2.1, (hS4.out _ hb).2.2.2.2.2.1, (hS4.out _ hb).2.2.2.2.2.2, (hC6.out _ hb).1, (hC6.out _ hb).2⟩) (fun hHeld => ?_)
          clear hK K
          try simp only [Act.put, List.setIfInBounds_toArray, List.set_cons_zero, List.set_cons_succ]
          refine wtk 9 hHeld ?_
          refine wpAnyH_done (by kernel_rfl) ?_ _
          refine NoPanic.normal ?_
          clear hHeld
          go_wp2_with fail
          go_meet
          exact ⟨_, ⟨lb, bk, um, bm, sm, nm⟩, rfl, rfl, hMq, hb, hN⟩
    case re_1_4_5 =>
      go_simp
      have hsm : MapM (W.alloc (.map #[] 0)).drew W.heap.size 0 (fun _ _ => none) := MapM.made W
      have bz : Below W.heap.size W (W.alloc (.map #[] 0)).drew := below_drewN ((Below.refl W.heap.size W).alloc (Nat.le_refl _) (.map #[] 0)) 1
      clear hb
      have hb := bz
      clear bz
      generalize (W.alloc (.map #[] 0)).drew = v33 at *
      obtain ⟨sm, hsmd⟩ : ∃ m, m = W.heap.size := ⟨_, rfl⟩
      have hsmb : W.heap.size ≤ sm := Nat.le_of_eq hsmd.symm
      rw [← hsmd] at hsm ⊢
      clear hsmd
      refine hK.out _ _ (by exact ⟨(hS4.out _ hb).1, (hS4.out _ hb).2.1, (hS4.out _ hb).2.2.1, (hS4.out _ hb).2.2.2.1, (hS4.out _ hb).2.2.2.2.1, (hS4.out _ hb).2.2.2.2.2.1, (hS4.out _ hb).2.2.2.2.2.2, (hC6.out _ hb).1, (hC6.out _ hb).2⟩) (fun hHeld => ?_)
      clear hK K
      try simp only [Act.put, List.setIfInBounds_toArray, List.set_cons_zero, List.set_cons_succ]
      refine wpAnyH_ready (rs := [3, 4, 6]) (by kernel_rfl) (by simp) (AllReadyH.cons (o := ?oq_1_61_3) ?op_1_61_3 (fun K hK => ?re_1_61_3) (AllReadyH.cons (o := ?oq_1_61_4) ?op_1_61_4 (fun K hK => ?re_1_61_4) (AllReadyH.cons (o := ?oq_1_61_6) ?op_1_61_6 (fun K hK => ?re_1_61_6) AllReadyH.nil)))
      case op_1_61_3 => (simp only [List.getElem?_toArray, List.getElem?_cons_succ, List.getElem?_cons_zero]; rfl)
      case op_1_61_4 => (simp only [List.getElem?_toArray, List.getElem?_cons_succ, List.getElem?_cons_zero]; rfl)
      case op_1_61_6 => (simp only [List.getElem?_toArray, List.getElem?_cons_succ, List.getElem?_cons_zero]; rfl)
      case re_1_61_3 =>
        go_simp
        go_at_call 80
        refine (lnew_any _).mono ?_
        rintro en v34 ⟨bk, um, rfl, hbk, hbkn, humn, bz⟩
        have ne_um_sm : um ≠ sm := fun e => by have := hsm.lt; omega
        replace hsm := hsm.below bz
        have hbkb : W.heap.size ≤ bk := Nat.le_trans hb.size hbkn
        have humb : W.heap.size ≤ um := Nat.le_trans hb.size humn
        have hbq := below_step hb bz
        clear hb bz hbkn humn
        have hb := hbq
        clear hbq
        refine hK.out _ _ (by exact ⟨(hS4.out _ hb).1, (hS4.out _ hb).2.1, (hS4.out _ hb).2.2.1, (hS4.out _ hb).2.2.2.1, (hS4.out _ hb).2.2.2.2.1, (hS4.out _ hb).2.2.2.2.2.1, (hS4.out _ hb).2.2.2.2.2.2, (hC6.out _ hb).1, (hC6.out _ hb).2⟩) (fun hHeld => ?_)
        clear hK K
        try simp only [Act.put, List.setIfInBounds_toArray, List.set_cons_zero, List.set_cons_succ]
        refine wpAnyH_ready (rs := [4, 6]) (by kernel_rfl) (by simp) (AllReadyH.cons (o := ?oq_1_62_4) ?op_1_62_4 (fun K hK => ?re_1_62_4) (AllReadyH.cons (o := ?oq_1_62_6) ?op_1_62_6 (fun K hK => ?re_1_62_6) AllReadyH.nil))
        case op_1_62_4 => (simp only [List.getElem?_toArray, List.getElem?_cons_succ, List.getElem?_cons_zero]; rfl)
        case op_1_62_6 => (simp only [List.getElem?_toArray, List.getElem?_cons_succ, List.getElem?_cons_zero]; rfl)
        case re_1_62_4 =>
          go_simp
          have hbm : MapM (v34.alloc (.map #[] 0)) v34.heap.size 0 (fun _ _ => none) := MapM.made v34
          have bz : Below v34.heap.size v34 (v34.alloc (.map #[] 0)) := (Below.refl v34.heap.size v34).alloc (Nat.le_refl _) (.map #[] 0)
          have ne_bm_sm : v34.heap.size ≠ sm := fun e => by have := hsm.lt; omega
          have ne_bm_um : v34.heap.size ≠ um := fun e => by have := hbk.map.lt; omega
          replace hsm := hsm.below bz
          replace hbk := hbk.below bz
          have hbmb : W.heap.size ≤ v34.heap.size := hb.size
          have hbq := below_step hb bz
          clear hb bz
          have hb := hbq
          clear hbq
          generalize (v34.alloc (.map #[] 0)) = v35 at *
          generalize v34.heap.size = bm at hbm hbmb ne_bm_sm ne_bm_um ⊢
          refine hK.out _ _ (by exact ⟨(hS4.out _ hb).1, (hS4.out _ hb).2.1, (hS4.out _ hb).2.2.1, (hS4.out _ hb).2.2.2.1, (hS4.out _ hb).2.2.2.2.1, (hS4.out _ hb).2.2.2.2.2.1, (hS4.out _ hb).2.2.2.2.2.2, (hC6.out _ hb).1, (hC6.out _ hb).2⟩) (fun hHeld => ?_)
          clear hK K
          try simp only [Act.put, List.setIfInBounds_toArray, List.set_cons_zero, List.set_cons_succ]
          refine wpAnyH_ready (rs := [6]) (by kernel_rfl) (by simp) (AllReadyH.cons (o := ?oq_1_63_6) ?op_1_63_6 (fun K hK => ?re_1_63_6) AllReadyH.nil)
          case op_1_63_6 => (simp only [List.getElem?_toArray, List.getElem?_cons_succ, List.getElem?_cons_zero]; rfl)
          go_simp
          have hnm : MapM (v35.alloc (.map #[] 0)) v35.heap.size 0 (fun _ _ => none) := MapM.made v35
          have bz : Below v35.heap.size v35 (v35.alloc (.map #[] 0)) := (Below.refl v35.heap.size v35).alloc (Nat.le_refl _) (.map #[] 0)
          have ne_nm_sm : v35.heap.size ≠ sm := fun e => by have := hsm.lt; omega
          have ne_nm_um : v35.heap.size ≠ um := fun e => by have := hbk.map.lt; omega
          have ne_nm_bm : v35.heap.size ≠ bm := fun e => by have := hbm.lt; omega
          replace hsm := hsm.below bz
          replace hbk := hbk.below bz
          replace hbm := hbm.below bz
          have hnmb : W.heap.size ≤ v35.heap.size := hb.size
          have hbq := below_step hb bz
          clear hb bz
          have hb := hbq
          clear hbq
          generalize (v35.alloc (.map #[] 0)) = v36 at *
          generalize v35.heap.size = nm at hnm hnmb ne_nm_sm ne_nm_um ne_nm_bm ⊢
          refine hK.out _ _ (by exact ⟨(hS4.out _ hb).1, (hS4.out _ hb).2.1, (hS4.out _ hb).2.2.1, (hS4.out _ hb).2.2.2.1, (hS4.out _ hb).2.2.2.2.1, (hS4.out _ hb).2.2.2.2.2.1, (hS4.out _ hb).2.2.2.2.2.2, (hC6.out _ hb).1, (hC6.out _ hb).2⟩) (fun hHeld => ?_)
          clear hK K
          try simp only [Act.put, List.setIfInBounds_toArray, List.set_cons_zero, List.set_cons_succ]
          refine wtk 7 hHeld ?_
          refine wpAnyH_ready (rs := [8]) (by kernel_rfl) (by simp) (AllReadyH.cons (o := ?oq_1_65_8) ?op_1_65_8 (fun K hK => ?re_1_65_8) AllReadyH.nil)
          case op_1_65_8 => (simp only [List.getElem?_toArray, List.getElem?_cons_succ, List.getElem?_cons_zero]; rfl)
          go_simp
          have hXB : BlkAt (v36.alloc (.cells (mcells ⟨lb, bk, um, bm, sm, nm⟩ (.slice A c.chain.length cap) { s := s, cf := c, til := fun _ _ => 0, held := 0, beats := fun _ _ => none, lives := List.replicate 8 0, sat := fun _ _ => false, since := fun _ _ => none }).toArray 87)) v36.heap.size 87 (mcells ⟨lb, bk, um, bm, sm, nm⟩ (.slice A c.chain.length cap) { s := s, cf := c, til := fun _ _ => 0, held := 0, beats := fun _ _ => none, lives := List.replicate 8 0, sat := fun _ _ => false, since := fun _ _ => none }) := BlkAt.new v36 87 _
          have bz := (Below.refl v36.heap.size v36).alloc (Nat.le_refl _) (.cells (mcells ⟨lb, bk, um, bm, sm, nm⟩ (.slice A c.chain.length cap) { s := s, cf := c, til := fun _ _ => 0, held := 0, beats := fun _ _ => none, lives := List.replicate 8 0, sat := fun _ _ => false, since := fun _ _ => none }).toArray 87)
          have hq := below_step hb bz
          have hMq : MAt B (v36.alloc (.cells (mcells ⟨lb, bk, um, bm, sm, nm⟩ (.slice A c.chain.length cap) { s := s, cf := c, til := fun _ _ => 0, held := 0, beats := fun _ _ => none, lives := List.replicate 8 0, sat := fun _ _ => false, since := fun _ _ => none }).toArray 87)) v36.heap.size ⟨lb, bk, um, bm, sm, nm⟩ 0 { s := s, cf := c, til := fun _ _ => 0, held := 0, beats := fun _ _ => none, lives := List.replicate 8 0, sat := fun _ _ => false, since := fun _ _ => none } l :=
            ⟨⟨_, hXB, HCH.out.below hq⟩, ⟨HLOG.out.choose, HLOG.out.choose_spec.below hq⟩, hbk.below bz, hbm.below bz, hsm.below bz, hnm.below bz, ⟨(Ne.symm ne_bm_um), ne_um_sm, (Ne.symm ne_nm_um), ne_bm_sm, (Ne.symm ne_nm_bm), (Ne.symm ne_nm_sm)⟩, ⟨HSET.out, HRT.out, rfl, fun u hu => (by rw [List.eq_of_mem_replicate hu]; exact W64.mk (by decide) (by decide)), fun _ _ _ h => (by cases h), fun _ _ _ h => (by cases h)⟩⟩
          have hN : FNew w [lb] (MBlk.list ⟨lb, bk, um, bm, sm, nm⟩ v36.heap.size) := begin_new (Nat.le_trans HWS.out hb.size) (Nat.le_trans HWS.out hbkb) (Nat.le_trans HWS.out humb) (Nat.le_trans HWS.out hbmb) (Nat.le_trans HWS.out hsmb) (Nat.le_trans HWS.out hnmb)
          clear hb hXB hbk hbm hsm hnm bz
          have hb := hq
          clear hq
          refine hK.out _ _ (by exact ⟨(hS4.out _ hb).1, (hS4.out _ hb).2.1, (hS4.out _ hb).2.2.1, (hS4.out _ hb).2.2.2.1, (hS4.out _ hb).2.2.2.2.1, (hS4.out _ hb).2.2.2.2.2.1, (hS4.out _ hb).2.2.2.2.2.2, (hC6.out _ hb).1, (hC6.out _ hb).2⟩) (fun hHeld => ?_)
          clear hK K
          try simp only [Act.put, List.setIfInBounds_toArray, List.set_cons_zero, List.set_cons_succ]
          refine wtk 9 hHeld ?_
          refine wpAnyH_done (by kernel_rfl) ?_ _
          refine NoPanic.normal ?_
          clear hHeld
          go_wp2_with fail
          go_meet
          exact ⟨_, ⟨lb, bk, um, bm, sm, nm⟩, rfl, rfl, hMq, hb, hN⟩
        case re_1_62_6 =>
          go_simp
          have hnm : MapM (v34.alloc (.map #[] 0)) v34.heap.size 0 (fun _ _ => none) := MapM.made v34
          have bz : Below v34.heap.size v34 (v34.alloc (.map #[] 0)) := (Below.refl v34.heap.size v34).alloc (Nat.le_refl _) (.map #[] 0)
          have ne_nm_sm : v34.heap.size ≠ sm := fun e => by have := hsm.lt; omega
          have ne_nm_um : v34.heap.size ≠ um := fun e => by have := hbk.map.lt; omega
          replace hsm := hsm.below bz
          replace hbk := hbk.below bz
          have hnmb : W.heap.size ≤ v34.heap.size := hb.size
          have hbq := below_step hb bz
          clear hb bz
          have hb := hbq
          clear hbq
          generalize (v34.alloc (.map #[] 0)) = v37 at *
          generalize v34.heap.size = nm at hnm hnmb ne_nm_sm ne_nm_um ⊢
          refine hK.out _ _ (by exact ⟨(hS4.out _ hb).1, (hS4.out _ hb).2.1, (hS4.out _ hb).2.2.1, (hS4.out _ hb).2.2.2.1, (hS4.out _ hb).2.2.2.2.1, (hS4.out _ hb).2.2.2.2.2.1, (hS4.out _ hb).2.2.2.2.2.2, (hC6.out _ hb).1, (hC6.out _ hb).2⟩) (fun hHeld => ?_)
          clear hK K
          try simp only [Act.put, List.setIfInBounds_toArray, List.set_cons_zero, List.set_cons_succ]
          refine wpAnyH_ready (rs := [4]) (by kernel_rfl) (by simp) (AllReadyH.cons (o := ?oq_1_67_4) ?op_1_67_4 (fun K hK => ?re_1_67_4) AllReadyH.nil)
          case op_1_67_4 => (simp only [List.getElem?_toArray, List.getElem?_cons_succ, List.getElem?_cons_zero]; rfl)
          go_simp
          have hbm : MapM (v37.alloc (.map #[] 0)) v37.heap.size 0 (fun _ _ => none) := MapM.made v37
          have bz : Below v37.heap.size v37 (v37.alloc (.map #[] 0)) := (Below.refl v37.heap.size v37).alloc (Nat.le_refl _) (.map #[] 0)
          have ne_bm_sm : v37.heap.size ≠ sm := fun e => by have := hsm.lt; omega
          have ne_bm_um : v37.heap.size ≠ um := fun e => by have := hbk.map.lt; omega
          have ne_bm_nm : v37.heap.size ≠ nm := fun e => by have := hnm.lt; omega
          replace hsm := hsm.below bz
          replace hbk := hbk.below bz
          replace hnm := hnm.below bz
          have hbmb : W.heap.size ≤ v37.heap.size := hb.size
          have hbq := below_step hb bz
          clear hb bz
          have hb := hbq
          clear hbq
          generalize (v37.alloc (.map #[] 0)) = v38 at *
          generalize v37.heap.size = bm at hbm hbmb ne_bm_sm ne_bm_um ne_bm_nm ⊢
          refine hK.out _ _ (by exact ⟨(hS4.out _ hb).1, (hS4.out _ hb).2.1, (hS4.out _ hb).2.2.1, (hS4.out _ hb).2.2.2.1, (hS4.out _ hb).2.2.2.2.1, (hS4.out _ hb).2.2.2.2.2.1, (hS4.out _ hb).2.2.2.2.2.2, (hC6.out _ hb).1, (hC6.out _ hb).2⟩) (fun hHeld => ?_)
          clear hK K
          try simp only [Act.put, List.setIfInBounds_toArray, List.set_cons_zero, List.set_cons_succ]
          refine wtk 7 hHeld ?_
          refine wpAnyH_ready (rs := [8]) (by kernel_rfl) (by simp) (AllReadyH.cons (o := ?oq_1_69_8) ?op_1_69_8 (fun K hK => ?re_1_69_8) AllReadyH.nil)
          case op_1_69_8 => (simp only [List.getElem?_toArray, List.getElem?_cons_succ, List.getElem?_cons_zero]; rfl)
          go_simp
          have hXB : BlkAt (v38.alloc (.cells (mcells ⟨lb, bk, um, bm, sm, nm⟩ (.slice A c.chain.length cap) { s := s, cf := c, til := fun _ _ => 0, held := 0, beats := fun _ _ => none, lives := List.replicate 8 0, sat := fun _ _ => false, since := fun _ _ => none }).toArray 87)) v38.heap.size 87 (mcells ⟨lb, bk, um, bm, sm, nm⟩ (.slice A c.chain.length cap) { s := s, cf := c, til := fun _ _ => 0, held := 0, beats := fun _ _ => none, lives := List.replicate 8 0, sat := fun _ _ => false, since := fun _ _ => none }) := BlkAt.new v38 87 _
          have bz := (Below.refl v38.heap.size v38).alloc (Nat.le_refl _) (.cells (mcells ⟨lb, bk, um, bm, sm, nm⟩ (.slice A c.chain.length cap) { s := s, cf := c, til := fun _ _ => 0, held := 0, beats := fun _ _ => none, lives := List.replicate 8 0, sat := fun _ _ => false, since := fun _ _ => none }).toArray 87)
          have hq := below_step hb bz
          have hMq : MAt B (v38.alloc (.cells (mcells ⟨lb, bk, um, bm, sm, nm⟩ (.slice A c.chain.length cap) { s := s, cf := c, til := fun _ _ => 0, held := 0, beats := fun _ _ => none, lives := List.replicate 8 0, sat := fun _ _ => false, since := fun _ _ => none }).toArray 87)) v38.heap.size ⟨lb, bk, um, bm, sm, nm⟩ 0 { s := s, cf := c, til := fun _ _ => 0, held := 0, beats := fun _ _ => none, lives := List.replicate 8 0, sat := fun _ _ => false, since := fun _ _ => none } l :=
            ⟨⟨_, hXB, HCH.out.below hq⟩, ⟨HLOG.out.choose, HLOG.out.choose_spec.below hq⟩, hbk.below bz, hbm.below bz, hsm.below bz, hnm.below bz, ⟨(Ne.symm ne_bm_um), ne_um_sm, (Ne.symm ne_nm_um), ne_bm_sm, ne_bm_nm, (Ne.symm ne_nm_sm)⟩, ⟨HSET.out, HRT.out, rfl, fun u hu => (by rw [List.eq_of_mem_replicate hu]; exact W64.mk (by decide) (by decide)), fun _ _ _ h => (by cases h), fun _ _ _ h => (by cases h)⟩⟩
          have hN : FNew w [lb] (MBlk.list ⟨lb, bk, um, bm, sm, nm⟩ v38.heap.size) := begin_new (Nat.le_trans HWS.out hb.size) (Nat.le_trans HWS.out hbkb) (Nat.le_trans HWS.out humb) (Nat.le_trans HWS.out hbmb) (Nat.le_trans HWS.out hsmb) (Nat.le_trans HWS.out hnmb)
          clear hb hXB hbk hbm hsm hnm bz
          have hb := hq
          clear hq
          refine hK.out _ _ (by exact ⟨(hS4.out _ hb).1, (hS4.out _ hb).2.1, (hS4.out _ hb).2.2.1, (hS4.out _ hb).2.2.2.1, (hS4.out _ hb).2.2.2.2.1, (hS4.out _ hb).2.2.2.2.2.1, (hS4.out _ hb).2.2.2.2.2.2, (hC6.out _ hb).1, (hC6.out _ hb).2⟩) (fun hHeld => ?_)
          clear hK K
          try simp only [Act.put, List.setIfInBounds_toArray, List.set_cons_zero, List.set_cons_succ]
          refine wtk 9 hHeld ?_
          refine wpAnyH_done (by kernel_rfl) ?_ _
          refine NoPanic.normal ?_
          clear hHeld
          go_wp2_with fail
          go_meet
          exact ⟨_, ⟨lb, bk, um, bm, sm, nm⟩, rfl, rfl, hMq, hb, hN⟩
      case re_1_61_4 =>
        go_simp
        have hbm : MapM (v33.alloc (.map #[] 0)) v33.heap.size 0 (fun _ _ => none) := MapM.made v33
        have bz : Below v33.heap.size v33 (v33.alloc (.map #[] 0)) := (Below.refl v33.heap.size v33).alloc (Nat.le_refl _) (.map #[] 0)
        have ne_bm_sm : v33.heap.size ≠ sm := fun e => by have := hsm.lt; omega
        replace hsm := hsm.below bz
        have hbmb : W.heap.size ≤ v33.heap.size := hb.size
        have hbq := below_step hb bz
        clear hb bz
        have hb := hbq
        clear hbq
        generalize (v33.alloc (.map #[] 0)) = v39 at *
        generalize v33.heap.size = bm at hbm hbmb ne_bm_sm ⊢
        refine hK.out _ _ (by exact ⟨(hS4.out _ hb).1, (hS4.out _ hb).2.1, (hS4.out _ hb).2.2.1, (hS4.out _ hb).2.2.2.1, (hS4.out _ hb).2.2.2.2.1, (hS4.out _ hb).2.2.2.2.2.1, (hS4.out _ hb).2.2.2.2.2.2, (hC6.out _ hb).1, (hC6.out _ hb).2⟩) (fun hHeld => ?_)
        clear hK K
        try simp only [Act.put, List.setIfInBounds_toArray, List.set_cons_zero, List.set_cons_succ]
        refine wpAnyH_ready (rs := [3, 6]) (by kernel_rfl) (by simp) (AllReadyH.cons (o := ?oq_1_71_3) ?op_1_71_3 (fun K hK => ?re_1_71_3) (AllReadyH.cons (o := ?oq_1_71_6) ?op_1_71_6 (fun K hK => ?re_1_71_6) AllReadyH.nil))
        case op_1_71_3 => (simp only [List.getElem?_toArray, List.getElem?_cons_succ, List.getElem?_cons_zero]; rfl)
        case op_1_71_6 => (simp only [List.getElem?_toArray, List.getElem?_cons_succ, List.getElem?_cons_zero]; rfl)
        case re_1_71_3 =>
          go_simp
          go_at_call 80
          refine (lnew_any _).mono ?_
          rintro en v40 ⟨bk, um, rfl, hbk, hbkn, humn, bz⟩
          have ne_um_sm : um ≠ sm := fun e => by have := hsm.lt; omega
          have ne_um_bm : um ≠ bm := fun e => by have := hbm.lt; omega
          replace hsm := hsm.below bz
          replace hbm := hbm.below bz
          have hbkb : W.heap.size ≤ bk := Nat.le_trans hb.size hbkn
          have humb : W.heap.size ≤ um := Nat.le_trans hb.size humn
          have hbq := below_step hb bz
          clear hb bz hbkn humn
          have hb := hbq
          clear hbq
          refine hK.out _ _ (by exact ⟨(hS4.out _ hb).1, (hS4.out _ hb).2.1, (hS4.out _ hb).2.2.1, (hS4.out _ hb).2.2.2.1, (hS4.out _ hb).2.2.2.2.1, (hS4.out _ hb).2.2.2.2.2.1, (hS4.out _ hb).2.2.2.2.2.2, (hC6.out _ hb).1, (hC6.out _ hb).2⟩) (fun hHeld => ?_)
          clear hK K
          try simp only [Act.put, List.setIfInBounds_toArray, List.set_cons_zero, List.set_cons_succ]
          refine wpAnyH_ready (rs := [6]) (by kernel_rfl) (by simp) (AllReadyH.cons (o := ?oq_1_72_6) ?op_1_72_6 (fun K hK => ?re_1_72_6) AllReadyH.nil)
          case op_1_72_6 => (simp only [List.getElem?_toArray, List.getElem?_cons_succ, List.getElem?_cons_zero]; rfl)
          go_simp
          have hnm : MapM (v40.alloc (.map #[] 0)) v40.heap.size 0 (fun _ _ => none) := MapM.made v40
          have bz : Below v40.heap.size v40 (v40.alloc (.map #[] 0)) := (Below.refl v40.heap.size v40).alloc (Nat.le_refl _) (.map #[] 0)
          have ne_nm_sm : v40.heap.size ≠ sm := fun e => by have := hsm.lt; omega
          have ne_nm_bm : v40.heap.size ≠ bm := fun e => by have := hbm.lt; omega
          have ne_nm_um : v40.heap.size ≠ um := fun e => by have := hbk.map.lt; omega
          replace hsm := hsm.below bz
          replace hbm := hbm.below bz
          replace hbk := hbk.below bz
          have hnmb : W.heap.size ≤ v40.heap.size := hb.size
          have hbq := below_step hb bz
          clear hb bz
          have hb := hbq
          clear hbq
          generalize (v40.alloc (.map #[] 0)) = v41 at *
          generalize v40.heap.size = nm at hnm hnmb ne_nm_sm ne_nm_bm ne_nm_um ⊢
          refine hK.out _ _ (by exact ⟨(hS4.out _ hb).1, (hS4.out _ hb).2.1, (hS4.out _ hb).2.2.1, (hS4.out _ hb).2.2.2.1, (hS4.out _ hb).2.2.2.2.1, (hS4.out _ hb).2.2.2.2.2.1, (hS4.out _ hb).2.2.2.2.2.2, (hC6.out _ hb).1, (hC6.out _ hb).2⟩) (fun hHeld => ?_)
          clear hK K
          try simp only [Act.put, List.setIfInBounds_toArray, List.set_cons_zero, List.set_cons_succ]
          refine wtk 7 hHeld ?_
          refine wpAnyH_ready (rs := [8]) (by kernel_rfl) (by simp) (AllReadyH.cons (o := ?oq_1_74_8) ?op_1_74_8 (fun K hK => ?re_1_74_8) AllReadyH.nil)
          case op_1_74_8 => (simp only [List.getElem?_toArray, List.getElem?_cons_succ, List.getElem?_cons_zero]; rfl)
          go_simp
          have hXB : BlkAt (v41.alloc (.cells (mcells ⟨lb, bk, um, bm, sm, nm⟩ (.slice A c.chain.length cap) { s := s, cf := c, til := fun _ _ => 0, held := 0, beats := fun _ _ => none, lives := List.replicate 8 0, sat := fun _ _ => false, since := fun _ _ => none }).toArray 87)) v41.heap.size 87 (mcells ⟨lb, bk, um, bm, sm, nm⟩ (.slice A c.chain.length cap) { s := s, cf := c, til := fun _ _ => 0, held := 0, beats := fun _ _ => none, lives := List.replicate 8 0, sat := fun _ _ => false, since := fun _ _ => none }) := BlkAt.new v41 87 _
          have bz := (Below.refl v41.heap.size v41).alloc (Nat.le_refl _) (.cells (mcells ⟨lb, bk, um, bm, sm, nm⟩ (.slice A c.chain.length cap) { s := s, cf := c, til := fun _ _ => 0, held := 0, beats := fun _ _ => none, lives := List.replicate 8 0, sat := fun _ _ => false, since := fun _ _ => none }).toArray 87)
          have hq := below_step hb bz
          have hMq : MAt B (v41.alloc (.cells (mcells ⟨lb, bk, um, bm, sm, nm⟩ (.slice A c.chain.length cap) { s := s, cf := c, til := fun _ _ => 0, held := 0, beats := fun _ _ => none, lives := List.replicate 8 0, sat := fun _ _ => false, since := fun _ _ => none }).toArray 87)) v41.heap.size ⟨lb, bk, um, bm, sm, nm⟩ 0 { s := s, cf := c, til := fun _ _ => 0, held := 0, beats := fun _ _ => none, lives := List.replicate 8 0, sat := fun _ _ => false, since := fun _ _ => none } l :=
            ⟨⟨_, hXB, HCH.out.below hq⟩, ⟨HLOG.out.choose, HLOG.out.choose_spec.below hq⟩, hbk.below bz, hbm.below bz, hsm.below bz, hnm.below bz, ⟨ne_um_bm, ne_um_sm, (Ne.symm ne_nm_um), ne_bm_sm, (Ne.symm ne_nm_bm), (Ne.symm ne_nm_sm)⟩, ⟨HSET.out, HRT.out, rfl, fun u hu => (by rw [List.eq_of_mem_replicate hu]; exact W64.mk (by decide) (by decide)), fun _ _ _ h => (by cases h), fun _ _ _ h => (by cases h)⟩⟩
          have hN : FNew w [lb] (MBlk.list ⟨lb, bk, um, bm, sm, nm⟩ v41.heap.size) := begin_new (Nat.le_trans HWS.out hb.size) (Nat.le_trans HWS.out hbkb) (Nat.le_trans HWS.out humb) (Nat.le_trans HWS.out hbmb) (Nat.le_trans HWS.out hsmb) (Nat.le_trans HWS.out hnmb)
          clear hb hXB hbk hbm hsm hnm bz
          have hb := hq
          clear hq
          refine hK.out _ _ (by exact ⟨(hS4.out _ hb).1, (hS4.out _ hb).2.1, (hS4.out _ hb).2.2.1, (hS4.out _ hb).2.2.2.1, (hS4.out _ hb).2.2.2.2.1, (hS4.out _ hb).2.2.2.2.2.1, (hS4.out _ hb).2.2.2.2.2.2, (hC6.out _ hb).1, (hC6.out _ hb).2⟩) (fun hHeld => ?_)
          clear hK K
          try simp only [Act.put, List.setIfInBounds_toArray, List.set_cons_zero, List.set_cons_succ]
          refine wtk 9 hHeld ?_
          refine wpAnyH_done (by kernel_rfl) ?_ _
          refine NoPanic.normal ?_
          clear hHeld
          go_wp2_with fail
          go_meet
          exact ⟨_, ⟨lb, bk, um, bm, sm, nm⟩, rfl, rfl, hMq, hb, hN⟩
        case re_1_71_6 =>
          go_simp
          have hnm : MapM (v39.alloc (.map #[] 0)) v39.heap.size 0 (fun _ _ => none) := MapM.made v39
          have bz : Below v39.heap.size v39 (v39.alloc (.map #[] 0)) := (Below.refl v39.heap.size v39).alloc (Nat.le_refl _) (.map #[] 0)
          have ne_nm_sm : v39.heap.size ≠ sm := fun e => by have := hsm.lt; omega
          have ne_nm_bm : v39.heap.size ≠ bm := fun e => by have := hbm.lt; omega
          replace hsm := hsm.below bz
          replace hbm := hbm.below bz
          have hnmb : W.heap.size ≤ v39.heap.size := hb.size
          have hbq := below_step hb bz
          clear hb bz
          have hb := hbq
          clear hbq
          generalize (v39.alloc (.map #[] 0)) = v42 at *
          generalize v39.heap.size = nm at hnm hnmb ne_nm_sm ne_nm_bm ⊢
          refine hK.out _ _ (by exact ⟨(hS4.out _ hb).1, (hS4.out _ hb).2.1, (hS4.out _ hb).2.2.1, (hS4.out _ hb).2.2.2.1, (hS4.out _ hb).2.2.2.2.1, (hS4.out _ hb).2.2.2.2.2.1, (hS4.out _ hb).2.2.2.2.2.2, (hC6.out _ hb).1, (hC6.out _ hb).2⟩) (fun hHeld => ?_)
          clear hK K
          try simp only [Act.put, List.setIfInBounds_toArray, List.set_cons_zero, List.set_cons_succ]
          refine wpAnyH_ready (rs := [3]) (by kernel_rfl) (by simp) (AllReadyH.cons (o := ?oq_1_76_3) ?op_1_76_3 (fun K hK => ?re_1_76_3) AllReadyH.nil)
          case op_1_76_3 => (simp only [List.getElem?_toArray, List.getElem?_cons_succ, List.getElem?_cons_zero]; rfl)
          go_simp
          go_at_call 80
          refine (lnew_any _).mono ?_
          rintro en v43 ⟨bk, um, rfl, hbk, hbkn, humn, bz⟩
          have ne_um_sm : um ≠ sm := fun e => by have := hsm.lt; omega
          have ne_um_bm : um ≠ bm := fun e => by have := hbm.lt; omega
          have ne_um_nm : um ≠ nm := fun e => by have := hnm.lt; omega
          replace hsm := hsm.below bz
          replace hbm := hbm.below bz
          replace hnm := hnm.below bz
          have hbkb : W.heap.size ≤ bk := Nat.le_trans hb.size hbkn
          have humb : W.heap.size ≤ um := Nat.le_trans hb.size humn
          have hbq := below_step hb bz
          clear hb bz hbkn humn
          have hb := hbq
          clear hbq
          refine hK.out _ _ (by exact ⟨(hS4.out _ hb).1, (hS4.out _ hb).2.1, (hS4.out _ hb).2.2.1, (hS4.out _ hb).2.2.2.1, (hS4.out _ hb).2.2.2.2.1, (hS4.out _ hb).2.2.2.2.2.1, (hS4.out _ hb).2.2.2.2.2.2, (hC6.out _ hb).1, (hC6.out _ hb).2⟩) (fun hHeld => ?_)
          clear hK K
          try simp only [Act.put, List.setIfInBounds_toArray, List.set_cons_zero, List.set_cons_succ]
          refine wtk 7 hHeld ?_
          refine wpAnyH_ready (rs := [8]) (by kernel_rfl) (by simp) (AllReadyH.cons (o := ?oq_1_78_8) ?op_1_78_8 (fun K hK => ?re_1_78_8) AllReadyH.nil)
          case op_1_78_8 => (simp only [List.getElem?_toArray, List.getElem?_cons_succ, List.getElem?_cons_zero]; rfl)
          go_simp
          have hXB : BlkAt (v43.alloc (.cells (mcells ⟨lb, bk, um, bm, sm, nm⟩ (.slice A c.chain.length cap) { s := s, cf := c, til := fun _ _ => 0, held := 0, beats := fun _ _ => none, lives := List.replicate 8 0, sat := fun _ _ => false, since := fun _ _ => none }).toArray 87)) v43.heap.size 87 (mcells ⟨lb, bk, um, bm, sm, nm⟩ (.slice A c.chain.length cap) { s := s, cf := c, til := fun _ _ => 0, held := 0, beats := fun _ _ => none, lives := List.replicate 8 0, sat := fun _ _ => false, since := fun _ _ => none }) := BlkAt.new v43 87 _
          have bz := (Below.refl v43.heap.size v43).alloc (Nat.le_refl _) (.cells (mcells ⟨lb, bk, um, bm, sm, nm⟩ (.slice A c.chain.length cap) { s := s, cf := c, til := fun _ _ => 0, held := 0, beats := fun _ _ => none, lives := List.replicate 8 0, sat := fun _ _ => false, since := fun _ _ => none }).toArray 87)
          have hq := below_step hb bz
          have hMq : MAt B (v43.alloc (.cells (mcells ⟨lb, bk, um, bm, sm, nm⟩ (.slice A c.chain.length cap) { s := s, cf := c, til := fun _ _ => 0, held := 0, beats := fun _ _ => none, lives := List.replicate 8 0, sat := fun _ _ => false, since := fun _ _ => none }).toArray 87)) v43.heap.size ⟨lb, bk, um, bm, sm, nm⟩ 0 { s := s, cf := c, til := fun _ _ => 0, held := 0, beats := fun _ _ => none, lives := List.replicate 8 0, sat := fun _ _ => false, since := fun _ _ => none } l :=
            ⟨⟨_, hXB, HCH.out.below hq⟩, ⟨HLOG.out.choose, HLOG.out.choose_spec.below hq⟩, hbk.below bz, hbm.below bz, hsm.below bz, hnm.below bz, ⟨ne_um_bm, ne_um_sm, ne_um_nm, ne_bm_sm, (Ne.symm ne_nm_bm), (Ne.symm ne_nm_sm)⟩, ⟨HSET.out, HRT.out, rfl, fun u hu => (by rw [List.eq_of_mem_replicate hu]; exact W64.mk (by decide) (by decide)), fun _ _ _ h => (by cases h), fun _ _ _ h => (by cases h)⟩⟩
          have hN : FNew w [lb] (MBlk.list ⟨lb, bk, um, bm, sm, nm⟩ v43.heap.size) := begin_new (Nat.le_trans HWS.out hb.size) (Nat.le_trans HWS.out hbkb) (Nat.le_trans HWS.out humb) (Nat.le_trans HWS.out hbmb) (Nat.le_trans HWS.out hsmb) (Nat.le_trans HWS.out hnmb)
          clear hb hXB hbk hbm hsm hnm bz
          have hb := hq
          clear hq
          refine hK.out _ _ (by exact ⟨(hS4.out _ hb).1, (hS4.out _ hb).2.1, (hS4.out _ hb).2.2.1, (hS4.out _ hb).2.2.2.1, (hS4.out _ hb).2.2.2.2.1, (hS4.out _ hb).2.2.2.2.2.1, (hS4.out _ hb).2.2.2.2.2.2, (hC6.out _ hb).1, (hC6.out _ hb).2⟩) (fun hHeld => ?_)
          clear hK K
          try simp only [Act.put, List.setIfInBounds_toArray, List.set_cons_zero, List.set_cons_succ]
          refine wtk 9 hHeld ?_
          refine wpAnyH_done (by kernel_rfl) ?_ _
          refine NoPanic.normal ?_
          clear hHeld
          go_wp2_with fail
          go_meet
          exact ⟨_, ⟨lb, bk, um, bm, sm, nm⟩, rfl, rfl, hMq, hb, hN⟩
      case re_1_61_6 =>
        go_simp
        have hnm : MapM (v33.alloc (.map #[] 0)) v33.heap.size 0 (fun _ _ => none) := MapM.made v33
        have bz : Below v33.heap.size v33 (v33.alloc (.map #[] 0)) := (Below.refl v33.heap.size v33).alloc (Nat.le_refl _) (.map #[] 0)
        have ne_nm_sm : v33.heap.size ≠ sm := fun e => by have := hsm.lt; omega
        replace hsm := hsm.below bz
        have hnmb : W.heap.size ≤ v33.heap.size := hb.size
        have hbq := below_step hb bz
        clear hb bz
        have hb := hbq
        clear hbq
        generalize (v33.alloc (.map #[] 0)) = v44 at *
        generalize v33.heap.size = nm at hnm hnmb ne_nm_sm ⊢
        refine hK.out _ _ (by exact ⟨(hS4.out _ hb).1, (hS4.out _ hb).2.1, (hS4.out _ hb).2.2.1, (hS4.out _ hb).2.2.2.1, (hS4.out _ hb).2.2.2.2.1, (hS4.out _ hb).2.2.2.2.2.1, (hS4.out _ hb).2.2.2.2.2.2, (hC6.out _ hb).1, (hC6.out _ hb).2⟩) (fun hHeld => ?_)
        clear hK K
        try simp only [Act.put, List.setIfInBounds_toArray, List.set_cons_zero, List.set_cons_succ]
        refine wpAnyH_ready (rs := [3, 4]) (by kernel_rfl) (by simp) (AllReadyH.cons (o := ?oq_1_80_3) ?op_1_80_3 (fun K hK => ?re_1_80_3) (AllReadyH.cons (o := ?oq_1_80_4) ?op_1_80_4 (fun K hK => ?re_1_80_4) AllReadyH.nil))
        case op_1_80_3 => (simp only [List.getElem?_toArray, List.getElem?_cons_succ, List.getElem?_cons_zero]; rfl)
        case op_1_80_4 => (simp only [List.getElem?_toArray, List.getElem?_cons_succ, List.getElem?_cons_zero]; rfl)
        case re_1_80_3 =>
          go_simp
          go_at_call 80
          refine (lnew_any _).mono ?_
          rintro en v45 ⟨bk, um, rfl, hbk, hbkn, humn, bz⟩
          have ne_um_sm : um ≠ sm := fun e => by have := hsm.lt; omega
          have ne_um_nm : um ≠ nm := fun e => by have := hnm.lt; omega
          replace hsm := hsm.below bz
          replace hnm := hnm.below bz
          have hbkb : W.heap.size ≤ bk := Nat.le_trans hb.size hbkn
          have humb : W.heap.size ≤ um := Nat.le_trans hb.size humn
          have hbq := below_step hb bz
          clear hb bz hbkn humn
          have hb := hbq
          clear hbq
          refine hK.out _ _ (by exact ⟨(hS4.out _ hb).1, (hS4.out _ hb).2.1, (hS4.out _ hb).2.2.1, (hS4.out _ hb).2.2.2.1, (hS4.out _ hb).2.2.2.2.1, (hS4.out _ hb).2.2.2.2.2.1, (hS4.out _ hb).2.2.2.2.2.2, (hC6.out _ hb).1, (hC6.out _ hb).2⟩) (fun hHeld => ?_)
          clear hK K
          try simp only [Act.put, List.setIfInBounds_toArray, List.set_cons_zero, List.set_cons_succ]
          refine wpAnyH_ready (rs := [4]) (by kernel_rfl) (by simp) (AllReadyH.cons (o := ?oq_1_81_4) ?op_1_81_4 (fun K hK => ?re_1_81_4) AllReadyH.nil)
          case op_1_81_4 => (simp only [List.getElem?_toArray, List.getElem?_cons_succ, List.getElem?_cons_zero]; rfl)
          go_simp
          have hbm : MapM (v45.alloc (.map #[] 0)) v45.heap.size 0 (fun _ _ => none) := MapM.made v45
          have bz : Below v45.heap.size v45 (v45.alloc (.map #[] 0)) := (Below.refl v45.heap.size v45).alloc (Nat.le_refl _) (.map #[] 0)
          have ne_bm_sm : v45.heap.size ≠ sm := fun e => by have := hsm.lt; omega
          have ne_bm_nm : v45.heap.size ≠ nm := fun e => by have := hnm.lt; omega
          have ne_bm_um : v45.heap.size ≠ um := fun e => by have := hbk.map.lt; omega
          replace hsm := hsm.below bz
          replace hnm := hnm.below bz
          replace hbk := hbk.below bz
          have hbmb : W.heap.size ≤ v45.heap.size := hb.size
          have hbq := below_step hb bz
          clear hb bz
          have hb := hbq
          clear hbq
          generalize (v45.alloc (.map #[] 0)) = v46 at *
          generalize v45.heap.size = bm at hbm hbmb ne_bm_sm ne_bm_nm ne_bm_um ⊢
          refine hK.out _ _ (by exact ⟨(hS4.out _ hb).1, (hS4.out _ hb).2.1, (hS4.out _ hb).2.2.1, (hS4.out _ hb).2.2.2.1, (hS4.out _ hb).2.2.2.2.1, (hS4.out _ hb).2.2.2.2.2.1, (hS4.out _ hb).2.2.2.2.2.2, (hC6.out _ hb).1, (hC6.out _ hb).2⟩) (fun hHeld => ?_)
          clear hK K
          try simp only [Act.put, List.setIfInBounds_toArray, List.set_cons_zero, List.set_cons_succ]
          refine wtk 7 hHeld ?_
          refine wpAnyH_ready (rs := [8]) (by kernel_rfl) (by simp) (AllReadyH.cons (o := ?oq_1_83_8) ?op_1_83_8 (fun K hK => ?re_1_83_8) AllReadyH.nil)
          case op_1_83_8 => (simp only [List.getElem?_toArray, List.getElem?_cons_succ, List.getElem?_cons_zero]; rfl)
          go_simp
          have hXB : BlkAt (v46.alloc (.cells (mcells ⟨lb, bk, um, bm, sm, nm⟩ (.slice A c.chain.length cap) { s := s, cf := c, til := fun _ _ => 0, held := 0, beats := fun _ _ => none, lives := List.replicate 8 0, sat := fun _ _ => false, since := fun _ _ => none }).toArray 87)) v46.heap.size 87 (mcells ⟨lb, bk, um, bm, sm, nm⟩ (.slice A c.chain.length cap) { s := s, cf := c, til := fun _ _ => 0, held := 0, beats := fun _ _ => none, lives := List.replicate 8 0, sat := fun _ _ => false, since := fun _ _ => none }) := BlkAt.new v46 87 _
          have bz := (Below.refl v46.heap.size v46).alloc (Nat.le_refl _) (.cells (mcells ⟨lb, bk, um, bm, sm, nm⟩ (.slice A c.chain.length cap) { s := s, cf := c, til := fun _ _ => 0, held := 0, beats := fun _ _ => none, lives := List.replicate 8 0, sat := fun _ _ => false, since := fun _ _ => none }).toArray 87)
          have hq := below_step hb bz
          have hMq : MAt B (v46.alloc (.cells (mcells ⟨lb, bk, um, bm, sm, nm⟩ (.slice A c.chain.length cap) { s := s, cf := c, til := fun _ _ => 0, held := 0, beats := fun _ _ => none, lives := List.replicate 8 0, sat := fun _ _ => false, since := fun _ _ => none }).toArray 87)) v46.heap.size ⟨lb, bk, um, bm, sm, nm⟩ 0 { s := s, cf := c, til := fun _ _ => 0, held := 0, beats := fun _ _ => none, lives := List.replicate 8 0, sat := fun _ _ => false, since := fun _ _ => none } l :=
            ⟨⟨_, hXB, HCH.out.below hq⟩, ⟨HLOG.out.choose, HLOG.out.choose_spec.below hq⟩, hbk.below bz, hbm.below bz, hsm.below bz, hnm.below bz, ⟨(Ne.symm ne_bm_um), ne_um_sm, ne_um_nm, ne_bm_sm, ne_bm_nm, (Ne.symm ne_nm_sm)⟩, ⟨HSET.out, HRT.out, rfl, fun u hu => (by rw [List.eq_of_mem_replicate hu]; exact W64.mk (by decide) (by decide)), fun _ _ _ h => (by cases h), fun _ _ _ h => (by cases h)⟩⟩
          have hN : FNew w [lb] (MBlk.list ⟨lb, bk, um, bm, sm, nm⟩ v46.heap.size) := begin_new (Nat.le_trans HWS.out hb.size) (Nat.le_trans HWS.out hbkb) (Nat.le_trans HWS.out humb) (Nat.le_trans HWS.out hbmb) (Nat.le_trans HWS.out hsmb) (Nat.le_trans HWS.out hnmb)
          clear hb hXB hbk hbm hsm hnm bz
          have hb := hq
          clear hq
          refine hK.out _ _ (by exact ⟨(hS4.out _ hb).1, (hS4.out _ hb).2.1, (hS4.out _ hb).2.2.1, (hS4.out _ hb).2.2.2.1, (hS4.out _ hb).2.2.2.2.1, (hS4.out _ hb).2.2.2.2.2.1, (hS4.out _ hb).2.2.2.2.2.2, (hC6.out _ hb).1, (hC6.out _ hb).2⟩) (fun hHeld => ?_)
          clear hK K
          try simp only [Act.put, List.setIfInBounds_toArray, List.set_cons_zero, List.set_cons_succ]
          refine wtk 9 hHeld ?_
          refine wpAnyH_done (by kernel_rfl) ?_ _
          refine NoPanic.normal ?_
          clear hHeld
          go_wp2_with fail
          go_meet
          exact ⟨_, ⟨lb, bk, um, bm, sm, nm⟩, rfl, rfl, hMq, hb, hN⟩
        case re_1_80_4 =>
          go_simp
          have hbm : MapM (v44.alloc (.map #[] 0)) v44.heap.size 0 (fun _ _ => none) := MapM.made v44
          have bz : Below v44.heap.size v44 (v44.alloc (.map #[] 0)) := (Below.refl v44.heap.size v44).alloc (Nat.le_refl _) (.map #[] 0)
          have ne_bm_sm : v44.heap.size ≠ sm := fun e => by have := hsm.lt; omega
          have ne_bm_nm : v44.heap.size ≠ nm := fun e => by have := hnm.lt; omega
          replace hsm := hsm.below bz
          replace hnm := hnm.below bz
          have hbmb : W.heap.size ≤ v44.heap.size := hb.size
          have hbq := below_step hb bz
          clear hb bz
          have hb := hbq
          clear hbq
          generalize (v44.alloc (.map #[] 0)) = v47 at *
          generalize v44.heap.size = bm at hbm hbmb ne_bm_sm ne_bm_nm ⊢
          refine hK.out _ _ (by exact ⟨(hS4.out _ hb).1, (hS4.out _ hb).2.1, (hS4.out _ hb).2.2.1, (hS4.out _ hb).2.2.2.1, (hS4.out _ hb).2.2.2.2.1, (hS4.out _ hb).2.2.2.2.2.1, (hS4.out _ hb).2.2.2.2.2.2, (hC6.out _ hb).1, (hC6.out _ hb).2⟩) (fun hHeld => ?_)
          clear hK K
          try simp only [Act.put, List.setIfInBounds_toArray, List.set_cons_zero, List.set_cons_succ]
          refine wpAnyH_ready (rs := [3]) (by kernel_rfl) (by simp) (AllReadyH.cons (o := ?oq_1_85_3) ?op_1_85_3 (fun K hK => ?re_1_85_3) AllReadyH.nil)
          case op_1_85_3 => (simp only [List.getElem?_toArray, List.getElem?_cons_succ, List.getElem?_cons_zero]; rfl)
          go_simp
          go_at_call 80
          refine (lnew_any _).mono ?_
          rintro en v48 ⟨bk, um, rfl, hbk, hbkn, humn, bz⟩
          have ne_um_sm : um ≠ sm := fun e => by have := hsm.lt; omega
          have ne_um_nm : um ≠ nm := fun e => by have := hnm.lt; omega
          have ne_um_bm : um ≠ bm := fun e => by have := hbm.lt; omega
          replace hsm := hsm.below bz
          replace hnm := hnm.below bz
          replace hbm := hbm.below bz
          have hbkb : W.heap.size ≤ bk := Nat.le_trans hb.size hbkn
          have humb : W.heap.size ≤ um := Nat.le_trans hb.size humn
          have hbq := below_step hb bz
          clear hb bz hbkn humn
          have hb := hbq
          clear hbq
          refine hK.out _ _ (by exact ⟨(hS4.out _ hb).1, (hS4.out _ hb).2.1, (hS4.out _ hb).2.2.1, (hS4.out _ hb).2.2.2.1, (hS4.out _ hb).2.2.2.2.1, (hS4.out _ hb).2.2.2.2.2.1, (hS4.out _ hb).2.2.2.2.2.2, (hC6.out _ hb).1, (hC6.out _ hb).2⟩) (fun hHeld => ?_)
          clear hK K
          try simp only [Act.put, List.setIfInBounds_toArray, List.set_cons_zero, List.set_cons_succ]
          refine wtk 7 hHeld ?_
          refine wpAnyH_ready (rs := [8]) (by kernel_rfl) (by simp) (AllReadyH.cons (o := ?oq_1_87_8) ?op_1_87_8 (fun K hK => ?re_1_87_8) AllReadyH.nil)
          case op_1_87_8 => (simp only [List.getElem?_toArray, List.getElem?_cons_succ, List.getElem?_cons_zero]; rfl)
          go_simp
          have hXB : BlkAt (v48.alloc (.cells (mcells ⟨lb, bk, um, bm, sm, nm⟩ (.slice A c.chain.length cap) { s := s, cf := c, til := fun _ _ => 0, held := 0, beats := fun _ _ => none, lives := List.replicate 8 0, sat := fun _ _ => false, since := fun _ _ => none }).toArray 87)) v48.heap.size 87 (mcells ⟨lb, bk, um, bm, sm, nm⟩ (.slice A c.chain.length cap) { s := s, cf := c, til := fun _ _ => 0, held := 0, beats := fun _ _ => none, lives := List.replicate 8 0, sat := fun _ _ => false, since := fun _ _ => none }) := BlkAt.new v48 87 _
          have bz := (Below.refl v48.heap.size v48).alloc (Nat.le_refl _) (.cells (mcells ⟨lb, bk, um, bm, sm, nm⟩ (.slice A c.chain.length cap) { s := s, cf := c, til := fun _ _ => 0, held := 0, beats := fun _ _ => none, lives := List.replicate 8 0, sat := fun _ _ => false, since := fun _ _ => none }).toArray 87)
          have hq := below_step hb bz
          have hMq : MAt B (v48.alloc (.cells (mcells ⟨lb, bk, um, bm, sm, nm⟩ (.slice A c.chain.length cap) { s := s, cf := c, til := fun _ _ => 0, held := 0, beats := fun _ _ => none, lives := List.replicate 8 0, sat := fun _ _ => false, since := fun _ _ => none }).toArray 87)) v48.heap.size ⟨lb, bk, um, bm, sm, nm⟩ 0 { s := s, cf := c, til := fun _ _ => 0, held := 0, beats := fun _ _ => none, lives := List.replicate 8 0, sat := fun _ _ => false, since := fun _ _ => none } l :=
            ⟨⟨_, hXB, HCH.out.below hq⟩, ⟨HLOG.out.choose, HLOG.out.choose_spec.below hq⟩, hbk.below bz, hbm.below bz, hsm.below bz, hnm.below bz, ⟨ne_um_bm, ne_um_sm, ne_um_nm, ne_bm_sm, ne_bm_nm, (Ne.symm ne_nm_sm)⟩, ⟨HSET.out, HRT.out, rfl, fun u hu => (by rw [List.eq_of_mem_replicate hu]; exact W64.mk (by decide) (by decide)), fun _ _ _ h => (by cases h), fun _ _ _ h => (by cases h)⟩⟩
          have hN : FNew w [lb] (MBlk.list ⟨lb, bk, um, bm, sm, nm⟩ v48.heap.size) := begin_new (Nat.le_trans HWS.out hb.size) (Nat.le_trans HWS.out hbkb) (Nat.le_trans HWS.out humb) (Nat.le_trans HWS.out hbmb) (Nat.le_trans HWS.out hsmb) (Nat.le_trans HWS.out hnmb)
          clear hb hXB hbk hbm hsm hnm bz
          have hb := hq
          clear hq
          refine hK.out _ _ (by exact ⟨(hS4.out _ hb).1, (hS4.out _ hb).2.1, (hS4.out _ hb).2.2.1, (hS4.out _ hb).2.2.2.1, (hS4.out _ hb).2.2.2.2.1, (hS4.out _ hb).2.2.2.2.2.1, (hS4.out _ hb).2.2.2.2.2.2, (hC6.out _ hb).1, (hC6.out _ hb).2⟩) (fun hHeld => ?_)
          clear hK K
          try simp only [Act.put, List.setIfInBounds_toArray, List.set_cons_zero, List.set_cons_succ]
          refine wtk 9 hHeld ?_
          refine wpAnyH_done (by kernel_rfl) ?_ _
          refine NoPanic.normal ?_
          clear hHeld
          go_wp2_with fail
          go_meet
          exact ⟨_, ⟨lb, bk, um, bm, sm, nm⟩, rfl, rfl, hMq, hb, hN⟩
    case re_1_4_6 =>
      go_simp
      have hnm : MapM (W.alloc (.map #[] 0)).drew W.heap.size 0 (fun _ _ => none) := MapM.made W
      have bz : Below W.heap.size W (W.alloc (.map #[] 0)).drew := below_drewN ((Below.refl W.heap.size W).alloc (Nat.le_refl _) (.map #[] 0)) 1
      clear hb
      have hb := bz
      clear bz
      generalize (W.alloc (.map #[] 0)).drew = v49 at *
      obtain ⟨nm, hnmd⟩ : ∃ m, m = W.heap.size := ⟨_, rfl⟩
      have hnmb : W.heap.size ≤ nm := Nat.le_of_eq hnmd.symm
      rw [← hnmd] at hnm ⊢
      clear hnmd
      refine hK.out _ _ (by exact ⟨(hS4.out _ hb).1, (hS4.out _ hb).2.1, (hS4.out _ hb).2.2.1, (hS4.out _ hb).2.2.2.1, (hS4.out _ hb).2.2.2.2.1, (hS4.out _ hb).2.2.2.2.2.1, (hS4.out _ hb).2.2.2.2.2.2, (hC6.out _ hb).1, (hC6.out _ hb).2⟩) (fun hHeld => ?_)
      clear hK K
      try simp only [Act.put, List.setIfInBounds_toArray, List.set_cons_zero, List.set_cons_succ]
      refine wpAnyH_ready (rs := [3, 4, 5]) (by kernel_rfl) (by simp) (AllReadyH.cons (o := ?oq_1_89_3) ?op_1_89_3 (fun K hK => ?re_1_89_3) (AllReadyH.cons (o := ?oq_1_89_4) ?op_1_89_4 (fun K hK => ?re_1_89_4) (AllReadyH.cons (o := ?oq_1_89_5) ?op_1_89_5 (fun K hK => ?re_1_89_5) AllReadyH.nil)))
      case op_1_89_3 => (simp only [List.getElem?_toArray, List.getElem?_cons_succ, List.getElem?_cons_zero]; rfl)
      case op_1_89_4 => (simp only [List.getElem?_toArray, List.getElem?_cons_succ, List.getElem?_cons_zero]; rfl)
      case op_1_89_5 => (simp only [List.getElem?_toArray, List.getElem?_cons_succ, List.getElem?_cons_zero]; rfl)
      case re_1_89_3 =>
        go_simp
        go_at_call 80
        refine (lnew_any _).mono ?_
        rintro en v50 ⟨bk, um, rfl, hbk, hbkn, humn, bz⟩
        have ne_um_nm : um ≠ nm := fun e => by have := hnm.lt; omega
        replace hnm := hnm.below bz
        have hbkb : W.heap.size ≤ bk := Nat.le_trans hb.size hbkn
        have humb : W.heap.size ≤ um := Nat.le_trans hb.size humn
        have hbq := below_step hb bz
        clear hb bz hbkn humn
        have hb := hbq
        clear hbq
        refine hK.out _ _ (by exact ⟨(hS4.out _ hb).1, (hS4.out _ hb).2.1, (hS4.out _ hb).2.2.1, (hS4.out _ hb).2.2.2.1, (hS4.out _ hb).2.2.2.2.1, (hS4.out _ hb).2.2.2.2.2.1, (hS4.out _ hb).2.2.2.2.2.2, (hC6.out _ hb).1, (hC6.out _ hb).2⟩) (fun hHeld => ?_)
        clear hK K
        try simp only [Act.put, List.setIfInBounds_toArray, List.set_cons_zero, List.set_cons_succ]
        refine wpAnyH_ready (rs := [4, 5]) (by kernel_rfl) (by simp) (AllReadyH.cons (o := ?oq_1_90_4) ?op_1_90_4 (fun K hK => ?re_1_90_4) (AllReadyH.cons (o := ?oq_1_90_5) ?op_1_90_5 (fun K hK => ?re_1_90_5) AllReadyH.nil))
        case op_1_90_4 => (simp only [List.getElem?_toArray, List.getElem?_cons_succ, List.getElem?_cons_zero]; rfl)
        case op_1_90_5 => (simp only [List.getElem?_toArray, List.getElem?_cons_succ, List.getElem?_cons_zero]; rfl)
        case re_1_90_4 =>
          go_simp
          have hbm : MapM (v50.alloc (.map #[] 0)) v50.heap.size 0 (fun _ _ => none) := MapM.made v50
          have bz : Below v50.heap.size v50 (v50.alloc (.map #[] 0)) := (Below.refl v50.heap.size v50).alloc (Nat.le_refl _) (.map #[] 0)
          have ne_bm_nm : v50.heap.size ≠ nm := fun e => by have := hnm.lt; omega
          have ne_bm_um : v50.heap.size ≠ um := fun e => by have := hbk.map.lt; omega
          replace hnm := hnm.below bz
          replace hbk := hbk.below bz
          have hbmb : W.heap.size ≤ v50.heap.size := hb.size
          have hbq := below_step hb bz
          clear hb bz
          have hb := hbq
          clear hbq
          generalize (v50.alloc (.map #[] 0)) = v51 at *
          generalize v50.heap.size = bm at hbm hbmb ne_bm_nm ne_bm_um ⊢
          refine hK.out _ _ (by exact ⟨(hS4.out _ hb).1, (hS4.out _ hb).2.1, (hS4.out _ hb).2.2.1, (hS4.out _ hb).2.2.2.1, (hS4.out _ hb).2.2.2.2.1, (hS4.out _ hb).2.2.2.2.2.1, (hS4.out _ hb).2.2.2.2.2.2, (hC6.out _ hb).1, (hC6.out _ hb).2⟩) (fun hHeld => ?_)
          clear hK K
          try simp only [Act.put, List.setIfInBounds_toArray, List.set_cons_zero, List.set_cons_succ]
          refine wpAnyH_ready (rs := [5]) (by kernel_rfl) (by simp) (AllReadyH.cons (o := ?oq_1_91_5) ?op_1_91_5 (fun K hK => ?re_1_91_5) AllReadyH.nil)
          case op_1_91_5 => (simp only [List.getElem?_toArray, List.getElem?_cons_succ, List.getElem?_cons_zero]; rfl)
          go_simp
          have hsm : MapM (v51.alloc (.map #[] 0)) v51.heap.size 0 (fun _ _ => none) := MapM.made v51
          have bz : Below v51.heap.size v51 (v51.alloc (.map #[] 0)) := (Below.refl v51.heap.size v51).alloc (Nat.le_refl _) (.map #[] 0)
          have ne_sm_nm : v51.heap.size ≠ nm := fun e => by have := hnm.lt; omega
          have ne_sm_um : v51.heap.size ≠ um := fun e => by have := hbk.map.lt; omega
          have ne_sm_bm : v51.heap.size ≠ bm := fun e => by have := hbm.lt; omega
          replace hnm := hnm.below bz
          replace hbk := hbk.below bz
          replace hbm := hbm.below bz
          have hsmb : W.heap.size ≤ v51.heap.size := hb.size
          have hbq := below_step hb bz
          clear hb bz
          have hb := hbq
          clear hbq
          generalize (v51.alloc (.map #[] 0)) = v52 at *
          generalize v51.heap.size = sm at hsm hsmb ne_sm_nm ne_sm_um ne_sm_bm ⊢
          refine hK.out _ _ (by exact ⟨(hS4.out _ hb).1, (hS4.out _ hb).2.1, (hS4.out _ hb).2.2.1, (hS4.out _ hb).2.2.2.1, (hS4.out _ hb).2.2.2.2.1, (hS4.out _ hb).2.2.2.2.2.1, (hS4.out _ hb).2.2.2.2.2.2, (hC6.out _ hb).1, (hC6.out _ hb).2⟩) (fun hHeld => ?_)
          clear hK K
          try simp only [Act.put, List.setIfInBounds_toArray, List.set_cons_zero, List.set_cons_succ]
          refine wtk 7 hHeld ?_
          refine wpAnyH_ready (rs := [8]) (by kernel_rfl) (by simp) (AllReadyH.cons (o := ?oq_1_93_8) ?op_1_93_8 (fun K hK => ?re_1_93_8) AllReadyH.nil)
          case op_1_93_8 => (simp only [List.getElem?_toArray, List.getElem?_cons_succ, List.getElem?_cons_zero]; rfl)
          go_simp
          have hXB : BlkAt (v52.alloc (.cells (mcells ⟨lb, bk, um, bm, sm, nm⟩ (.slice A c.chain.length cap) { s := s, cf := c, til := fun _ _ => 0, held := 0, beats := fun _ _ => none, lives := List.replicate 8 0, sat := fun _ _ => false, since := fun _ _ => none }).toArray 87)) v52.heap.size 87 (mcells ⟨lb, bk, um, bm, sm, nm⟩ (.slice A c.chain.length cap) { s := s, cf := c, til := fun _ _ => 0, held := 0, beats := fun _ _ => none, lives := List.replicate 8 0, sat := fun _ _ => false, since := fun _ _ => none }) := BlkAt.new v52 87 _
          have bz := (Below.refl v52.heap.size v52).alloc (Nat.le_refl _) (.cells (mcells ⟨lb, bk, um, bm, sm, nm⟩ (.slice A c.chain.length cap) { s := s, cf := c, til := fun _ _ => 0, held := 0, beats := fun _ _ => none, lives := List.replicate 8 0, sat := fun _ _ => false, since := fun _ _ => none }).toArray 87)
          have hq := below_step hb bz
          have hMq : MAt B (v52.alloc (.cells (mcells ⟨lb, bk, um, bm, sm, nm⟩ (.slice A c.chain.length cap) { s := s, cf := c, til := fun _ _ => 0, held := 0, beats := fun _ _ => none, lives := List.replicate 8 0, sat := fun _ _ => false, since := fun _ _ => none }).toArray 87)) v52.heap.size ⟨lb, bk, um, bm, sm, nm⟩ 0 { s := s, cf := c, til := fun _ _ => 0, held := 0, beats := fun _ _ => none, lives := List.replicate 8 0, sat := fun _ _ => false, since := fun _ _ => none } l :=
            ⟨⟨_, hXB, HCH.out.below hq⟩, ⟨HLOG.out.choose, HLOG.out.choose_spec.below hq⟩, hbk.below bz, hbm.below bz, hsm.below bz, hnm.below bz, ⟨(Ne.symm ne_bm_um), (Ne.symm ne_sm_um), ne_um_nm, (Ne.symm ne_sm_bm), ne_bm_nm, ne_sm_nm⟩, ⟨HSET.out, HRT.out, rfl, fun u hu => (by rw [List.eq_of_mem_replicate hu]; exact W64.mk (by decide) (by decide)), fun _ _ _ h => (by cases h), fun _ _ _ h => (by cases h)⟩⟩
          have hN : FNew w [lb] (MBlk.list ⟨lb, bk, um, bm, sm, nm⟩ v52.heap.size) := begin_new (Nat.le_trans HWS.out hb.size) (Nat.le_trans HWS.out hbkb) (Nat.le_trans HWS.out humb) (Nat.le_trans HWS.out hbmb) (Nat.le_trans HWS.out hsmb) (Nat.le_trans HWS.out hnmb)
          clear hb hXB hbk hbm hsm hnm bz
          have hb := hq
          clear hq
          refine hK.out _ _ (by exact ⟨(hS4.out _ hb).1, (hS4.out _ hb).2.1, (hS4.out _ hb).2.2.1, (hS4.out _ hb).2.2.2.1, (hS4.out _ hb).2.2.2.2.1, (hS4.out _ hb).2.2.2.2.2.1, (hS4.out _ hb).2.2.2.2.2.2, (hC6.out _ hb).1, (hC6.out _ hb).2⟩) (fun hHeld => ?_)
          clear hK K
          try simp only [Act.put, List.setIfInBounds_toArray, List.set_cons_zero, List.set_cons_succ]
          refine wtk 9 hHeld ?_
          refine wpAnyH_done (by kernel_rfl) ?_ _
          refine NoPanic.normal ?_
          clear hHeld
          go_wp2_with fail
          go_meet
          exact ⟨_, ⟨lb, bk, um, bm, sm, nm⟩, rfl, rfl, hMq, hb, hN⟩
        case re_1_90_5 =>
          go_simp
          have hsm : MapM (v50.alloc (.map #[] 0)) v50.heap.size 0 (fun _ _ => none) := MapM.made v50
          have bz : Below v50.heap.size v50 (v50.alloc (.map #[] 0)) := (Below.refl v50.heap.size v50).alloc (Nat.le_refl _) (.map #[] 0)
          have ne_sm_nm : v50.heap.size ≠ nm := fun e => by have := hnm.lt; omega
          have ne_sm_um : v50.heap.size ≠ um := fun e => by have := hbk.map.lt; omega
          replace hnm := hnm.below bz
          replace hbk := hbk.below bz
          have hsmb : W.heap.size ≤ v50.heap.size := hb.size
          have hbq := below_step hb bz
          clear hb bz
          have hb := hbq
          clear hbq
          generalize (v50.alloc (.map #[] 0)) = v53 at *
          generalize v50.heap.size = sm at hsm hsmb ne_sm_nm ne_sm_um ⊢
          refine hK.out _ _ (by exact ⟨(hS4.out _ hb).1, (hS4.out _ hb).2.1, (hS4.out _ hb).2.2.1, (hS4.out _ hb).2.2.2.1, (hS4.out _ hb).2.2.2.2.1, (hS4.out _ hb).2.2.2.2.2.1, (hS4.out _ hb).2.2.2.2.2.2, (hC6.out _ hb).1, (hC6.out _ hb).2⟩) (fun hHeld => ?_)
          clear hK K
          try simp only [Act.put, List.setIfInBounds_toArray, List.set_cons_zero, List.set_cons_succ]
          refine wpAnyH_ready (rs := [4]) (by kernel_rfl) (by simp) (AllReadyH.cons (o := ?oq_1_95_4) ?op_1_95_4 (fun K hK => ?re_1_95_4) AllReadyH.nil)
          case op_1_95_4 => (simp only [List.getElem?_toArray, List.getElem?_cons_succ, List.getElem?_cons_zero]; rfl)
          go_simp
          have hbm : MapM (v53.alloc (.map #[] 0)) v53.heap.size 0 (fun _ _ => none) := MapM.made v53
          have bz : Below v53.heap.size v53 (v53.alloc (.map #[] 0)) := (Below.refl v53.heap.size v53).alloc (Nat.le_refl _) (.map #[] 0)
          have ne_bm_nm : v53.heap.size ≠ nm := fun e => by have := hnm.lt; omega
          have ne_bm_um : v53.heap.size ≠ um := fun e => by have := hbk.map.lt; omega
          have ne_bm_sm : v53.heap.size ≠ sm := fun e => by have := hsm.lt; omega
          replace hnm := hnm.below bz
          replace hbk := hbk.below bz
          replace hsm := hsm.below bz
          have hbmb : W.heap.size ≤ v53.heap.size := hb.size
          have hbq := below_step hb bz
          clear hb bz
          have hb := hbq
          clear hbq
          generalize (v53.alloc (.map #[] 0)) = v54 at *
          generalize v53.heap.size = bm at hbm hbmb ne_bm_nm ne_bm_um ne_bm_sm ⊢
          refine hK.out _ _ (by exact ⟨(hS4.out _ hb).1, (hS4.out _ hb).2.1, (hS4.out _ hb).2.2.1, (hS4.out _ hb).2.2.2.1, (hS4.out _ hb).2.2.2.2.1, (hS4.out _ hb).2.2.2.2.2.1, (hS4.out _ hb).2.2.2.2.2.2, (hC6.out _ hb).1, (hC6.out _ hb).2⟩) (fun hHeld => ?_)
          clear hK K
          try simp only [Act.put, List.setIfInBounds_toArray, List.set_cons_zero, List.set_cons_succ]
          refine wtk 7 hHeld ?_
          refine wpAnyH_ready (rs := [8]) (by kernel_rfl) (by simp) (AllReadyH.cons (o := ?oq_1_97_8) ?op_1_97_8 (fun K hK => ?re_1_97_8) AllReadyH.nil)
          case op_1_97_8 => (simp only [List.getElem?_toArray, List.getElem?_cons_succ, List.getElem?_cons_zero]; rfl)
          go_simp
          have hXB : BlkAt (v54.alloc (.cells (mcells ⟨lb, bk, um, bm, sm, nm⟩ (.slice A c.chain.length cap) { s := s, cf := c, til := fun _ _ => 0, held := 0, beats := fun _ _ => none, lives := List.replicate 8 0, sat := fun _ _ => false, since := fun _ _ => none }).toArray 87)) v54.heap.size 87 (mcells ⟨lb, bk, um, bm, sm, nm⟩ (.slice A c.chain.length cap) { s := s, cf := c, til := fun _ _ => 0, held := 0, beats := fun _ _ => none, lives := List.replicate 8 0, sat := fun _ _ => false, since := fun _ _ => none }) := BlkAt.new v54 87 _
          have bz := (Below.refl v54.heap.size v54).alloc (Nat.le_refl _) (.cells (mcells ⟨lb, bk, um, bm, sm, nm⟩ (.slice A c.chain.length cap) { s := s, cf := c, til := fun _ _ => 0, held := 0, beats := fun _ _ => none, lives := List.replicate 8 0, sat := fun _ _ => false, since := fun _ _ => none }).toArray 87)
          have hq := below_step hb bz
          have hMq : MAt B (v54.alloc (.cells (mcells ⟨lb, bk, um, bm, sm, nm⟩ (.slice A c.chain.length cap) { s := s, cf := c, til := fun _ _ => 0, held := 0, beats := fun _ _ => none, lives := List.replicate 8 0, sat := fun _ _ => false, since := fun _ _ => none }).toArray 87)) v54.heap.size ⟨lb, bk, um, bm, sm, nm⟩ 0 { s := s, cf := c, til := fun _ _ => 0, held := 0, beats := fun _ _ => none, lives := List.replicate 8 0, sat := fun _ _ => false, since := fun _ _ => none } l :=
            ⟨⟨_, hXB, HCH.out.below hq⟩, ⟨HLOG.out.choose, HLOG.out.choose_spec.below hq⟩, hbk.below bz, hbm.below bz, hsm.below bz, hnm.below bz, ⟨(Ne.symm ne_bm_um), (Ne.symm ne_sm_um), ne_um_nm, ne_bm_sm, ne_bm_nm, ne_sm_nm⟩, ⟨HSET.out, HRT.out, rfl, fun u hu => (by rw [List.eq_of_mem_replicate hu]; exact W64.mk (by decide) (by decide)), fun _ _ _ h => (by cases h), fun _ _ _ h => (by cases h)⟩⟩
          have hN : FNew w [lb] (MBlk.list ⟨lb, bk, um, bm, sm, nm⟩ v54.heap.size) := begin_new (Nat.le_trans HWS.out hb.size) (Nat.le_trans HWS.out hbkb) (Nat.le_trans HWS.out humb) (Nat.le_trans HWS.out hbmb) (Nat.le_trans HWS.out hsmb) (Nat.le_trans HWS.out hnmb)
          clear hb hXB hbk hbm hsm hnm bz
          have hb := hq
          clear hq
          refine hK.out _ _ (by exact ⟨(hS4.out _ hb).1, (hS4.out _ hb).2.1, (hS4.out _ hb).2.2.1, (hS4.out _ hb).2.2.2.1, (hS4.out _ hb).2.2.2.2.1, (hS4.out _ hb).2.2.2.2.2.1, (hS4.out _ hb).2.2.2.2.2.2, (hC6.out _ hb).1, (hC6.out _ hb).2⟩) (fun hHeld => ?_)
          clear hK K
          try simp only [Act.put, List.setIfInBounds_toArray, List.set_cons_zero, List.set_cons_succ]
          refine wtk 9 hHeld ?_
          refine wpAnyH_done (by kernel_rfl) ?_ _
          refine NoPanic.normal ?_
          clear hHeld
          go_wp2_with fail
          go_meet
          exact ⟨_, ⟨lb, bk, um, bm, sm, nm⟩, rfl, rfl, hMq, hb, hN⟩
      case re_1_89_4 =>
        go_simp
        have hbm : MapM (v49.alloc (.map #[] 0)) v49.heap.size 0 (fun _ _ => none) := MapM.made v49
        have bz : Below v49.heap.size v49 (v49.alloc (.map #[] 0)) := (Below.refl v49.heap.size v49).alloc (Nat.le_refl _) (.map #[] 0)
        have ne_bm_nm : v49.heap.size ≠ nm := fun e => by have := hnm.lt; omega
        replace hnm := hnm.below bz
        have hbmb : W.heap.size ≤ v49.heap.size := hb.size
        have hbq := below_step hb bz
        clear hb bz
        have hb := hbq
        clear hbq
        generalize (v49.alloc (.map #[] 0)) = v55 at *
        generalize v49.heap.size = bm at hbm hbmb ne_bm_nm ⊢
        refine hK.out _ _ (by exact ⟨(hS4.out _ hb).1, (hS4.out _ hb).2.1, (hS4.out _ hb).2.2.1, (hS4.out _ hb).2.2.2.1, (hS4.out _ hb).2.2.2.2.1, (hS4.out _ hb).2.2.2.2.2.1, (hS4.out _ hb).2.2.2.2.2.2, (hC6.out _ hb).1, (hC6.out _ hb).2⟩) (fun hHeld => ?_)
        clear hK K
        try simp only [Act.put, List.setIfInBounds_toArray, List.set_cons_zero, List.set_cons_succ]
        refine wpAnyH_ready (rs := [3, 5]) (by kernel_rfl) (by simp) (AllReadyH.cons (o := ?oq_1_99_3) ?op_1_99_3 (fun K hK => ?re_1_99_3) (AllReadyH.cons (o := ?oq_1_99_5) ?op_1_99_5 (fun K hK => ?re_1_99_5) AllReadyH.nil))
        case op_1_99_3 => (simp only [List.getElem?_toArray, List.getElem?_cons_succ, List.getElem?_cons_zero]; rfl)
        case op_1_99_5 => (simp only [List.getElem?_toArray, List.getElem?_cons_succ, List.getElem?_cons_zero]; rfl)
        case re_1_99_3 =>
          go_simp
          go_at_call 80
          refine (lnew_any _).mono ?_
          rintro en v56 ⟨bk, um, rfl, hbk, hbkn, humn, bz⟩
          have ne_um_nm : um ≠ nm := fun e => by have := hnm.lt; omega
          have ne_um_bm : um ≠ bm := fun e => by have := hbm.lt; omega
          replace hnm := hnm.below bz
          replace hbm := hbm.below bz
          have hbkb : W.heap.size ≤ bk := Nat.le_trans hb.size hbkn
          have humb : W.heap.size ≤ um := Nat.le_trans hb.size humn
          have hbq := below_step hb bz
          clear hb bz hbkn humn
          have hb := hbq
          clear hbq
          refine hK.out _ _ (by exact ⟨(hS4.out _ hb).1, (hS4.out _ hb).2.1, (hS4.out _ hb).2.2.1, (hS4.out _ hb).2.2.2.1, (hS4.out _ hb).2.2.2.2.1, (hS4.out _ hb).2.2.2.2.2.1, (hS4.out _ hb).2.2.2.2.2.2, (hC6.out _ hb).1, (hC6.out _ hb).2⟩) (fun hHeld => ?_)
          clear hK K
          try simp only [Act.put, List.setIfInBounds_toArray, List.set_cons_zero, List.set_cons_succ]
          refine wpAnyH_ready (rs := [5]) (by kernel_rfl) (by simp) (AllReadyH.cons (o := ?oq_1_100_5) ?op_1_100_5 (fun K hK => ?re_1_100_5) AllReadyH.nil)
          case op_1_100_5 => (simp only [List.getElem?_toArray, List.getElem?_cons_succ, List.getElem?_cons_zero]; rfl)
          go_simp
          have hsm : MapM (v56.alloc (.map #[] 0)) v56.heap.size 0 (fun _ _ => none) := MapM.made v56
          have bz : Below v56.heap.size v56 (v56.alloc (.map #[] 0)) := (Below.refl v56.heap.size v56).alloc (Nat.le_refl _) (.map #[] 0)
          have ne_sm_nm : v56.heap.size ≠ nm := fun e => by have := hnm.lt; omega
          have ne_sm_bm : v56.heap.size ≠ bm := fun e => by have := hbm.lt; omega
          have ne_sm_um : v56.heap.size ≠ um := fun e => by have := hbk.map.lt; omega
          replace hnm := hnm.below bz
          replace hbm := hbm.below bz
          replace hbk := hbk.below bz
          have hsmb : W.heap.size ≤ v56.heap.size := hb.size
          have hbq := below_step hb bz
          clear hb bz
          have hb := hbq
          clear hbq
          generalize (v56.alloc (.map #[] 0)) = v57 at *
          generalize v56.heap.size = sm at hsm hsmb ne_sm_nm ne_sm_bm ne_sm_um ⊢
          refine hK.out _ _ (by exact ⟨(hS4.out _ hb).1, (hS4.out _ hb).2.1, (hS4.out _ hb).2.2.1, (hS4.out _ hb).2.2.2.1, (hS4.out _ hb).2.2.2.2.1, (hS4.out _ hb).2.2.2.2.2.1, (hS4.out _ hb).2.2.2.2.2.2, (hC6.out _ hb).1, (hC6.out _ hb).2⟩) (fun hHeld => ?_)
          clear hK K
          try simp only [Act.put, List.setIfInBounds_toArray, List.set_cons_zero, List.set_cons_succ]
          refine wtk 7 hHeld ?_
          refine wpAnyH_ready (rs := [8]) (by kernel_rfl) (by simp) (AllReadyH.cons (o := ?oq_1_102_8) ?op_1_102_8 (fun K hK => ?re_1_102_8) AllReadyH.nil)
          case op_1_102_8 => (simp only [List.getElem?_toArray, List.getElem?_cons_succ, List.getElem?_cons_zero]; rfl)
          go_simp
          have hXB : BlkAt (v57.alloc (.cells (mcells ⟨lb, bk, um, bm, sm, nm⟩ (.slice A c.chain.length cap) { s := s, cf := c, til := fun _ _ => 0, held := 0, beats := fun _ _ => none, lives := List.replicate 8 0, sat := fun _ _ => false, since := fun _ _ => none }).toArray 87)) v57.heap.size 87 (mcells ⟨lb, bk, um, bm, sm, nm⟩ (.slice A c.chain.length cap) { s := s, cf := c, til := fun _ _ => 0, held := 0, beats := fun _ _ => none, lives := List.replicate 8 0, sat := fun _ _ => false, since := fun _ _ => none }) := BlkAt.new v57 87 _
          have bz := (Below.refl v57.heap.size v57).alloc (Nat.le_refl _) (.cells (mcells ⟨lb, bk, um, bm, sm, nm⟩ (.slice A c.chain.length cap) { s := s, cf := c, til := fun _ _ => 0, held := 0, beats := fun _ _ => none, lives := List.replicate 8 0, sat := fun _ _ => false, since := fun _ _ => none }).toArray 87)
          have hq := below_step hb bz
          have hMq : MAt B (v57.alloc (.cells (mcells ⟨lb, bk, um, bm, sm, nm⟩ (.slice A c.chain.length cap) { s := s, cf := c, til := fun _ _ => 0, held := 0, beats := fun _ _ => none, lives := List.replicate 8 0, sat := fun _ _ => false, since := fun _ _ => none }).toArray 87)) v57.heap.size ⟨lb, bk, um, bm, sm, nm⟩ 0 { s := s, cf := c, til := fun _ _ => 0, held := 0, beats := fun _ _ => none, lives := List.replicate 8 0, sat := fun _ _ => false, since := fun _ _ => none } l :=
            ⟨⟨_, hXB, HCH.out.below hq⟩, ⟨HLOG.out.choose, HLOG.out.choose_spec.below hq⟩, hbk.below bz, hbm.below bz, hsm.below bz, hnm.below bz, ⟨ne_um_bm, (Ne.symm ne_sm_um), ne_um_nm, (Ne.symm ne_sm_bm), ne_bm_nm, ne_sm_nm⟩, ⟨HSET.out, HRT.out, rfl, fun u hu => (by rw [List.eq_of_mem_replicate hu]; exact W64.mk (by decide) (by decide)), fun _ _ _ h => (by cases h), fun _ _ _ h => (by cases h)⟩⟩
          have hN : FNew w [lb] (MBlk.list ⟨lb, bk, um, bm, sm, nm⟩ v57.heap.size) := begin_new (Nat.le_trans HWS.out hb.size) (Nat.le_trans HWS.out hbkb) (Nat.le_trans HWS.out humb) (Nat.le_trans HWS.out hbmb) (Nat.le_trans HWS.out hsmb) (Nat.le_trans HWS.out hnmb)
          clear hb hXB hbk hbm hsm hnm bz
          have hb := hq
          clear hq
          refine hK.out _ _ (by exact ⟨(hS4.out _ hb).1, (hS4.out _ hb).2.1, (hS4.out _ hb).2.2.1, (hS4.out _ hb).2.2.2.1, (hS4.out _ hb).2.2.2.2.1, (hS4.out _ hb).2.2.2.2.2.1, (hS4.out _ hb).2.2.2.2.2.2, (hC6.out _ hb).1, (hC6.out _ hb).2⟩) (fun hHeld => ?_)
          clear hK K
          try simp only [Act.put, List.setIfInBounds_toArray, List.set_cons_zero, List.set_cons_succ]
          refine wtk 9 hHeld ?_
          refine wpAnyH_done (by kernel_rfl) ?_ _
          refine NoPanic.normal ?_
          clear hHeld
          go_wp2_with fail
          go_meet
          exact ⟨_, ⟨lb, bk, um, bm, sm, nm⟩, rfl, rfl, hMq, hb, hN⟩
        case re_1_99_5 =>
          go_simp
          have hsm : MapM (v55.alloc (.map #[] 0)) v55.heap.size 0 (fun _ _ => none) := MapM.made v55
          have bz : Below v55.heap.size v55 (v55.alloc (.map #[] 0)) := (Below.refl v55.heap.size v55).alloc (Nat.le_refl _) (.map #[] 0)
          have ne_sm_nm : v55.heap.size ≠ nm := fun e => by have := hnm.lt; omega
          have ne_sm_bm : v55.heap.size ≠ bm := fun e => by have := hbm.lt; omega
          replace hnm := hnm.below bz
          replace hbm := hbm.below bz
          have hsmb : W.heap.size ≤ v55.heap.size := hb.size
          have hbq := below_step hb bz
          clear hb bz
          have hb := hbq
          clear hbq
          generalize (v55.alloc (.map #[] 0)) = v58 at *
          generalize v55.heap.size = sm at hsm hsmb ne_sm_nm ne_sm_bm ⊢
          refine hK.out _ _ (by exact ⟨(hS4.out _ hb).1, (hS4.out _ hb).2.1, (hS4.out _ hb).2.2.1, (hS4.out _ hb).2.2.2.1, (hS4.out _ hb).2.2.2.2.1, (hS4.out _ hb).2.2.2.2.2.1, (hS4.out _ hb).2.2.2.2.2.2, (hC6.out _ hb).1, (hC6.out _ hb).2⟩) (fun hHeld => ?_)
          clear hK K
          try simp only [Act.put, List.setIfInBounds_toArray, List.set_cons_zero, List.set_cons_succ]
          refine wpAnyH_ready (rs := [3]) (by kernel_rfl) (by simp) (AllReadyH.cons (o := ?oq_1_104_3) ?op_1_104_3 (fun K hK => ?re_1_104_3) AllReadyH.nil)
          case op_1_104_3 => (simp only [List.getElem?_toArray, List.getElem?_cons_succ, List.getElem?_cons_zero]; rfl)
          go_simp
          go_at_call 80
          refine (lnew_any _).mono ?_
          rintro en v59 ⟨bk, um, rfl, hbk, hbkn, humn, bz⟩
          have ne_um_nm : um ≠ nm := fun e => by have := hnm.lt; omega
          have ne_um_bm : um ≠ bm := fun e => by have := hbm.lt; omega
          have ne_um_sm : um ≠ sm := fun e => by have := hsm.lt; omega
          replace hnm := hnm.below bz
          replace hbm := hbm.below bz
          replace hsm := hsm.below bz
          have hbkb : W.heap.size ≤ bk := Nat.le_trans hb.size hbkn
          have humb : W.heap.size ≤ um := Nat.le_trans hb.size humn
          have hbq := below_step hb bz
          clear hb bz hbkn humn
          have hb := hbq
          clear hbq
          refine hK.out _ _ (by exact ⟨(hS4.out _ hb).1, (hS4.out _ hb).2.1, (hS4.out _ hb).2.2.1, (hS4.out _ hb).2.2.2.1, (hS4.out _ hb).2.2.2.2.1, (hS4.out _ hb).2.2.2.2.2.1, (hS4.out _ hb).2.2.2.2.2.2, (hC6.out _ hb).1, (hC6.out _ hb).2⟩) (fun hHeld => ?_)
          clear hK K
          try simp only [Act.put, List.setIfInBounds_toArray, List.set_cons_zero, List.set_cons_succ]
          refine wtk 7 hHeld ?_
          refine wpAnyH_ready (rs := [8]) (by kernel_rfl) (by simp) (AllReadyH.cons (o := ?oq_1_106_8) ?op_1_106_8 (fun K hK => ?re_1_106_8) AllReadyH.nil)
          case op_1_106_8 => (simp only [List.getElem?_toArray, List.getElem?_cons_succ, List.getElem?_cons_zero]; rfl)
          go_simp
          have hXB : BlkAt (v59.alloc (.cells (mcells ⟨lb, bk, um, bm, sm, nm⟩ (.slice A c.chain.length cap) { s := s, cf := c, til := fun _ _ => 0, held := 0, beats := fun _ _ => none, lives := List.replicate 8 0, sat := fun _ _ => false, since := fun _ _ => none }).toArray 87)) v59.heap.size 87 (mcells ⟨lb, bk, um, bm, sm, nm⟩ (.slice A c.chain.length cap) { s := s, cf := c, til := fun _ _ => 0, held := 0, beats := fun _ _ => none, lives := List.replicate 8 0, sat := fun _ _ => false, since := fun _ _ => none }) := BlkAt.new v59 87 _
          have bz := (Below.refl v59.heap.size v59).alloc (Nat.le_refl _) (.cells (mcells ⟨lb, bk, um, bm, sm, nm⟩ (.slice A c.chain.length cap) { s := s, cf := c, til := fun _ _ => 0, held := 0, beats := fun _ _ => none, lives := List.replicate 8 0, sat := fun _ _ => false, since := fun _ _ => none }).toArray 87)
          have hq := below_step hb bz
          have hMq : MAt B (v59.alloc (.cells (mcells ⟨lb, bk, um, bm, sm, nm⟩ (.slice A c.chain.length cap) { s := s, cf := c, til := fun _ _ => 0, held := 0, beats := fun _ _ => none, lives := List.replicate 8 0, sat := fun _ _ => false, since := fun _ _ => none }).toArray 87)) v59.heap.size ⟨lb, bk, um, bm, sm, nm⟩ 0 { s := s, cf := c, til := fun _ _ => 0, held := 0, beats := fun _ _ => none, lives := List.replicate 8 0, sat := fun _ _ => false, since := fun _ _ => none } l :=
            ⟨⟨_, hXB, HCH.out.below hq⟩, ⟨HLOG.out.choose, HLOG.out.choose_spec.below hq⟩, hbk.below bz, hbm.below bz, hsm.below bz, hnm.below bz, ⟨ne_um_bm, ne_um_sm, ne_um_nm, (Ne.symm ne_sm_bm), ne_bm_nm, ne_sm_nm⟩, ⟨HSET.out, HRT.out, rfl, fun u hu => (by rw [List.eq_of_mem_replicate hu]; exact W64.mk (by decide) (by decide)), fun _ _ _ h => (by cases h), fun _ _ _ h => (by cases h)⟩⟩
          have hN : FNew w [lb] (MBlk.list ⟨lb, bk, um, bm, sm, nm⟩ v59.heap.size) := begin_new (Nat.le_trans HWS.out hb.size) (Nat.le_trans HWS.out hbkb) (Nat.le_trans HWS.out humb) (Nat.le_trans HWS.out hbmb) (Nat.le_trans HWS.out hsmb) (Nat.le_trans HWS.out hnmb)
          clear hb hXB hbk hbm hsm hnm bz
          have hb := hq
          clear hq
          refine hK.out _ _ (by exact ⟨(hS4.out _ hb).1, (hS4.out _ hb).2.1, (hS4.out _ hb).2.2.1, (hS4.out _ hb).2.2.2.1, (hS4.out _ hb).2.2.2.2.1, (hS4.out _ hb).2.2.2.2.2.1, (hS4.out _ hb).2.2.2.2.2.2, (hC6.out _ hb).1, (hC6.out _ hb).2⟩) (fun hHeld => ?_)
          clear hK K
          try simp only [Act.put, List.setIfInBounds_toArray, List.set_cons_zero, List.set_cons_succ]
          refine wtk 9 hHeld ?_
          refine wpAnyH_done (by kernel_rfl) ?_ _
          refine NoPanic.normal ?_
          clear hHeld
          go_wp2_with fail
          go_meet
          exact ⟨_, ⟨lb, bk, um, bm, sm, nm⟩, rfl, rfl, hMq, hb, hN⟩
      case re_1_89_5 =>
        go_simp
        have hsm : MapM (v49.alloc (.map #[] 0)) v49.heap.size 0 (fun _ _ => none) := MapM.made v49
        have bz : Below v49.heap.size v49 (v49.alloc (.map #[] 0)) := (Below.refl v49.heap.size v49).alloc (Nat.le_refl _) (.map #[] 0)
        have ne_sm_nm : v49.heap.size ≠ nm := fun e => by have := hnm.lt; omega
        replace hnm := hnm.below bz
        have hsmb : W.heap.size ≤ v49.heap.size := hb.size
        have hbq := below_step hb bz
        clear hb bz
        have hb := hbq
        clear hbq
        generalize (v49.alloc (.map #[] 0)) = v60 at *
        generalize v49.heap.size = sm at hsm hsmb ne_sm_nm ⊢
        refine hK.out _ _ (by exact ⟨(hS4.out _ hb).1, (hS4.out _ hb).2.1, (hS4.out _ hb).2.2.1, (hS4.out _ hb).2.2.2.1, (hS4.out _ hb).2.2.2.2.1, (hS4.out _ hb).2.2.2.2.2.1, (hS4.out _ hb).2.2.2.2.2.2, (hC6.out _ hb).1, (hC6.out _ hb).2⟩) (fun hHeld => ?_)
        clear hK K
        try simp only [Act.put, List.setIfInBounds_toArray, List.set_cons_zero, List.set_cons_succ]
        refine wpAnyH_ready (rs := [3, 4]) (by kernel_rfl) (by simp) (AllReadyH.cons (o := ?oq_1_108_3) ?op_1_108_3 (fun K hK => ?re_1_108_3) (AllReadyH.cons (o := ?oq_1_108_4) ?op_1_108_4 (fun K hK => ?re_1_108_4) AllReadyH.nil))
        case op_1_108_3 => (simp only [List.getElem?_toArray, List.getElem?_cons_succ, List.getElem?_cons_zero]; rfl)
        case op_1_108_4 => (simp only [List.getElem?_toArray, List.getElem?_cons_succ, List.getElem?_cons_zero]; rfl)
        case re_1_108_3 =>
          go_simp
          go_at_call 80
          refine (lnew_any _).mono ?_
          rintro en v61 ⟨bk, um, rfl, hbk, hbkn, humn, bz⟩
          have ne_um_nm : um ≠ nm := fun e => by have := hnm.lt; omega
          have ne_um_sm : um ≠ sm := fun e => by have := hsm.lt; omega
          replace hnm := hnm.below bz
          replace hsm := hsm.below bz
          have hbkb : W.heap.size ≤ bk := Nat.le_trans hb.size hbkn
          have humb : W.heap.size ≤ um := Nat.le_trans hb.size humn
          have hbq := below_step hb bz
          clear hb bz hbkn humn
          have hb := hbq
          clear hbq
          refine hK.out _ _ (by exact ⟨(hS4.out _ hb).1, (hS4.out _ hb).2.1, (hS4.out _ hb).2.2.1, (hS4.out _ hb).2.2.2.1, (hS4.out _ hb).2.2.2.2.1, (hS4.out _ hb).2.2.2.2.2.1, (hS4.out _ hb).2.2.2.2.2.2, (hC6.out _ hb).1, (hC6.out _ hb).2⟩) (fun hHeld => ?_)
          clear hK K
          try simp only [Act.put, List.setIfInBounds_toArray, List.set_cons_zero, List.set_cons_succ]
          refine wpAnyH_ready (rs := [4]) (by kernel_rfl) (by simp) (AllReadyH.cons (o := ?oq_1_109_4) ?op_1_109_4 (fun K hK => ?re_1_109_4) AllReadyH.nil)
          case op_1_109_4 => (simp only [List.getElem?_toArray, List.getElem?_cons_succ, List.getElem?_cons_zero]; rfl)
          go_simp
          have hbm : MapM (v61.alloc (.map #[] 0)) v61.heap.size 0 (fun _ _ => none) := MapM.made v61
          have bz : Below v61.heap.size v61 (v61.alloc (.map #[] 0)) := (Below.refl v61.heap.size v61).alloc (Nat.le_refl _) (.map #[] 0)
          have ne_bm_nm : v61.heap.size ≠ nm := fun e => by have := hnm.lt; omega
          have ne_bm_sm : v61.heap.size ≠ sm := fun e => by have := hsm.lt; omega
          have ne_bm_um : v61.heap.size ≠ um := fun e => by have := hbk.map.lt; omega
          replace hnm := hnm.below bz
          replace hsm := hsm.below bz
          replace hbk := hbk.below bz
          have hbmb : W.heap.size ≤ v61.heap.size := hb.size
          have hbq := below_step hb bz
          clear hb bz
          have hb := hbq
          clear hbq
          generalize (v61.alloc (.map #[] 0)) = v62 at *
          generalize v61.heap.size = bm at hbm hbmb ne_bm_nm ne_bm_sm ne_bm_um ⊢
          refine hK.out _ _ (by exact ⟨(hS4.out _ hb).1, (hS4.out _ hb).2.1, (hS4.out _ hb).2.2.1, (hS4.out _ hb).2.2.2.1, (hS4.out _ hb).2.2.2.2.1, (hS4.out _ hb).2.2.2.2.2.1, (hS4.out _ hb).2.2.2.2.2.2, (hC6.out _ hb).1, (hC6.out _ hb).2⟩) (fun hHeld => ?_)
          clear hK K
          try simp only [Act.put, List.setIfInBounds_toArray, List.set_cons_zero, List.set_cons_succ]
          refine wtk 7 hHeld ?_
          refine wpAnyH_ready (rs := [8]) (by kernel_rfl) (by simp) (AllReadyH.cons (o := ?oq_1_111_8) ?op_1_111_8 (fun K hK => ?re_1_111_8) AllReadyH.nil)
          case op_1_111_8 => (simp only [List.getElem?_toArray, List.getElem?_cons_succ, List.getElem?_cons_zero]; rfl)
          go_simp
          have hXB : BlkAt (v62.alloc (.cells (mcells ⟨lb, bk, um, bm, sm, nm⟩ (.slice A c.chain.length cap) { s := s, cf := c, til := fun _ _ => 0, held := 0, beats := fun _ _ => none, lives := List.replicate 8 0, sat := fun _ _ => false, since := fun _ _ => none }).toArray 87)) v62.heap.size 87 (mcells ⟨lb, bk, um, bm, sm, nm⟩ (.slice A c.chain.length cap) { s := s, cf := c, til := fun _ _ => 0, held := 0, beats := fun _ _ => none, lives := List.replicate 8 0, sat := fun _ _ => false, since := fun _ _ => none }) := BlkAt.new v62 87 _
          have bz := (Below.refl v62.heap.size v62).alloc (Nat.le_refl _) (.cells (mcells ⟨lb, bk, um, bm, sm, nm⟩ (.slice A c.chain.length cap) { s := s, cf := c, til := fun _ _ => 0, held := 0, beats := fun _ _ => none, lives := List.replicate 8 0, sat := fun _ _ => false, since := fun _ _ => none }).toArray 87)
          have hq := below_step hb bz
          have hMq : MAt B (v62.alloc (.cells (mcells ⟨lb, bk, um, bm, sm, nm⟩ (.slice A c.chain.length cap) { s := s, cf := c, til := fun _ _ => 0, held := 0, beats := fun _ _ => none, lives := List.replicate 8 0, sat := fun _ _ => false, since := fun _ _ => none }).toArray 87)) v62.heap.size ⟨lb, bk, um, bm, sm, nm⟩ 0 { s := s, cf := c, til := fun _ _ => 0, held := 0, beats := fun _ _ => none, lives := List.replicate 8 0, sat := fun _ _ => false, since := fun _ _ => none } l :=
            ⟨⟨_, hXB, HCH.out.below hq⟩, ⟨HLOG.out.choose, HLOG.out.choose_spec.below hq⟩, hbk.below bz, hbm.below bz, hsm.below bz, hnm.below bz, ⟨(Ne.symm ne_bm_um), ne_um_sm, ne_um_nm, ne_bm_sm, ne_bm_nm, ne_sm_nm⟩, ⟨HSET.out, HRT.out, rfl, fun u hu => (by rw [List.eq_of_mem_replicate hu]; exact W64.mk (by decide) (by decide)), fun _ _ _ h => (by cases h), fun _ _ _ h => (by cases h)⟩⟩
          have hN : FNew w [lb] (MBlk.list ⟨lb, bk, um, bm, sm, nm⟩ v62.heap.size) := begin_new (Nat.le_trans HWS.out hb.size) (Nat.le_trans HWS.out hbkb) (Nat.le_trans HWS.out humb) (Nat.le_trans HWS.out hbmb) (Nat.le_trans HWS.out hsmb) (Nat.le_trans HWS.out hnmb)
          clear hb hXB hbk hbm hsm hnm bz
          have hb := hq
          clear hq
          refine hK.out _ _ (by exact ⟨(hS4.out _ hb).1, (hS4.out _ hb).2.1, (hS4.out _ hb).2.2.1, (hS4.out _ hb).2.2.2.1, (hS4.out _ hb).2.2.2.2.1, (hS4.out _ hb).2.2.2.2.2.1, (hS4.out _ hb).2.2.2.2.2.2, (hC6.out _ hb).1, (hC6.out _ hb).2⟩) (fun hHeld => ?_)
          clear hK K
          try simp only [Act.put, List.setIfInBounds_toArray, List.set_cons_zero, List.set_cons_succ]
          refine wtk 9 hHeld ?_
          refine wpAnyH_done (by kernel_rfl) ?_ _
          refine NoPanic.normal ?_
          clear hHeld
          go_wp2_with fail
          go_meet
          exact ⟨_, ⟨lb, bk, um, bm, sm, nm⟩, rfl, rfl, hMq, hb, hN⟩
        case re_1_108_4 =>
          go_simp
          have hbm : MapM (v60.alloc (.map #[] 0)) v60.heap.size 0 (fun _ _ => none) := MapM.made v60
          have bz : Below v60.heap.size v60 (v60.alloc (.map #[] 0)) := (Below.refl v60.heap.size v60).alloc (Nat.le_refl _) (.map #[] 0)
          have ne_bm_nm : v60.heap.size ≠ nm := fun e => by have := hnm.lt; omega
          have ne_bm_sm : v60.heap.size ≠ sm := fun e => by have := hsm.lt; omega
          replace hnm := hnm.below bz
          replace hsm := hsm.below bz
          have hbmb : W.heap.size ≤ v60.heap.size := hb.size
          have hbq := below_step hb bz
          clear hb bz
          have hb := hbq
          clear hbq
          generalize (v60.alloc (.map #[] 0)) = v63 at *
          generalize v60.heap.size = bm at hbm hbmb ne_bm_nm ne_bm_sm ⊢
          refine hK.out _ _ (by exact ⟨(hS4.out _ hb).1, (hS4.out _ hb).2.1, (hS4.out _ hb).2.2.1, (hS4.out _ hb).2.2.2.1, (hS4.out _ hb).2.2.2.2.1, (hS4.out _ hb).2.2.2.2.2.1, (hS4.out _ hb).2.2.2.2.2.2, (hC6.out _ hb).1, (hC6.out _ hb).2⟩) (fun hHeld => ?_)
          clear hK K
          try simp only [Act.put, List.setIfInBounds_toArray, List.set_cons_zero, List.set_cons_succ]
          refine wpAnyH_ready (rs := [3]) (by kernel_rfl) (by simp) (AllReadyH.cons (o := ?oq_1_113_3) ?op_1_113_3 (fun K hK => ?re_1_113_3) AllReadyH.nil)
          case op_1_113_3 => (simp only [List.getElem?_toArray, List.getElem?_cons_succ, List.getElem?_cons_zero]; rfl)
          go_simp
          go_at_call 80
          refine (lnew_any _).mono ?_
          rintro en v64 ⟨bk, um, rfl, hbk, hbkn, humn, bz⟩
          have ne_um_nm : um ≠ nm := fun e => by have := hnm.lt; omega
          have ne_um_sm : um ≠ sm := fun e => by have := hsm.lt; omega
          have ne_um_bm : um ≠ bm := fun e => by have := hbm.lt; omega
          replace hnm := hnm.below bz
          replace hsm := hsm.below bz
          replace hbm := hbm.below bz
          have hbkb : W.heap.size ≤ bk := Nat.le_trans hb.size hbkn
          have humb : W.heap.size ≤ um := Nat.le_trans hb.size humn
          have hbq := below_step hb bz
          clear hb bz hbkn humn
          have hb := hbq
          clear hbq
          refine hK.out _ _ (by exact ⟨(hS4.out _ hb).1, (hS4.out _ hb).2.1, (hS4.out _ hb).2.2.1, (hS4.out _ hb).2.2.2.1, (hS4.out _ hb).2.2.2.2.1, (hS4.out _ hb).2.2.2.2.2.1, (hS4.out _ hb).2.2.2.2.2.2, (hC6.out _ hb).1, (hC6.out _ hb).2⟩) (fun hHeld => ?_)
          clear hK K
          try simp only [Act.put, List.setIfInBounds_toArray, List.set_cons_zero, List.set_cons_succ]
          refine wtk 7 hHeld ?_
          refine wpAnyH_ready (rs := [8]) (by kernel_rfl) (by simp) (AllReadyH.cons (o := ?oq_1_115_8) ?op_1_115_8 (fun K hK => ?re_1_115_8) AllReadyH.nil)
          case op_1_115_8 => (simp only [List.getElem?_toArray, List.getElem?_cons_succ, List.getElem?_cons_zero]; rfl)
          go_simp
          have hXB : BlkAt (v64.alloc (.cells (mcells ⟨lb, bk, um, bm, sm, nm⟩ (.slice A c.chain.length cap) { s := s, cf := c, til := fun _ _ => 0, held := 0, beats := fun _ _ => none, lives := List.replicate 8 0, sat := fun _ _ => false, since := fun _ _ => none }).toArray 87)) v64.heap.size 87 (mcells ⟨lb, bk, um, bm, sm, nm⟩ (.slice A c.chain.length cap) { s := s, cf := c, til := fun _ _ => 0, held := 0, beats := fun _ _ => none, lives := List.replicate 8 0, sat := fun _ _ => false, since := fun _ _ => none }) := BlkAt.new v64 87 _
          have bz := (Below.refl v64.heap.size v64).alloc (Nat.le_refl _) (.cells (mcells ⟨lb, bk, um, bm, sm, nm⟩ (.slice A c.chain.length cap) { s := s, cf := c, til := fun _ _ => 0, held := 0, beats := fun _ _ => none, lives := List.replicate 8 0, sat := fun _ _ => false, since := fun _ _ => none }).toArray 87)
          have hq := below_step hb bz
          have hMq : MAt B (v64.alloc (.cells (mcells ⟨lb, bk, um, bm, sm, nm⟩ (.slice A c.chain.length cap) { s := s, cf := c, til := fun _ _ => 0, held := 0, beats := fun _ _ => none, lives := List.replicate 8 0, sat := fun _ _ => false, since := fun _ _ => none }).toArray 87)) v64.heap.size ⟨lb, bk, um, bm, sm, nm⟩ 0 { s := s, cf := c, til := fun _ _ => 0, held := 0, beats := fun _ _ => none, lives := List.replicate 8 0, sat := fun _ _ => false, since := fun _ _ => none } l :=
            ⟨⟨_, hXB, HCH.out.below hq⟩, ⟨HLOG.out.choose, HLOG.out.choose_spec.below hq⟩, hbk.below bz, hbm.below bz, hsm.below bz, hnm.below bz, ⟨ne_um_bm, ne_um_sm, ne_um_nm, ne_bm_sm, ne_bm_nm, ne_sm_nm⟩, ⟨HSET.out, HRT.out, rfl, fun u hu => (by rw [List.eq_of_mem_replicate hu]; exact W64.mk (by decide) (by decide)), fun _ _ _ h => (by cases h), fun _ _ _ h => (by cases h)⟩⟩
          have hN : FNew w [lb] (MBlk.list ⟨lb, bk, um, bm, sm, nm⟩ v64.heap.size) := begin_new (Nat.le_trans HWS.out hb.size) (Nat.le_trans HWS.out hbkb) (Nat.le_trans HWS.out humb) (Nat.le_trans HWS.out hbmb) (Nat.le_trans HWS.out hsmb) (Nat.le_trans HWS.out hnmb)
          clear hb hXB hbk hbm hsm hnm bz
          have hb := hq
          clear hq
          refine hK.out _ _ (by exact ⟨(hS4.out _ hb).1, (hS4.out _ hb).2.1, (hS4.out _ hb).2.2.1, (hS4.out _ hb).2.2.2.1, (hS4.out _ hb).2.2.2.2.1, (hS4.out _ hb).2.2.2.2.2.1, (hS4.out _ hb).2.2.2.2.2.2, (hC6.out _ hb).1, (hC6.out _ hb).2⟩) (fun hHeld => ?_)
          clear hK K
          try simp only [Act.put, List.setIfInBounds_toArray, List.set_cons_zero, List.set_cons_succ]
          refine wtk 9 hHeld ?_
          refine wpAnyH_done (by kernel_rfl) ?_ _
          refine NoPanic.normal ?_
          clear hHeld
          go_wp2_with fail
          go_meet
          exact ⟨_, ⟨lb, bk, um, bm, sm, nm⟩, rfl, rfl, hMq, hb, hN⟩
  case rest =>
    obtain ⟨x, b, rfl, hlb, hM, hb, hFN⟩ := hcut
    have hl8 := right_len HRT.out
    have hrs : Hid (∀ s ∈ c.chain, ∃ n : Nat, n < 8 ∧ s.node = n ∧ 1 ≤ s.life ∧ s.life ≤ 1099511627776) := Lib.hid (fun s hs => right_seat HRT.out hs)
    have HLB := Lib.hid hlb
    have HFN := Lib.hid hFN
    have HCW := Lib.hid (HCH.out.below hb)
    have HCBW := Lib.hid (hCB.out.below hb)
    have c1 : wc.cell? ⟨cb, 1, none⟩ = some (.slice A c.chain.length cap) := HCBW.out.cell rfl
    have HBW := Lib.hid (below_step HB0.out hb)
    have HM0 := Lib.hid hM
    clear hlb hFN hb hmm
    go_wp2_with fail
    clear c1
    go_loopw [24] (fun i wr => ∃ (k : Nat), k ≤ c.chain.length ∧ i = .int .i64 k ∧ MAt B wr x b k { s := s, cf := c, til := fun _ _ => 0, held := 0, beats := beginB now (c.chain.take k), lives := beginL (c.chain.take k), sat := fun _ _ => false, since := fun _ _ => none } l ∧ FK (b.list x) B wc wr) (fun i _ => c.chain.length - (intOf i).toNat)
    case atStart => exact ⟨0, Nat.zero_le _, rfl, hM, FK.refl _ _ _⟩
    case round =>
      obtain ⟨k, hk, rfl, hMr, hF⟩ := hrel
      clear hM
      have hM := hMr
      clear hMr
      by_cases hlt' : k < c.chain.length
      · have hCr := HCW.out.fk HM0.out hF
        obtain ⟨_, _, hqq, hs⟩ := hCr.1
        cases hqq
        obtain ⟨q, off, rfl, hab, hc⟩ := hs.2.2 (by omega)
        obtain ⟨sv, hs'⟩ : ∃ sv, c.chain[k]? = some sv := ⟨_, List.getElem?_eq_getElem hlt'⟩
        obtain ⟨s0, s1, s2⟩ := hc k sv hs'
        obtain ⟨n, hn8, hn, hl1, hl2⟩ := hrs.out sv (List.mem_of_getElem? hs')
        have HSB := Lib.hid (beginB_snoc now hs')
        have HSL := Lib.hid (beginL_snoc hs')
        obtain ⟨x0, y, z⟩ := sv
        simp only at s0 s1 s2 hn hl1 hl2 HSB HSL
        subst hn
        rw [Int.toNat_natCast] at HSL
        clear hc hs' hs hCr
        have hn8' : (n : Int) < 8 := by omega
        generalize beginB now (c.chain.take k) = f at *
        generalize beginL (c.chain.take k) = ll at *
        have hb := Below.refl wr.heap.size wr
        go_upto_region 5 with (fail)
        have hP := BlkAt.new wr 49 [.int .i64 (n : Nat), .int .i64 y, .bool z]
        have hMq := hM.below ((Below.refl _ _).alloc (Nat.le_refl _) (.cells #[.int .i64 (n : Nat), .int .i64 y, .bool z] 49))
        clear hM
        have hM := hMq
        clear hMq
        have hbq := hb.alloc hb.size (.cells #[.int .i64 (n : Nat), .int .i64 y, .bool z] 49)
        clear hb
        have hb := hbq
        clear hbq
        change Code.wp _ _ _ _ (wr.alloc (.cells #[.int .i64 (n : Nat), .int .i64 y, .bool z] 49))
        change BlkAt (wr.alloc (.cells #[.int .i64 (n : Nat), .int .i64 y, .bool z] 49)) _ _ _ at hP
        have hPn := (show wr.heap.size ≤ wr.heap.size from Nat.le_refl _)
        generalize wr.alloc (.cells #[.int .i64 (n : Nat), .int .i64 y, .bool z] 49) = w3 at *
        generalize wr.heap.size = X at hP ⊢
        clear hPn
        clear s0 s1 s2
        have hF3 := hF.same (FK.of_below hb)
        clear hF hb
        have p0 : w3.cell? ⟨X, 0, none⟩ = some (.int .i64 (n : Nat)) := hP.cell rfl
        have p1 : w3.cell? ⟨X, 1, none⟩ = some (.int .i64 y) := hP.cell rfl
        have p2 : w3.cell? ⟨X, 2, none⟩ = some (.bool z) := hP.cell rfl
        have c11 : w3.cell? ⟨x, 11, none⟩ = some (.map (some b.bm)) := hM.low rfl
        refine still_tail 8 (by kernel_rfl) (by kernel_rfl) ?_
        simp only [List.take_succ_cons, List.take_zero, List.drop_succ_cons, List.drop_zero]
        repeat still_step
        refine wpStill_nil ?_
        change wpList _ _ _ _ _ _
        refine wpList_put_mem (by rfl) _ _ _ 84 (by rfl) 102 Tryz.underlying84 (by rfl) (hM.beats.drew) (by unfold maxLen; omega) (n : Nat) y (beatV { beatZero with time := now }) (by rfl) (by rfl) (w64_nat hn8) (w64_life ⟨hl1, hl2⟩) ?_
        intro w5 hm5 hg5
        have hg : w3.grownBy w5 (some b.bm) := ⟨hg5.os, hg5.tape, hg5.output, hg5.size, hg5.block⟩
        have hfk5 : FK (b.list x) B w3 w5 := FK.of_grown hg (MAt.mem (b := b) (x := x) b.bm (by simp))
        have hM5 : MAt B w5 x b (k + 1) { s := s, cf := c, til := fun _ _ => 0, held := 0, beats := updM f (n : Nat) y (some { beatZero with time := now }), lives := ll, sat := fun _ _ => false, since := fun _ _ => none } l := by
          refine MAt.putBm (f := updM f (n : Nat) y (some { beatZero with time := now })) hM (by omega) hg ?_ (fun a c' b' h' => ?_)
          · have := hm5
            rw [beatsV_upd] at this
            exact this
          · by_cases e : a = (n : Nat) ∧ c' = y
            · obtain ⟨rfl, rfl⟩ := e
              rw [updM_same] at h'
              cases h'
              exact ⟨ht, (W64.mk (by decide) (by decide) : W64 0), (W64.mk (by decide) (by decide) : W64 0)⟩
            · rw [updM_other _ _ e] at h'
              exact hM.ok.beats _ _ _ h'
        have hP5 := hP.fk hM hfk5 (by decide) (by decide) (by decide) (by decide)
        have hF5 := hF3.same hfk5
        clear hM hF3 hP hm5 hg5 hg hfk5 p0 p1 p2 c11
        go_upto_region 6 with (fail)
        have p0 : w5.cell? ⟨X, 0, none⟩ = some (.int .i64 (n : Nat)) := hP5.cell rfl
        have p1 : w5.cell? ⟨X, 1, none⟩ = some (.int .i64 y) := hP5.cell rfl
        have p2 : w5.cell? ⟨X, 2, none⟩ = some (.bool z) := hP5.cell rfl
        have cl : w5.cell? ⟨x, 12 + n, none⟩ = some (.int .i64 (MstV.life { s := s, cf := c, til := fun _ _ => 0, held := 0, beats := updM f (n : Nat) y (some { beatZero with time := now }), lives := ll, sat := fun _ _ => false, since := fun _ _ => none } n)) := lives_low hM5 hn8
        have clf : w5.frozen? ⟨x, 12 + n, none⟩ = false := by
          obtain ⟨v, hX, _⟩ := hM5.blk
          exact hX.free _
        refine still_tail 10 (by kernel_rfl) (by kernel_rfl) ?_
        simp only [List.take_succ_cons, List.take_zero, List.drop_succ_cons, List.drop_zero]
        repeat still_step
        refine wpStill_nil ?_
        change wpList _ _ _ _ _ _
        go_upto_region 7 with (fail)
        have g4 := grown_setCell w5 x (12 + n) (.int .i64 y)
        have hM6 : MAt B (w5.setCell ⟨x, 12 + n, none⟩ (.int .i64 y)) x b (k + 1) { s := s, cf := c, til := fun _ _ => 0, held := 0, beats := updM f (n : Nat) y (some { beatZero with time := now }), lives := ll.set n y, sat := fun _ _ => false, since := fun _ _ => none } l := by
          obtain ⟨v, hX, hC⟩ := hM5.blk
          refine MAt.putX (b' := b) (V' := { s := s, cf := c, til := fun _ _ => 0, held := 0, beats := updM f (n : Nat) y (some { beatZero with time := now }), lives := ll.set n y, sat := fun _ _ => false, since := fun _ _ => none }) (v' := v) hM5 g4 ?_ hC rfl rfl rfl rfl rfl hM5.since ⟨Ne.symm hM5.ne.2.2.1, Ne.symm hM5.ne.2.2.2.2.1, Ne.symm hM5.ne.2.2.2.2.2⟩ rfl rfl rfl rfl ⟨hM5.ok.set, hM5.ok.right, by simp only [List.length_set]; exact hM5.ok.len, fun u hu => ?_, hM5.ok.beats, hM5.ok.since⟩
          · have hq := hX.set (12 + n) (.int .i64 y)
            rw [mcells_lives hM5.ok.len hn8] at hq
            exact hq
          · rcases List.mem_or_eq_of_mem_set hu with h | h
            · exact hM5.ok.lives u h
            · rw [h]; exact w64_life ⟨hl1, hl2⟩
        have HM7 : Hid (MAt B (w5.setCell ⟨x, 12 + n, none⟩ (.int .i64 y)).drew x b (k + 1) { s := s, cf := c, til := fun _ _ => 0, held := 0, beats := beginB now (c.chain.take (k + 1)), lives := beginL (c.chain.take (k + 1)), sat := fun _ _ => false, since := fun _ _ => none } l) := Lib.hid (by
          rw [HSB.out, HSL.out]
          exact hM6.drewN 1)
        have HF7 : Hid (FK (b.list x) B wc (w5.setCell ⟨x, 12 + n, none⟩ (.int .i64 y)).drew) := Lib.hid ((hF5.same (FK.of_grown g4 (MAt.mem (b := b) (x := x) x (by simp)))).same (FK.of_below (below_drewN (Below.refl _ _) 1)))
        clear hM5 hM6 hP5 hF5 g4 cl clf p0 p1 p2
        go_wp2_with fail
        go_roundw
        case rel => exact ⟨k + 1, by omega, by go_num, HM7.out, HF7.out⟩
        case measure => simp [intOf]; omega
      · have hke : k = c.chain.length := by omega
        subst hke
        rw [List.take_of_length_le (Nat.le_refl _)] at hM
        have hCB2 := HCBW.out.fk HM0.out hF (by decide) (by decide) (by decide) (by decide)
        have k0 : wr.cell? ⟨cb, 0, none⟩ = some (.int .i64 c.epoch) := hCB2.cell rfl
        have k1 : wr.cell? ⟨cb, 1, none⟩ = some (.slice A c.chain.length cap) := hCB2.cell rfl
        have hCr := HCW.out.fk HM0.out hF
        go_wp2_with fail
        refine (mseat_any (L := c.chain) (by exact hM) (by exact hCr) (w64_seats HRT.out) (by omega)).mono ?_
        rintro en w8 ⟨rfl, hM8, hK8⟩
        have HM := Lib.hid hM8
        have HF : Hid (FK [lb] B w w8) := Lib.hid ((FK.of_below HBW.out).trans HFN.out (hF.same hK8))
        clear hM hCB2 k0 k1 hCr hM8 hK8
        go_wp2_with fail
        go_ret
        exact ⟨x, b, rfl, HLB.out, HM.out.mono (by omega), HF.out, HFN.out⟩
end Go.Proofs.YtomfmejodmfioaaGreat
