/- The desk's fields that are no numbers alone: read. -/
import Derived.Test.YtnaabaahfjklhaaGreatKWMsg
namespace Go.Proofs.YtnaabaahfjklhaaGreat
open Go.RowKit Go.ChangeShapes Go.WideShapes Go.Joins Go.Deep
set_option linter.unusedVariables false

theorem RKeep.refl (w : World) (r m : Nat) : RKeep w w r m := ⟨rfl, rfl, rfl, Nat.le_refl _, fun _ _ _ _ => rfl⟩
theorem RKeep.trans {a b c : World} {r m : Nat} (h : RKeep a b r m) (g : RKeep b c r m) : RKeep a c r m :=
  ⟨g.os.trans h.os, g.tape.trans h.tape, g.output.trans h.output, Nat.le_trans h.size g.size, fun k hk hr hm => (g.block k (Nat.lt_of_lt_of_le hk h.size) hr hm).trans (h.block k hk hr hm)⟩
theorem RKeep.grown {w w' : World} {r m : Nat} (hg : w.grownBy w' (some r)) : RKeep w w' r m := ⟨hg.os, hg.tape, hg.output, hg.size, fun k hk hr _ => hg.block k hk (by simpa using hr)⟩
theorem RKeep.grownM {w w' : World} {r m : Nat} (hg : w.grownBy w' (some m)) : RKeep w w' r m := ⟨hg.os, hg.tape, hg.output, hg.size, fun k hk _ hm => hg.block k hk (by simpa using hm)⟩
theorem RKeep.drew {w w' : World} {r m : Nat} (h : RKeep w w' r m) : RKeep w w'.drew r m := ⟨h.os, h.tape, h.output, h.size, h.block⟩
theorem RKeep.below {w w' : World} {r m : Nat} (h : Below w.heap.size w w') : RKeep w w' r m := ⟨h.os, h.tape, h.output, h.size, fun k hk _ _ => h.block k hk⟩
theorem RKeep.desk {w w' : World} {r m d : Nat} {l : List UInt8} {e : Int} {ds cs : List Value} (h : RKeep w w' r m) (hD : BlkAt w d 118 ds) (hM : BlkAt w m 40 cs) (hR : RdAt w r l e) : BlkAt w' d 118 ds :=
  (h.block d hD.lt (desk_rd hD hR) (desk_msg hD hM)).trans hD

/-- Fires whose block is new. -/
def FiresFrom (n : Nat) (w : World) (v : Value) (L : List FireV) : Prop := FiresAt w v L ∧ ∀ k, v.ownBlock = some k → n ≤ k
theorem ChainFrom.grown {n X : Nat} {w w' : World} {v : Value} {L : List SeatV} (h : ChainFrom n w v L) (hg : w.grownBy w' (some X)) (hX : X < n) : ChainFrom n w' v L := by
  obtain ⟨⟨a, cap, rfl, hs⟩, ho⟩ := h
  refine ⟨⟨a, cap, rfl, hs.1, hs.2.1, fun hp => ?_⟩, ho⟩
  obtain ⟨b, off, rfl, hab, hc⟩ := hs.2.2 hp
  have hb := ho b rfl
  exact ⟨b, off, rfl, Nat.lt_of_lt_of_le hab hg.size, fun i s hi => (hc i s hi).of fun j => World.cell?_of_block (a := ⟨b, j, none⟩) (hg.block b hab (by simp; omega))⟩
theorem FiresFrom.grown {n X : Nat} {w w' : World} {v : Value} {L : List FireV} (h : FiresFrom n w v L) (hg : w.grownBy w' (some X)) (hX : X < n) : FiresFrom n w' v L := by
  obtain ⟨⟨a, cap, rfl, hl, hs⟩, ho⟩ := h
  refine ⟨⟨a, cap, rfl, hl, fun hp => ?_⟩, ho⟩
  obtain ⟨b, off, rfl, hab, hc⟩ := hs hp
  have hb := ho b rfl
  exact ⟨b, off, rfl, Nat.lt_of_lt_of_le hab hg.size, fun i f hi j x hj => (World.cell?_of_block (a := ⟨b, _, none⟩) (hg.block b hab (by simp; omega))).trans (hc i f hi j x hj)⟩
theorem ChainFrom.rkeep {n r m : Nat} {w w' : World} {v : Value} {L : List SeatV} (h : ChainFrom n w v L) (hg : RKeep w w' r m) (hr : r < n) (hm : m < n) : ChainFrom n w' v L := by
  obtain ⟨⟨a, cap, rfl, hs⟩, ho⟩ := h
  refine ⟨⟨a, cap, rfl, hs.1, hs.2.1, fun hp => ?_⟩, ho⟩
  obtain ⟨b, off, rfl, hab, hc⟩ := hs.2.2 hp
  have hb := ho b rfl
  exact ⟨b, off, rfl, Nat.lt_of_lt_of_le hab hg.size, fun i s hi => (hc i s hi).of fun j => World.cell?_of_block (a := ⟨b, j, none⟩) (hg.block b hab (by omega) (by omega))⟩
theorem FiresFrom.rkeep {n r m : Nat} {w w' : World} {v : Value} {L : List FireV} (h : FiresFrom n w v L) (hg : RKeep w w' r m) (hr : r < n) (hm : m < n) : FiresFrom n w' v L := by
  obtain ⟨⟨a, cap, rfl, hl, hs⟩, ho⟩ := h
  refine ⟨⟨a, cap, rfl, hl, fun hp => ?_⟩, ho⟩
  obtain ⟨b, off, rfl, hab, hc⟩ := hs hp
  have hb := ho b rfl
  exact ⟨b, off, rfl, Nat.lt_of_lt_of_le hab hg.size, fun i f hi j x hj => (World.cell?_of_block (a := ⟨b, _, none⟩) (hg.block b hab (by omega) (by omega))).trans (hc i f hi j x hj)⟩

set_option maxRecDepth 100000 in
set_option maxHeartbeats 1000000 in

theorem dflag_r {w : World} {r d m : Nat} {l : List UInt8} {e : Int} {cs : List Value} {f : Bool} (hD : BlkAt w d 118 [.pointer (some ⟨m, 0, none⟩), .pointer none, .pointer (some ⟨r, 0, none⟩)]) (hM : BlkAt w m 40 cs) (h10 : cs[10]? = some (.bool f))
    (hR : RdAt w r l e) (hl : l.length ≤ 1000000) {n : Nat} {l2 : List UInt8} {e2 : Int} (hr : rdB l e = (n, l2, e2)) {q5 : Bool} (hq5 : decide (n = 1) = q5) {e3 : Int} (he3 : (if 1 < n then fst_ e2 3 else e2) = e3) :
    Calls Tryz.prog 77 #[.pointer (some ⟨d, 0, none⟩)] w fun en w' => en = .returned (.tuple #[]) ∧ RdAt w' r l2 e3 ∧ BlkAt w' m 40 (cs.set 10 (.bool q5)) ∧ RKeep w w' r m := by
  have hmr := msg_rd hM hR
  have hdr := desk_rd hD hR
  have hdm := desk_msg hD hM
  have c1 : w.cell? ⟨d, 1, none⟩ = some (.pointer none) := hD.cell rfl
  have c2 : w.cell? ⟨d, 2, none⟩ = some (.pointer (some ⟨r, 0, none⟩)) := hD.cell rfl
  go_enter Tryz.func77, Tryz.ntmps77
  go_wp2_with fail
  refine (rbyte_at (by exact hR) hl hr).mono ?_
  rintro en w1 ⟨rfl, hR1, hg⟩
  have hD1 := hD.grown hg hdr
  have hM1 := hM.grown hg hmr
  have hk1 : RKeep w w1 r m := RKeep.grown hg
  clear c1 c2 hg
  have c0 : w1.cell? ⟨d, 0, none⟩ = some (.pointer (some ⟨m, 0, none⟩)) := hD1.cell rfl
  have m10 : w1.cell? ⟨m, 10, none⟩ = some (.bool f) := hM1.cell h10
  have hf := hM1.free 10
  have hqq : ((n : Int) == 1) = q5 := by rw [← hq5, Bool.eq_iff_iff]; simp; omega
  have HM := Lib.hid (hM1.set 10 (.bool q5))
  have HR := Lib.hid (show RdAt (w1.setCell ⟨m, 10, none⟩ (.bool q5)) r l2 e2 from hR1.grown (grown_setCell w1 m 10 (.bool q5)) hmr.symm)
  have HK := Lib.hid (hk1.trans (RKeep.grownM (grown_setCell w1 m 10 (.bool q5))))
  have HD := Lib.hid (hD1.grown (grown_setCell w1 m 10 (.bool q5)) hdm)
  clear hM1 hR1 hk1 hq5 hD1 hD hM hR
  by_cases hn : 1 < n
  · have hn' : (1 : Int) < (n : Int) := by omega
    rw [if_pos hn] at he3
    subst he3
    go_upto_region 3 with (fail)
    change Code.wp _ _ _ _ (w1.setCell ⟨m, 10, none⟩ (.bool q5))
    generalize w1.setCell ⟨m, 10, none⟩ (.bool q5) = w2 at *
    clear c0 m10 hf
    have c2 : w2.cell? ⟨d, 2, none⟩ = some (.pointer (some ⟨r, 0, none⟩)) := HD.out.cell rfl
    go_wp2_with fail
    refine (fail_any HR.out).mono ?_
    rintro en w3 ⟨rfl, hR3, hg⟩
    have hM3 := HM.out.grown hg hmr
    have hk3 := HK.out.trans (RKeep.grown hg)
    clear c2 hg
    go_wp2_with fail
    refine bodyPost_ret (results_none rfl _ _ _) rfl ?_
    exact ⟨rfl, hR3, hM3, hk3⟩
  · have hn' : ¬ (1 : Int) < (n : Int) := by omega
    rw [if_neg hn] at he3
    subst he3
    go_upto_region 3 with (fail)
    change Code.wp _ _ _ _ (w1.setCell ⟨m, 10, none⟩ (.bool q5))
    generalize w1.setCell ⟨m, 10, none⟩ (.bool q5) = w2 at *
    clear c0 m10 hf
    go_wp2_with fail
    refine bodyPost_ret (results_none rfl _ _ _) rfl ?_
    exact ⟨rfl, HR.out, HM.out, HK.out⟩

set_option maxRecDepth 100000 in
set_option maxHeartbeats 4000000 in

theorem dconf_r {w : World} {r d m : Nat} {l : List UInt8} {e : Int} {cs : List Value} {x : Int} {v0 : Value} (hD : BlkAt w d 118 [.pointer (some ⟨m, 0, none⟩), .pointer none, .pointer (some ⟨r, 0, none⟩)]) (hM : BlkAt w m 40 cs)
    (h24 : cs[24]? = some (.int .i64 x)) (h25 : cs[25]? = some v0)
    (hR : RdAt w r l e) (hl : l.length ≤ 1000000) {c : ConfV} {l2 : List UInt8} {e2 : Int} (hr : takeC l e = (c, l2, e2)) :
    Calls Tryz.prog 79 #[.pointer (some ⟨d, 0, none⟩)] w fun en w' => en = .returned (.tuple #[]) ∧ RdAt w' r l2 e2 ∧ (∃ v, ChainFrom w.heap.size w' v c.chain ∧ BlkAt w' m 40 ((cs.set 24 (.int .i64 c.epoch)).set 25 v)) ∧ RKeep w w' r m := by
  have hmr := msg_rd hM hR
  have hdr := desk_rd hD hR
  have hdm := desk_msg hD hM
  have c0 : w.cell? ⟨d, 0, none⟩ = some (.pointer (some ⟨m, 0, none⟩)) := hD.cell rfl
  have c1 : w.cell? ⟨d, 1, none⟩ = some (.pointer none) := hD.cell rfl
  have c2 : w.cell? ⟨d, 2, none⟩ = some (.pointer (some ⟨r, 0, none⟩)) := hD.cell rfl
  have HRR := Lib.hid hr
  clear hr
  go_enter Tryz.func79, Tryz.ntmps79
  go_wp2_with fail
  go_upto_region 2 with (fail)
  have hRd : RdAt w.drew r l e := hR
  go_region_held3 (fun w' => w'.cell? ⟨d, 0, none⟩ = some (.pointer (some ⟨m, 0, none⟩)) ∧ w'.cell? ⟨d, 2, none⟩ = some (.pointer (some ⟨r, 0, none⟩)))
    (first | exact ⟨c0, c2⟩ | exact ⟨((hD1.grown (grown_setCell _ _ _ _) hdm).grown (grown_setCell _ _ _ _) hdm).cell rfl, ((hD1.grown (grown_setCell _ _ _ _) hdm).grown (grown_setCell _ _ _ _) hdm).cell rfl⟩ | go_keep)
    ((go_at_call 95; refine (ctake_own (by exact hRd) hl HRR.out).mono ?_; rintro en wz ⟨v, rfl, hv, hR1, hg⟩; obtain ⟨av, capv, rfl, hsv⟩ := hv.1; have hD1 : BlkAt wz d 118 _ := (hD.drew).grown hg hdr; have hM1 := hM.drew.grown hg hmr; have c0 : wz.cell? ⟨d, 0, none⟩ = some (.pointer (some ⟨m, 0, none⟩)) := hD1.cell rfl; have c2 : wz.cell? ⟨d, 2, none⟩ = some (.pointer (some ⟨r, 0, none⟩)) := hD1.cell rfl; have m24 : wz.cell? ⟨m, 24, none⟩ = some (.int .i64 x) := hM1.cell h24; have m25 : wz.cell? ⟨m, 25, none⟩ = some v0 := hM1.cell h25; have hf := hM1.free))
  have hml := hM.lt
  have G1 := grown_setCell wz m 24 (.int .i64 c.epoch)
  have G2 := grown_setCell (wz.setCell ⟨m, 24, none⟩ (.int .i64 c.epoch)) m 25 (.slice av c.chain.length capv)
  have HV := Lib.hid ((ChainFrom.grown (n := w.heap.size) (by exact hv) G1 hml).grown G2 hml)
  have HM := Lib.hid ((hM1.set 24 (.int .i64 c.epoch)).set 25 (.slice av c.chain.length capv))
  have HR := Lib.hid (show RdAt ((wz.setCell ⟨m, 24, none⟩ (.int .i64 c.epoch)).setCell ⟨m, 25, none⟩ (.slice av c.chain.length capv)) r l2 e2 from (RdAt.grown hR1 G1 hmr.symm).grown G2 hmr.symm)
  have HK := Lib.hid (((RKeep.refl w r m).drew.trans (RKeep.grown hg)).trans ((RKeep.grownM G1).trans (RKeep.grownM G2)))
  clear hv hM1 hR1 hg G1 G2 hD1 hD hM hR hRd c0 c1 c2 m24 m25 hf
  go_wp2_with fail
  go_end0
  exact ⟨rfl, HR.out, ⟨_, HV.out, HM.out⟩, HK.out⟩

theorem op_there {w : World} {m : Nat} {cs : List Value} {x11 x12 x13 x14 x15 x16 x17 x18 x19 : Int} {x20 : ByteArray} (hM : BlkAt w m 40 cs) (h : cs[11]? = some (.int .i64 x11) ∧ cs[12]? = some (.int .i64 x12) ∧ cs[13]? = some (.int .i64 x13) ∧ cs[14]? = some (.int .i64 x14) ∧ cs[15]? = some (.int .i64 x15) ∧ cs[16]? = some (.int .i64 x16) ∧ cs[17]? = some (.int .i64 x17) ∧ cs[18]? = some (.int .i64 x18) ∧ cs[19]? = some (.int .i64 x19) ∧ cs[20]? = some (.string x20)) : w.there m 11 10 := by
  obtain ⟨h0, h1, h2, h3, h4, h5, h6, h7, h8, h9⟩ := h
  intro j hj
  refine ⟨?_, hM.free _⟩
  have : j = 0 ∨ j = 1 ∨ j = 2 ∨ j = 3 ∨ j = 4 ∨ j = 5 ∨ j = 6 ∨ j = 7 ∨ j = 8 ∨ j = 9 := by omega
  rcases this with rfl | rfl | rfl | rfl | rfl | rfl | rfl | rfl | rfl | rfl
  · rw [hM.cell h0]; rfl
  · rw [hM.cell h1]; rfl
  · rw [hM.cell h2]; rfl
  · rw [hM.cell h3]; rfl
  · rw [hM.cell h4]; rfl
  · rw [hM.cell h5]; rfl
  · rw [hM.cell h6]; rfl
  · rw [hM.cell h7]; rfl
  · rw [hM.cell h8]; rfl
  · rw [hM.cell h9]; rfl
set_option maxRecDepth 100000 in
set_option maxHeartbeats 4000000 in

theorem dop_r {w : World} {r d m : Nat} {l : List UInt8} {e : Int} {cs : List Value} {x11 x12 x13 x14 x15 x16 x17 x18 x19 : Int} {x20 : ByteArray} (hD : BlkAt w d 118 [.pointer (some ⟨m, 0, none⟩), .pointer none, .pointer (some ⟨r, 0, none⟩)]) (hM : BlkAt w m 40 cs)
    (h11 : cs[11]? = some (.int .i64 x11)) (h12 : cs[12]? = some (.int .i64 x12)) (h13 : cs[13]? = some (.int .i64 x13)) (h14 : cs[14]? = some (.int .i64 x14)) (h15 : cs[15]? = some (.int .i64 x15)) (h16 : cs[16]? = some (.int .i64 x16)) (h17 : cs[17]? = some (.int .i64 x17)) (h18 : cs[18]? = some (.int .i64 x18)) (h19 : cs[19]? = some (.int .i64 x19)) (h20 : cs[20]? = some (.string x20))
    (hR : RdAt w r l e) (hl : l.length ≤ 1000000) {k a1 a2 a3 a4 a5 a6 a7 a8 : Int} {s : List UInt8} {l2 : List UInt8} {e2 : Int} (hr : takeOp l e = (⟨k, [a1, a2, a3, a4, a5, a6, a7, a8], s⟩, l2, e2)) :
    Calls Tryz.prog 82 #[.pointer (some ⟨d, 0, none⟩)] w fun en w' => en = .returned (.tuple #[]) ∧ RdAt w' r l2 e2 ∧ BlkAt w' m 40 ((((((((((cs.set 11 (.int .i64 k)).set 12 (.int .i64 a1)).set 13 (.int .i64 a2)).set 14 (.int .i64 a3)).set 15 (.int .i64 a4)).set 16 (.int .i64 a5)).set 17 (.int .i64 a6)).set 18 (.int .i64 a7)).set 19 (.int .i64 a8)).set 20 (.string ⟨s.toArray⟩)) ∧ RKeep w w' r m := by
  have hmr := msg_rd hM hR
  have hdr := desk_rd hD hR
  have hdm := desk_msg hD hM
  have c0 : w.cell? ⟨d, 0, none⟩ = some (.pointer (some ⟨m, 0, none⟩)) := hD.cell rfl
  have c1 : w.cell? ⟨d, 1, none⟩ = some (.pointer none) := hD.cell rfl
  have c2 : w.cell? ⟨d, 2, none⟩ = some (.pointer (some ⟨r, 0, none⟩)) := hD.cell rfl
  have HRR := Lib.hid hr
  clear hr
  go_enter Tryz.func82, Tryz.ntmps82
  go_wp2_with fail
  go_upto_region 2 with (fail)
  have hRd : RdAt w.drew r l e := hR
  refine wp_region_noPanic ?_
  refine wp_region_held_drew (S := (fun w' => w'.cell? ⟨d, 0, none⟩ = some (.pointer (some ⟨m, 0, none⟩)) ∧ w'.cell? ⟨d, 2, none⟩ = some (.pointer (some ⟨r, 0, none⟩)))) (by kernel_rfl) (by exact ⟨c0, c2⟩) (fun hHeld => ?_)
  refine wpAnyH_take (i := 0) (oi := ?oq_1_0) (v := ?va_1_0) ?op_1_0 (by kernel_rfl) (by kernel_rfl) (by kernel_rfl) (fun _ _ _ h => h) ?yi_1_0 hHeld ?re_1_0
  case op_1_0 => (simp only [List.getElem?_toArray, List.getElem?_cons_zero]; rfl)
  case yi_1_0 =>
    refine Or.inl ⟨by rfl, ?_⟩
    intro w hSw
    try dsimp only at hSw
    go_simp
    all_goals with_reducible rfl
  try simp only [Act.put, List.setIfInBounds_toArray, List.set_cons_zero, List.set_cons_succ]
  refine wpAnyH_take (i := 1) (oi := ?oq_1_1) (v := ?va_1_1) ?op_1_1 (by kernel_rfl) (by kernel_rfl) (by kernel_rfl) (fun _ _ _ h => h) ?yi_1_1 hHeld ?re_1_1
  case op_1_1 => (simp only [List.getElem?_toArray, List.getElem?_cons_succ, List.getElem?_cons_zero]; rfl)
  case yi_1_1 =>
    refine Or.inl ⟨by rfl, ?_⟩
    intro w hSw
    try dsimp only at hSw
    go_simp
    all_goals with_reducible rfl
  try simp only [Act.put, List.setIfInBounds_toArray, List.set_cons_zero, List.set_cons_succ]
  refine wpAnyH_take (i := 2) (oi := ?oq_1_2) (v := ?va_1_2) ?op_1_2 (by kernel_rfl) (by kernel_rfl) (by kernel_rfl) (fun _ _ _ h => h) ?yi_1_2 hHeld ?re_1_2
  case op_1_2 => (simp only [List.getElem?_toArray, List.getElem?_cons_succ, List.getElem?_cons_zero]; rfl)
  case yi_1_2 =>
    refine Or.inl ⟨by rfl, ?_⟩
    intro w hSw
    try dsimp only at hSw
    go_simp
    all_goals with_reducible rfl
  try simp only [Act.put, List.setIfInBounds_toArray, List.set_cons_zero, List.set_cons_succ]
  refine wpAnyH_take (i := 3) (oi := ?oq_1_3) (v := ?va_1_3) ?op_1_3 (by kernel_rfl) (by kernel_rfl) (by kernel_rfl) (fun _ _ _ h => h) ?yi_1_3 hHeld ?re_1_3
  case op_1_3 => (simp only [List.getElem?_toArray, List.getElem?_cons_succ, List.getElem?_cons_zero]; rfl)
  case yi_1_3 =>
    refine Or.inl ⟨by rfl, ?_⟩
    intro w hSw
    try dsimp only at hSw
    go_simp
    all_goals with_reducible rfl
  try simp only [Act.put, List.setIfInBounds_toArray, List.set_cons_zero, List.set_cons_succ]
  refine wpAnyH_take (i := 4) (oi := ?oq_1_4) (v := ?va_1_4) ?op_1_4 (by kernel_rfl) (by kernel_rfl) (by kernel_rfl) (fun _ _ _ h => h) ?yi_1_4 hHeld ?re_1_4
  case op_1_4 => (simp only [List.getElem?_toArray, List.getElem?_cons_succ, List.getElem?_cons_zero]; rfl)
  case yi_1_4 =>
    refine Or.inl ⟨by rfl, ?_⟩
    intro w hSw
    try dsimp only at hSw
    go_simp
    all_goals with_reducible rfl
  try simp only [Act.put, List.setIfInBounds_toArray, List.set_cons_zero, List.set_cons_succ]
  refine wpAnyH_take (i := 5) (oi := ?oq_1_5) (v := ?va_1_5) ?op_1_5 (by kernel_rfl) (by kernel_rfl) (by kernel_rfl) (fun _ _ _ h => h) ?yi_1_5 hHeld ?re_1_5
  case op_1_5 => (simp only [List.getElem?_toArray, List.getElem?_cons_succ, List.getElem?_cons_zero]; rfl)
  case yi_1_5 =>
    refine Or.inl ⟨by rfl, ?_⟩
    intro w hSw
    try dsimp only at hSw
    go_simp
    all_goals with_reducible rfl
  try simp only [Act.put, List.setIfInBounds_toArray, List.set_cons_zero, List.set_cons_succ]
  refine wpAnyH_take (i := 6) (oi := ?oq_1_6) (v := ?va_1_6) ?op_1_6 (by kernel_rfl) (by kernel_rfl) (by kernel_rfl) (fun _ _ _ h => h) ?yi_1_6 hHeld ?re_1_6
  case op_1_6 => (simp only [List.getElem?_toArray, List.getElem?_cons_succ, List.getElem?_cons_zero]; rfl)
  case yi_1_6 =>
    refine Or.inl ⟨by rfl, ?_⟩
    intro w hSw
    try dsimp only at hSw
    go_simp
    all_goals with_reducible rfl
  try simp only [Act.put, List.setIfInBounds_toArray, List.set_cons_zero, List.set_cons_succ]
  refine wpAnyH_take (i := 7) (oi := ?oq_1_7) (v := ?va_1_7) ?op_1_7 (by kernel_rfl) (by kernel_rfl) (by kernel_rfl) (fun _ _ _ h => h) ?yi_1_7 hHeld ?re_1_7
  case op_1_7 => (simp only [List.getElem?_toArray, List.getElem?_cons_succ, List.getElem?_cons_zero]; rfl)
  case yi_1_7 =>
    refine Or.inl ⟨by rfl, ?_⟩
    intro w hSw
    try dsimp only at hSw
    go_simp
    all_goals with_reducible rfl
  try simp only [Act.put, List.setIfInBounds_toArray, List.set_cons_zero, List.set_cons_succ]
  refine wpAnyH_ready (rs := [8]) (by kernel_rfl) (by simp) (AllReadyH.cons (o := ?oq_1_8) ?op_1_8 (fun K hK => ?re_1_8) AllReadyH.nil)
  case op_1_8 => (simp only [List.getElem?_toArray, List.getElem?_cons_succ, List.getElem?_cons_zero]; rfl)
  go_simp
  go_at_call 97
  refine (take_any (by exact hRd) hl).mono ?_
  rintro en wz ⟨rfl, hR1, hg⟩
  rw [HRR.out] at hR1
  rw [HRR.out]
  simp only [opCells, icells, List.map_cons, List.map_nil, List.cons_append, List.nil_append]
  have hD1 : BlkAt wz d 118 _ := (hD.drew).grown hg hdr
  have hM1 := hM.drew.grown hg hmr
  refine hK.out _ _ (by exact ⟨hD1.cell rfl, hD1.cell rfl⟩) (fun hHeld => ?_)
  clear hK K
  try simp only [Act.put, List.setIfInBounds_toArray, List.set_cons_zero, List.set_cons_succ]
  refine wpAnyH_take (i := 9) (oi := ?oq_1_9) (v := ?va_1_9) ?op_1_9 (by kernel_rfl) (by kernel_rfl) (by kernel_rfl) (fun _ _ _ h => h) ?yi_1_9 hHeld ?re_1_9
  case op_1_9 => (simp only [List.getElem?_toArray, List.getElem?_cons_succ, List.getElem?_cons_zero]; rfl)
  case yi_1_9 =>
    refine Or.inl ⟨by rfl, ?_⟩
    intro w hSw
    try dsimp only at hSw
    go_simp
    all_goals with_reducible rfl
  try simp only [Act.put, List.setIfInBounds_toArray, List.set_cons_zero, List.set_cons_succ]
  refine wpAnyH_take (i := 10) (oi := ?oq_1_10) (v := ?va_1_10) ?op_1_10 (by kernel_rfl) (by kernel_rfl) (by kernel_rfl) (fun _ _ _ h => h) ?yi_1_10 hHeld ?re_1_10
  case op_1_10 => (simp only [List.getElem?_toArray, List.getElem?_cons_succ, List.getElem?_cons_zero]; rfl)
  case yi_1_10 =>
    refine Or.inl ⟨by rfl, ?_⟩
    intro w hSw
    try dsimp only at hSw
    go_simp
    all_goals with_reducible rfl
  try simp only [Act.put, List.setIfInBounds_toArray, List.set_cons_zero, List.set_cons_succ]
  refine wpAnyH_ready (rs := [11]) (by kernel_rfl) (by simp) (AllReadyH.cons (o := ?oq_1_11) ?op_1_11 (fun K hK => ?re_1_11) AllReadyH.nil)
  case op_1_11 => (simp only [List.getElem?_toArray, List.getElem?_cons_succ, List.getElem?_cons_zero]; rfl)
  rw [if_pos (by rfl)]
  refine wp_store_mid _ _ _ rfl m 11 _ rfl rfl (op_there hM1 ⟨h11, h12, h13, h14, h15, h16, h17, h18, h19, h20⟩) (by kernel_rfl) (by simp [Value.oneCell']) ?_
  simp only [Act.put]
  refine hK.out _ _ (by exact ⟨(hD1.grown (grown_setCells m [.int .i64 k, .int .i64 a1, .int .i64 a2, .int .i64 a3, .int .i64 a4, .int .i64 a5, .int .i64 a6, .int .i64 a7, .int .i64 a8, .string ⟨s.toArray⟩] 11 wz) hdm).cell rfl, (hD1.grown (grown_setCells m [.int .i64 k, .int .i64 a1, .int .i64 a2, .int .i64 a3, .int .i64 a4, .int .i64 a5, .int .i64 a6, .int .i64 a7, .int .i64 a8, .string ⟨s.toArray⟩] 11 wz) hdm).cell rfl⟩) (fun hHeld => ?_)
  clear hK K
  try simp only [Act.put, List.setIfInBounds_toArray, List.set_cons_zero, List.set_cons_succ]
  refine wpAnyH_done (by kernel_rfl) ?_ _
  refine NoPanic.normal ?_
  have G1 := grown_setCells m [.int .i64 k, .int .i64 a1, .int .i64 a2, .int .i64 a3, .int .i64 a4, .int .i64 a5, .int .i64 a6, .int .i64 a7, .int .i64 a8, .string ⟨s.toArray⟩] 11 wz
  have HM := Lib.hid (((((((((((hM1.set 11 (.int .i64 k)).set 12 (.int .i64 a1)).set 13 (.int .i64 a2)).set 14 (.int .i64 a3)).set 15 (.int .i64 a4)).set 16 (.int .i64 a5)).set 17 (.int .i64 a6)).set 18 (.int .i64 a7)).set 19 (.int .i64 a8)).set 20 (.string ⟨s.toArray⟩)))
  have HR := Lib.hid (show RdAt ((((((((((wz.setCell ⟨m, 11, none⟩ (.int .i64 k)).setCell ⟨m, 12, none⟩ (.int .i64 a1)).setCell ⟨m, 13, none⟩ (.int .i64 a2)).setCell ⟨m, 14, none⟩ (.int .i64 a3)).setCell ⟨m, 15, none⟩ (.int .i64 a4)).setCell ⟨m, 16, none⟩ (.int .i64 a5)).setCell ⟨m, 17, none⟩ (.int .i64 a6)).setCell ⟨m, 18, none⟩ (.int .i64 a7)).setCell ⟨m, 19, none⟩ (.int .i64 a8)).setCell ⟨m, 20, none⟩ (.string ⟨s.toArray⟩)) r l2 e2 from RdAt.grown hR1 G1 hmr.symm)
  have HK := Lib.hid (show RKeep w ((((((((((wz.setCell ⟨m, 11, none⟩ (.int .i64 k)).setCell ⟨m, 12, none⟩ (.int .i64 a1)).setCell ⟨m, 13, none⟩ (.int .i64 a2)).setCell ⟨m, 14, none⟩ (.int .i64 a3)).setCell ⟨m, 15, none⟩ (.int .i64 a4)).setCell ⟨m, 16, none⟩ (.int .i64 a5)).setCell ⟨m, 17, none⟩ (.int .i64 a6)).setCell ⟨m, 18, none⟩ (.int .i64 a7)).setCell ⟨m, 19, none⟩ (.int .i64 a8)).setCell ⟨m, 20, none⟩ (.string ⟨s.toArray⟩)) r m from (((RKeep.refl w r m).drew.trans (RKeep.grown hg)).trans (RKeep.grownM G1)))
  clear hM1 hR1 hg G1 hD1 hD hM hR hRd c0 c1 c2
  go_wp2_with fail
  go_end0
  exact ⟨rfl, HR.out, HM.out, HK.out⟩

set_option maxRecDepth 100000 in
set_option maxHeartbeats 4000000 in

theorem dreply_r {w : World} {r d m : Nat} {l : List UInt8} {e : Int} {cs : List Value} {x y z : Int} (hD : BlkAt w d 118 [.pointer (some ⟨m, 0, none⟩), .pointer none, .pointer (some ⟨r, 0, none⟩)]) (hM : BlkAt w m 40 cs)
    (h21 : cs[21]? = some (.int .i64 x)) (h22 : cs[22]? = some (.int .i64 y)) (h23 : cs[23]? = some (.int .i64 z))
    (hR : RdAt w r l e) (hl : l.length ≤ 1000000) {v0 v1 v2 : Int} {l2 : List UInt8} {e2 : Int} (hr : rdIs 3 l e = ([v0, v1, v2], l2, e2)) :
    Calls Tryz.prog 84 #[.pointer (some ⟨d, 0, none⟩)] w fun en w' => en = .returned (.tuple #[]) ∧ RdAt w' r l2 e2 ∧ BlkAt w' m 40 (((cs.set 22 (.int .i64 v1)).set 23 (.int .i64 v2)).set 21 (.int .i64 v0)) ∧ RKeep w w' r m := by
  have hmr := msg_rd hM hR
  have hdr := desk_rd hD hR
  have hdm := desk_msg hD hM
  have hrl := hR.lt
  have hml := hM.lt
  have c0 : w.cell? ⟨d, 0, none⟩ = some (.pointer (some ⟨m, 0, none⟩)) := hD.cell rfl
  have m21 : w.cell? ⟨m, 21, none⟩ = some (.int .i64 x) := hM.cell h21
  have HRR := Lib.hid hr
  clear hr
  have hE := BlkAt.new w 3 [.int .i64 x]
  have hD1 := hD.alloc (.cells #[.int .i64 x] 3)
  have hM1 := hM.alloc (.cells #[.int .i64 x] 3)
  have hR1 := hR.alloc (.cells #[.int .i64 x] 3)
  have k1 : RKeep w (w.alloc (.cells #[.int .i64 x] 3)) r m := RKeep.below ((Below.refl w.heap.size w).alloc (Nat.le_refl _) (.cells #[.int .i64 x] 3))
  have hEr : w.heap.size ≠ r := by omega
  have hEm : w.heap.size ≠ m := by omega
  have hEd : w.heap.size ≠ d := by have := hD.lt; omega
  have hEw : w.heap.size + 1 ≤ (w.alloc (.cells #[.int .i64 x] 3)).heap.size := by simp
  go_enter Tryz.func84, Tryz.ntmps84
  go_upto_region 1 with (fail)
  change Code.wp _ _ _ _ (w.alloc (.cells #[.int .i64 x] 3))
  change BlkAt (w.alloc (.cells #[.int .i64 x] 3)) _ _ _ at hE
  clear hD hM hR c0 m21
  have hD := hD1
  have hM := hM1
  have hR := hR1
  clear hD1 hM1 hR1
  generalize w.alloc (.cells #[.int .i64 x] 3) = W at *
  generalize hEE : w.heap.size = E at hE hEr hEm hEd hEw ⊢
  have c0 : W.cell? ⟨d, 0, none⟩ = some (.pointer (some ⟨m, 0, none⟩)) := hD.cell rfl
  have hP : SlotsAt (W.alloc (.cells #[.pointer (some ⟨E, 0, none⟩), .pointer (some ⟨m, 22, none⟩), .pointer (some ⟨m, 23, none⟩)] 123)) W.heap.size [(E, 0), (m, 22), (m, 23)] := by
    refine ⟨BlkAt.new W 123 [.pointer (some ⟨E, 0, none⟩), .pointer (some ⟨m, 22, none⟩), .pointer (some ⟨m, 23, none⟩)], fun i A g1 => ?_⟩
    match i, g1 with
    | 0, g1 => simp at g1; obtain rfl := g1; exact ⟨_, _, hE.alloc (.cells #[.pointer (some ⟨E, 0, none⟩), .pointer (some ⟨m, 22, none⟩), .pointer (some ⟨m, 23, none⟩)] 123), by decide, by decide, by decide, _, rfl⟩
    | 1, g1 => simp at g1; obtain rfl := g1; exact ⟨_, _, hM.alloc (.cells #[.pointer (some ⟨E, 0, none⟩), .pointer (some ⟨m, 22, none⟩), .pointer (some ⟨m, 23, none⟩)] 123), by decide, by decide, by decide, _, by simpa using h22⟩
    | 2, g1 => simp at g1; obtain rfl := g1; exact ⟨_, _, hM.alloc (.cells #[.pointer (some ⟨E, 0, none⟩), .pointer (some ⟨m, 22, none⟩), .pointer (some ⟨m, 23, none⟩)] 123), by decide, by decide, by decide, _, by simpa using h23⟩
  have bb0 : Below W.heap.size W (W.alloc (.cells #[.pointer (some ⟨E, 0, none⟩), .pointer (some ⟨m, 22, none⟩), .pointer (some ⟨m, 23, none⟩)] 123)) := (Below.refl _ _).alloc (Nat.le_refl _) _
  have bb : Below W.heap.size W (W.alloc (.cells #[.pointer (some ⟨E, 0, none⟩), .pointer (some ⟨m, 22, none⟩), .pointer (some ⟨m, 23, none⟩)] 123)).drew := ⟨bb0.os, bb0.tape, bb0.output, bb0.size, bb0.block⟩
  have hP : SlotsAt (W.alloc (.cells #[.pointer (some ⟨E, 0, none⟩), .pointer (some ⟨m, 22, none⟩), .pointer (some ⟨m, 23, none⟩)] 123)).drew W.heap.size [(E, 0), (m, 22), (m, 23)] := ⟨hP.row, hP.slots⟩
  go_region_held3 (fun w' => w'.cell? ⟨d, 0, none⟩ = some (.pointer (some ⟨m, 0, none⟩)))
    (first | exact c0 | go_keep)
    ((go_at_call 56; refine (ints_rd (As := [(E, 0), (m, 22), (m, 23)]) HRR rfl (by exact hD.alloc (.cells #[.pointer (some ⟨E, 0, none⟩), .pointer (some ⟨m, 22, none⟩), .pointer (some ⟨m, 23, none⟩)] 123)) (by exact hP) (by exact RdAt.below hR bb) hl (by decide)).mono ?_; rintro en w2 ⟨rfl, hR2, hT⟩; have hD2 : BlkAt w2 d 118 _ := hT.same (by exact hD.alloc (.cells #[.pointer (some ⟨E, 0, none⟩), .pointer (some ⟨m, 22, none⟩), .pointer (some ⟨m, 23, none⟩)] 123)) hdr (by simp; omega); have c0 : w2.cell? ⟨d, 0, none⟩ = some (.pointer (some ⟨m, 0, none⟩)) := hD2.cell rfl))
  have hT3 : ReadTo (W.alloc (.cells #[.pointer (some ⟨E, 0, none⟩), .pointer (some ⟨m, 22, none⟩), .pointer (some ⟨m, 23, none⟩)] 123)) w2 r (List.zip [(E, 0), (m, 22), (m, 23)] [v0, v1, v2]) := ⟨hT.os, hT.tape, hT.output, hT.size, hT.cells, hT.other⟩
  have hM2 : BlkAt w2 m 40 ((cs.set 22 (.int .i64 v1)).set 23 (.int .i64 v2)) := by
    have h2 := hT3.cells m _ _ _ hmr (hM.alloc (.cells #[.pointer (some ⟨E, 0, none⟩), .pointer (some ⟨m, 22, none⟩), .pointer (some ⟨m, 23, none⟩)] 123))
    simpa [updB, BlkAt, hEm] using h2
  have hE2 : BlkAt w2 E 3 [.int .i64 v0] := by
    have h2 := hT3.cells E _ _ _ hEr (hE.alloc (.cells #[.pointer (some ⟨E, 0, none⟩), .pointer (some ⟨m, 22, none⟩), .pointer (some ⟨m, 23, none⟩)] 123))
    simpa [updB, BlkAt, Ne.symm hEm] using h2
  have e0 : w2.cell? ⟨E, 0, none⟩ = some (.int .i64 v0) := hE2.cell rfl
  have hm21 : ((cs.set 22 (.int .i64 v1)).set 23 (.int .i64 v2))[21]? = some (.int .i64 x) := by simpa using h21
  have m21 : w2.cell? ⟨m, 21, none⟩ = some (.int .i64 x) := hM2.cell hm21
  have hf := hM2.free 21
  have hk2 : RKeep w w2 r m := ⟨hT3.os.trans k1.os, hT3.tape.trans k1.tape, hT3.output.trans k1.output, by have h1 := hT3.size; have h2 := k1.size; simp at h1; omega, fun k hk hr hm => by
    have h1 := k1.block k hk hr hm
    have hkW : k < W.heap.size := Nat.lt_of_lt_of_le hk k1.size
    rw [hT3.other k (by simp; omega) hr (by simp; omega), heap_alloc_old _ _ hkW, h1]⟩
  have G := grown_setCell w2.drew m 21 (.int .i64 v0)
  have HM := Lib.hid (hM2.drew.set 21 (.int .i64 v0))
  have HR := Lib.hid (show RdAt (w2.drew.setCell ⟨m, 21, none⟩ (.int .i64 v0)) r l2 e2 from RdAt.grown (w := w2.drew) hR2 G hmr.symm)
  have HK := Lib.hid (hk2.drew.trans (RKeep.grownM G))
  clear hR2 hP bb bb0 hk2 G hT hT3 hM2 hE2 k1 hm21 hD2 hD hM hR hE hEE
  go_wp2_with fail
  go_region
  go_wp2_with fail
  go_end0
  exact ⟨rfl, HR.out, HM.out, HK.out⟩
end Go.Proofs.YtnaabaahfjklhaaGreat
