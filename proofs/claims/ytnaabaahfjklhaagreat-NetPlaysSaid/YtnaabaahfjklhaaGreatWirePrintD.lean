/- The code's Print of messages. -/
import Derived.Test.YtnaabaahfjklhaaGreatWirePrintC
namespace Go.Proofs.YtnaabaahfjklhaaGreat
open Go.RowKit Go.ChangeShapes Go.WideShapes Go.Joins Go.Deep Fld
set_option linter.unusedVariables false

/-- A load of a whole struct behind a guard that holds. -/
theorem wpList_load_want {P : Program} {ops : Array Oper} {rest : List Oper} {op : Oper} {a : Act} {w : World} {Q : Exit → Act → World → Prop} (hw : Region.wanted op (yielded ops a.tmps) = true) (ty : TypeId) (x : Operand) (ho : op.op = .load ty x)
    (b o : Nat) (hx : a.eval x = .pointer (some ⟨b, o, none⟩)) (cs : List Value) (d : TypeDesc) (hc : w.rangeAt b o cs)
    (hu : P.underlying ty = some d) (hd : d.isRow = true) (hi : (P.info? ty).map (·.size) = some cs.length)
    (h : wpList P ops Q rest (a.put op.dst (.agg cs.toArray)) w) : wpList P ops Q (op :: rest) a w := by
  rw [wpList, if_pos hw]
  exact .inl (wp_load_mid ty x ho b o hx cs d hc hu hd hi h)
theorem msg_c0 (M : MsgV) (v1 v2 : Value) : (msgCells M v1 v2)[0]? = some (.int .i64 M.kind) := rfl
theorem msg_c26 {M : MsgV} (h : M.op.v.length = 8) (v1 v2 : Value) : (msgCells M v1 v2)[26]? = some v2 := by
  obtain ⟨k, dst, fn, fl, ep, seq, req, cl, id, un, flag, op, re, rg, rd, cf, fires, life⟩ := M
  obtain ⟨ok, ov, oc⟩ := op
  obtain ⟨a1, a2, a3, a4, a5, a6, a7, a8, rfl⟩ := list8 h
  rfl
theorem printM_kind {M : MsgV} (h : ¬ (1 ≤ M.kind ∧ M.kind ≤ 15)) : printM M = ([], 1) := by
  rw [printM, if_neg]
  intro hm
  have := mayW_iff.1 hm
  exact h ⟨this.1, this.2.1⟩
theorem printM_fires {M : MsgV} (h : ¬ M.fires.length ≤ 8) : printM M = ([], 1) := by
  rw [printM, if_neg]
  intro hm
  exact h (mayW_iff.1 hm).2.2.2.1

set_option maxRecDepth 100000 in
set_option maxHeartbeats 4000000 in

theorem wprint_any {w : World} {M : MsgV} {v : Value} (hv : M.At w v) (hok : MOk M) (hc1 : M.cf.chain.length ≤ 1000) (hc2 : M.op.cron.length ≤ 10000) {p : List UInt8} {x : Int} (hp : printM M = (p, x)) :
    Calls Tryz.prog 26 #[v] w fun en w' => en = .returned (.tuple #[.string ⟨p.toArray⟩, .int .i64 x]) ∧ Below w.heap.size w w' := by
  have HV := Lib.hid hv
  obtain ⟨v1, v2, rfl, hc, ⟨a, cap, rfl, hfl, hfs⟩⟩ := hv
  have hop := hok.op.1
  have hlen : (msgCells M v1 (.slice a M.fires.length cap)).length = 28 := msgCells_len hop _ _
  have h0 := msg_c0 M v1 (.slice a M.fires.length cap)
  have h26 := msg_c26 hop v1 (.slice a M.fires.length cap)
  generalize msgCells M v1 (.slice a M.fires.length cap) = cs at *
  have hM := BlkAt.new w 40 cs
  have hb := (Below.refl w.heap.size w).alloc (Nat.le_refl _) (.cells cs.toArray 40)
  have HFL := Lib.hid hfl
  clear hfs hfl
  go_enter Tryz.func26, Tryz.ntmps26
  go_upto_region 1 with (fail)
  change Code.wp _ _ _ _ (w.alloc (.cells cs.toArray 40))
  have hml := hM.lt
  generalize w.alloc (.cells cs.toArray 40) = W at *
  obtain ⟨m, hm⟩ : ∃ m, m = w.heap.size := ⟨_, rfl⟩
  rw [← hm] at hM hml ⊢
  clear hm
  have c0 : W.cell? ⟨m, 0, none⟩ = some (.int .i64 M.kind) := hM.cell h0
  have c26 : W.cell? ⟨m, 26, none⟩ = some (.slice a M.fires.length cap) := hM.cell h26
  have HP := Lib.hid hp
  clear hp
  by_cases k1 : M.kind < 1
  · have HQ := Lib.hid ((printM_kind (M := M) (by omega)).symm.trans HP.out)
    go_wp2_with fail
    go_ret2
    have hq := HQ.out
    simp only [Prod.mk.injEq] at hq
    obtain ⟨rfl, rfl⟩ := hq
    exact ⟨rfl, hb⟩
  by_cases k2 : 15 < M.kind
  · have HQ := Lib.hid ((printM_kind (M := M) (by omega)).symm.trans HP.out)
    go_wp2_with fail
    go_ret2
    have hq := HQ.out
    simp only [Prod.mk.injEq] at hq
    obtain ⟨rfl, rfl⟩ := hq
    exact ⟨rfl, hb⟩
  by_cases k3 : 8 < M.fires.length
  · have HQ := Lib.hid ((printM_fires (M := M) (by omega)).symm.trans HP.out)
    have k3' : (8 : Int) < (M.fires.length : Int) := by omega
    go_wp2_with fail
    go_ret2
    have hq := HQ.out
    simp only [Prod.mk.injEq] at hq
    obtain ⟨rfl, rfl⟩ := hq
    exact ⟨rfl, hb⟩
  have k3' : ¬ (8 : Int) < (M.fires.length : Int) := by omega
  have hsm : MSmall M := ⟨hc1, hc2, by omega⟩
  have hi : (Tryz.prog.info? 40).map (·.size) = some cs.length := by rw [hlen]; exact msg_info
  have htl := textOf_len hok hsm
  have hfl : (frame (textOf M)).length ≤ 1000000 := by rw [frame_len]; omega
  have HFR := Lib.hid hfl
  clear htl hfl
  go_wp2_with (refine wpList_load_mid rfl 40 (.tmp 1) rfl m 0 rfl cs _ hM.range Tryz.underlying40 rfl hi ?_; simp only [Act.put, List.setIfInBounds_toArray, List.set_cons_zero, List.set_cons_succ])
  refine (wwrite_any (by exact HV.out.below hb) hok hsm ⟨by omega, by omega⟩).mono ?_
  rintro en w2 ⟨rfl, b2⟩
  have hM2 := hM.below b2
  have hb2 := below_step hb b2
  clear c0 c26 b2
  go_wp2_with fail
  refine (wread0_any HFR.out).mono ?_
  rintro en w3 ⟨v, rfl, hF, b3⟩
  have hM3 := hM2.below b3
  have hb3 := below_step hb2 b3
  have hropl := rawM_op HFR.out
  obtain ⟨R, ok, hr⟩ : ∃ R ok, rawM (frame (textOf M)) = (R, ok) := ⟨_, _, rfl⟩
  have hsame := raw_same hok
  rw [hr] at hF hsame hropl ⊢
  simp only at hF hsame hropl ⊢
  have HSM := Lib.hid hsame
  clear hr hsame hM hM2 hb hb2 b3
  obtain ⟨v1', v2', rfl, hc', hf'⟩ := hF
  have hlen2 : (msgCells R v1' v2').length = 28 := msgCells_len hropl _ _
  have hone : (msgCells R v1' v2').toArray.all (·.oneCell') = true := by
    rw [Array.all_eq_true_iff_forall_mem]
    intro u hu
    exact msgCells_one (chain_one hc'.1) (fires_one hf'.1) u (by simpa using hu)
  have HAT : Hid (∀ w9, Below w3.heap.size w3 w9 → R.At w9 (.agg (msgCells R v1' v2').toArray)) := Lib.hid fun w9 hg => ⟨v1', v2', rfl, hc'.1.below hg, hf'.1.below hg⟩
  clear hc' hf'
  generalize msgCells R v1' v2' = ds at *
  have hi2 : (Tryz.prog.info? 40).map (·.size) = some ds.length := by rw [hlen2]; exact msg_info
  have hX := BlkAt.new w3 40 [.int .i64 0, .int .i64 0, .int .i64 0, .int .i64 0, .int .i64 0, .int .i64 0, .int .i64 0, .int .i64 0, .int .i64 0, .int .i64 0, .bool false, .int .i64 0, .int .i64 0, .int .i64 0, .int .i64 0, .int .i64 0, .int .i64 0, .int .i64 0, .int .i64 0, .int .i64 0, .string ⟨#[]⟩, .int .i64 0, .int .i64 0, .int .i64 0, .int .i64 0, .slice none 0 0, .slice none 0 0, .int .i64 0]
  have HL1 := Lib.hid (show ds.length = ([.int .i64 0, .int .i64 0, .int .i64 0, .int .i64 0, .int .i64 0, .int .i64 0, .int .i64 0, .int .i64 0, .int .i64 0, .int .i64 0, .bool false, .int .i64 0, .int .i64 0, .int .i64 0, .int .i64 0, .int .i64 0, .int .i64 0, .int .i64 0, .int .i64 0, .int .i64 0, .string ⟨#[]⟩, .int .i64 0, .int .i64 0, .int .i64 0, .int .i64 0, .slice none 0 0, .slice none 0 0, .int .i64 0] : List Value).length by rw [hlen2]; rfl)
  have b4 := (Below.refl w3.heap.size w3).alloc (Nat.le_refl _) (.cells #[.int .i64 0, .int .i64 0, .int .i64 0, .int .i64 0, .int .i64 0, .int .i64 0, .int .i64 0, .int .i64 0, .int .i64 0, .int .i64 0, .bool false, .int .i64 0, .int .i64 0, .int .i64 0, .int .i64 0, .int .i64 0, .int .i64 0, .int .i64 0, .int .i64 0, .int .i64 0, .string ⟨#[]⟩, .int .i64 0, .int .i64 0, .int .i64 0, .int .i64 0, .slice none 0 0, .slice none 0 0, .int .i64 0] 40)
  have G4 := grown_setCells w3.heap.size ds 0 (w3.alloc (.cells #[.int .i64 0, .int .i64 0, .int .i64 0, .int .i64 0, .int .i64 0, .int .i64 0, .int .i64 0, .int .i64 0, .int .i64 0, .int .i64 0, .bool false, .int .i64 0, .int .i64 0, .int .i64 0, .int .i64 0, .int .i64 0, .int .i64 0, .int .i64 0, .int .i64 0, .int .i64 0, .string ⟨#[]⟩, .int .i64 0, .int .i64 0, .int .i64 0, .int .i64 0, .slice none 0 0, .slice none 0 0, .int .i64 0] 40))
  have b5 := b4.grown G4 b4.size (by intro j hj; cases hj; exact Nat.le_refl _)
  have HX2 := Lib.hid (hX.stored (vs := ds) HL1.out)
  have HM4 := Lib.hid (hM3.below b5)
  have HB4 := Lib.hid (below_step hb3 b5)
  have HA4 := Lib.hid (HAT.out _ b5)
  have HV4 := Lib.hid (HV.out.below (below_step hb3 b5))
  have HT := Lib.hid (blk_there2 hX HL1.out)
  clear hX b4 G4 hM3 hb3 HAT b5
  go_upto_region 5 with (refine wpList_store_mid rfl 40 (.tmp 5) (.tmp 26) rfl w3.heap.size 0 ds.toArray rfl rfl (by exact HT.out) (by rw [List.size_toArray]; exact hi2) hone ?_; rw [List.toList_toArray])
  change Code.wp _ _ _ _ ((w3.alloc (.cells #[.int .i64 0, .int .i64 0, .int .i64 0, .int .i64 0, .int .i64 0, .int .i64 0, .int .i64 0, .int .i64 0, .int .i64 0, .int .i64 0, .bool false, .int .i64 0, .int .i64 0, .int .i64 0, .int .i64 0, .int .i64 0, .int .i64 0, .int .i64 0, .int .i64 0, .int .i64 0, .string ⟨#[]⟩, .int .i64 0, .int .i64 0, .int .i64 0, .int .i64 0, .slice none 0 0, .slice none 0 0, .int .i64 0] 40)).setCells w3.heap.size 0 ds)
  generalize (w3.alloc (.cells #[.int .i64 0, .int .i64 0, .int .i64 0, .int .i64 0, .int .i64 0, .int .i64 0, .int .i64 0, .int .i64 0, .int .i64 0, .int .i64 0, .bool false, .int .i64 0, .int .i64 0, .int .i64 0, .int .i64 0, .int .i64 0, .int .i64 0, .int .i64 0, .int .i64 0, .int .i64 0, .string ⟨#[]⟩, .int .i64 0, .int .i64 0, .int .i64 0, .int .i64 0, .slice none 0 0, .slice none 0 0, .int .i64 0] 40)).setCells w3.heap.size 0 ds = w4 at *
  have hX := HX2.out
  have hM := HM4.out
  have hb := HB4.out
  clear HX2 HM4 HB4 HT hone
  generalize w3.heap.size = X at *
  cases ok with
  | false =>
    have HQ := Lib.hid (show (([] : List UInt8), (1 : Int)) = (p, x) by
      rw [← HP.out, printM, if_neg]
      intro hm
      exact Bool.noConfusion (HSM.out.2 hm).1)
    go_wp2_with fail
    go_ret2
    have hq := HQ.out
    simp only [Prod.mk.injEq] at hq
    obtain ⟨rfl, rfl⟩ := hq
    exact ⟨rfl, hb⟩
  | true =>
    cases hd : decide (R = M) with
    | false =>
      have HQ := Lib.hid (show (([] : List UInt8), (1 : Int)) = (p, x) by
        rw [← HP.out, printM, if_neg]
        intro hm
        rw [(HSM.out.2 hm).2, decide_eq_true rfl] at hd
        exact Bool.noConfusion hd)
      have HD := Lib.hid hd
      clear hd
      go_wp2_with (first | (refine wpList_load_want (by rfl) 40 (.tmp 5) rfl X 0 rfl ds _ hX.range Tryz.underlying40 rfl hi2 ?_; simp only [Act.put, List.setIfInBounds_toArray, List.set_cons_zero, List.set_cons_succ]) | (refine wpList_load_want (by rfl) 40 (.tmp 1) rfl m 0 rfl cs _ hM.range Tryz.underlying40 rfl hi ?_; simp only [Act.put, List.setIfInBounds_toArray, List.set_cons_zero, List.set_cons_succ]))
      refine (wsame_any (by exact HA4.out) (by exact HV4.out) hropl hop).mono ?_
      rintro en w5 ⟨rfl, b5⟩
      rw [HD.out]
      have hb5 := below_step hb b5
      go_wp2_with fail
      go_ret2
      have hq := HQ.out
      simp only [Prod.mk.injEq] at hq
      obtain ⟨rfl, rfl⟩ := hq
      exact ⟨rfl, hb5⟩
    | true =>
      have hm : mayW M = true := HSM.out.1 ⟨rfl, of_decide_eq_true hd⟩
      have HQ := Lib.hid (show (if 1024 < (frame (textOf M)).length then ([], (15 : Int)) else (frame (textOf M), 0)) = (p, x) by rw [← HP.out, printM, if_pos hm])
      have HD := Lib.hid hd
      clear hd hm
      go_wp2_with (first | (refine wpList_load_want (by rfl) 40 (.tmp 5) rfl X 0 rfl ds _ hX.range Tryz.underlying40 rfl hi2 ?_; simp only [Act.put, List.setIfInBounds_toArray, List.set_cons_zero, List.set_cons_succ]) | (refine wpList_load_want (by rfl) 40 (.tmp 1) rfl m 0 rfl cs _ hM.range Tryz.underlying40 rfl hi ?_; simp only [Act.put, List.setIfInBounds_toArray, List.set_cons_zero, List.set_cons_succ]))
      refine (wsame_any (by exact HA4.out) (by exact HV4.out) hropl hop).mono ?_
      rintro en w5 ⟨rfl, b5⟩
      rw [HD.out]
      have hb5 := below_step hb b5
      clear HFR
      by_cases hlg : 1024 < (frame (textOf M)).length
      · have hlg' : (1024 : Int) < ((frame (textOf M)).length : Int) := by omega
        rw [if_pos hlg] at HQ
        go_wp2_with fail
        go_ret2
        have hq := HQ.out
        simp only [Prod.mk.injEq] at hq
        obtain ⟨rfl, rfl⟩ := hq
        exact ⟨rfl, hb5⟩
      · have hlg' : ¬ (1024 : Int) < ((frame (textOf M)).length : Int) := by omega
        rw [if_neg hlg] at HQ
        go_wp2_with fail
        go_ret2
        have hq := HQ.out
        simp only [Prod.mk.injEq] at hq
        obtain ⟨rfl, rfl⟩ := hq
        exact ⟨rfl, hb5⟩
end Go.Proofs.YtnaabaahfjklhaaGreat
