/- NetFull: for every number the law answers true. No condition. -/
import Derived.Test.YtnaabaahfjklhaaGreatNetAwake
import Derived.Test.YtnaabaahfjklhaaGreatNetMore
namespace Go.Proofs.YtnaabaahfjklhaaGreat
open Go.RowKit Go.ChangeShapes Go.WideShapes Go.Joins Go.Deep
set_option linter.unusedVariables false

set_option maxRecDepth 100000 in
set_option maxHeartbeats 4000000 in

theorem NetFull_go {w : World} {more : Int} (hm : W64 more) :
    Calls Tryz.prog 5 #[.int .i64 more] w fun e w' => e = .returned (.bool true) ∧ Below w.heap.size w w' := by
  have g0 := whereM_goes (n := 100) (by decide)
  have g1 := whereM_goes (n := 101) (by decide)
  go_enter Tryz.func5, Tryz.ntmps5
  go_wp2_with fail
  refine (awake_net _).mono ?_
  rintro en w1 ⟨rfl, hb⟩
  go_wp2_with fail
  refine (nnew_any _).mono ?_
  rintro en w2 ⟨b, rfl, hN, b2⟩
  have hbw : w.heap.size ≤ b := Nat.le_trans hb.size hN.1
  have hB : w.heap.size ≤ w1.heap.size := hb.size
  have hbq := below_step hb b2
  clear hb b2
  have hb := hbq
  clear hbq
  generalize w1.heap.size = B at *
  go_wp2_with fail
  go_loopw [7] (fun i wr => ∃ (k : Nat) (v : Value), k ≤ 2000 ∧ i = .int .i64 k ∧ NetAt B wr b v (List.replicate k (whereM 100)) k 0 ∧ Below w.heap.size w wr) (fun i _ => 2000 - (intOf i).toNat)
  case atStart => exact ⟨0, _, by omega, rfl, hN, hb⟩
  case round =>
    obtain ⟨k, v, hk, rfl, hNr, hbr⟩ := hrel
    clear hN hb
    have hN := hNr
    have hb := hbr
    clear hNr hbr
    by_cases hlt : k < 2000
    · have hlt' : (k : Int) < 2000 := by omega
      have hv : ∀ j, v.ownBlock = some j → w.heap.size ≤ j := fun j hj => Nat.le_trans hB (hN.row j hj).1
      go_wp2_with fail
      refine (where_any 100 _).mono ?_
      rintro en w3 ⟨u, rfl, hA, b3⟩
      have hNq := hN.below b3
      clear hN
      have hN := hNq
      clear hNq
      have hbq := below_step hb b3
      clear hb
      have hb := hbq
      clear hbq b3
      go_wp2_with fail
      refine (nsend_any (by exact hN) (by omega) (by exact hA) g0.ok (by decide) (by decide) (sendN_some g0 (by rw [List.length_replicate]; exact hlt))).mono ?_
      rintro en w4 ⟨rfl, v4, hN4, hk4, hr4⟩
      have hb4 := hk4.below hb hbw hv
      have HN : Hid (NetAt B w4 b v4 (List.replicate (k + 1) (whereM 100)) ((k + 1 : Nat) : Int) 0) := Lib.hid (by
        rw [sent_yes] at hN4
        rw [List.replicate_succ']
        exact hN4)
      have HB := Lib.hid hb4
      clear hN hb hA hN4 hk4 hr4 hb4 hv
      go_wp2_with fail
      go_roundw
      case rel => exact ⟨k + 1, v4, by omega, by go_num, HN.out, HB.out⟩
      case measure => simp [intOf]; omega
    · have hlt' : ¬ (k : Int) < 2000 := by omega
      have hk2 : k = 2000 := by omega
      obtain ⟨L, hL⟩ : ∃ L, L = List.replicate k (whereM 100) := ⟨_, rfl⟩
      rw [← hL] at hN
      have hLl : L.length = 2000 := by rw [hL, List.length_replicate, hk2]
      clear hk2
      have HLL := Lib.hid hL
      clear hL
      obtain ⟨q, hq, hq5⟩ := place_mod more 5 (by decide) (by decide)
      have hq : wrap64 ((IntKind.u64.wrap more).tmod 5) = q := hq
      have HQ := Lib.hid hq
      clear hq
      go_upto_region 10 with (fail)
      rw [HQ.out, show wrap64 (1 + (q : Int)) = ((q + 1 : Nat) : Int) by rw [IntWalk.wrap64_in _ ⟨by omega, by omega⟩]; omega]
      obtain ⟨r, hr⟩ : ∃ r, r = q + 1 := ⟨_, rfl⟩
      rw [← hr]
      have hr1 : r ≤ 5 := by omega
      clear hr HQ hq5
      have hLn : L ≠ [] := by rintro rfl; simp at hLl
      obtain ⟨c, hc⟩ : ∃ c : Int, c = (k : Int) := ⟨_, rfl⟩
      have hc2 : 0 ≤ c ∧ c ≤ 1000000000 := by omega
      rw [← hc] at hN ⊢
      clear hc hlt hlt' hk
      go_loopw [19] (fun i wr => ∃ (k : Nat) (v : Value), k ≤ r ∧ i = .int .i64 k ∧ NetAt B wr b v L c 0 ∧ Below w.heap.size w wr) (fun i _ => r - (intOf i).toNat)
      case atStart => exact ⟨0, v, by omega, rfl, hN, hb⟩
      case round =>
        obtain ⟨k, v, hk, rfl, hNr, hbr⟩ := hrel
        clear hN hb
        have hN := hNr
        have hb := hbr
        clear hNr hbr
        have hv : ∀ j, v.ownBlock = some j → w.heap.size ≤ j := fun j hj => Nat.le_trans hB (hN.row j hj).1
        by_cases hlt : k < r
        · have hlt' : (k : Int) < (r : Int) := by omega
          go_wp2_with fail
          refine (where_any 101 _).mono ?_
          rintro en w3 ⟨u, rfl, hA, b3⟩
          have hNq := hN.below b3
          clear hN
          have hN := hNq
          clear hNq
          have hbq := below_step hb b3
          clear hb
          have hb := hbq
          clear hbq b3
          go_wp2_with fail
          refine (nsend_any (by exact hN) hc2 (by exact hA) g1.ok (by decide) (by decide) (sendN_full g1 (by omega))).mono ?_
          rintro en w4 ⟨rfl, v4, hN4, hk4, hr4⟩
          rw [sent_not (by decide)] at hN4
          have hb4 := hk4.below hb hbw hv
          have hv4 : ∀ j, v4.ownBlock = some j → w.heap.size ≤ j := fun j hj => Nat.le_trans hB (hN4.row j hj).1
          clear hN hb hA hk4 hr4 hv
          go_wp2_with fail
          refine (ndouble_any (by exact hN4) hLn (by omega) (W64.mk (by decide) (by decide)) (dblN_full (by omega) 0)).mono ?_
          rintro en w5 ⟨rfl, v5, hN5, hk5, hr5⟩
          have hb5 := Lib.hid (hk5.below hb4 hbw hv4)
          have HN := Lib.hid hN5
          clear hN4 hb4 hN5 hk5 hr5 hv4
          go_wp2_with fail
          go_roundw
          case rel => exact ⟨k + 1, v5, by omega, by go_num, HN.out, hb5.out⟩
          case measure => simp [intOf]; omega
        · obtain rfl : k = r := by omega
          obtain ⟨M7, hM7⟩ := place_some hLn 7
          go_wp2_with fail
          refine (ntake_any (by exact hN) hLn (by omega) (by decide) (W64.mk (by decide) (by decide)) hM7).mono ?_
          rintro en w3 ⟨u, v3, rfl, hF, hN3, hk3, hq3⟩
          have hb3 := hk3.below hb hbw hv
          have hv3 : ∀ j, v3.ownBlock = some j → w.heap.size ≤ j := fun j hj => hv j (by rw [← hq3]; exact hj)
          have hl3 : (takeN_ L 7).length = 1999 := by rw [ntakeN_len hLn, hLl]
          clear hN hb hF hk3 hq3 hv
          generalize takeN_ L 7 = K at *
          have hKn : K ≠ [] := by rintro rfl; simp at hl3
          obtain ⟨M3, hM3, hd3⟩ := dblN_room hKn (by omega) 3
          have HD3 := Lib.hid hd3
          clear hd3 hM3 hM7
          go_wp2_with fail
          refine (nlen_any (by exact hN3)).mono ?_
          rintro en w4 ⟨rfl, rfl⟩
          rw [hl3]
          go_wp2_with fail
          refine (ndouble_any (by exact hN3) hKn (by omega) (W64.mk (by decide) (by decide)) HD3.out).mono ?_
          rintro en w5 ⟨rfl, v5, hN5, hk5, hr5⟩
          have hb5 := hk5.below hb3 hbw hv3
          clear hN3 hb3 hk5 hr5 hv3
          have hl5 : (K ++ [M3]).length = 2000 := by rw [List.length_append, hl3]; rfl
          generalize K ++ [M3] = K2 at *
          go_wp2_with fail
          refine (nlen_any (by exact hN5)).mono ?_
          rintro en w6 ⟨rfl, rfl⟩
          rw [hl5]
          go_wp2_with fail
          go_ret
          exact ⟨rfl, hb5⟩
theorem NetFull_walk (more : Int) (w : World) (hm : W64 more) :
    Calls Tryz.prog 5 #[.int .i64 more] w fun e w' => e = .returned (.bool true) ∧ Below w.heap.size w w' := NetFull_go hm


set_option maxRecDepth 100000 in
theorem NetFull_calls (H : Type) (enc : TypeId × Value → H) (W : World) (base : Nat) (args : Array Value) (ds gs : List (DataW H)) (before : List MemPlace)
    (hval : ∀ (j : Nat) t v, Tryz.f5.params[j]? = some t → args[j]? = some v → Value.okWide Tryz.prog W .any base t v)
    (hW : DataW.Whole enc Tryz.prog Tryz.f5.params.toList Rows.netFullSpec.vars false W args.toList ds gs before) :
    Calls Tryz.prog 5 args W fun e W' => e = .returned (.bool true) ∧ Below W.heap.size W W' := by
  obtain ⟨p, q, hA, hV, rfl, hfz, hnd⟩ := hW
  rw [Tryz.params5] at hA hval
  obtain ⟨v0, vs0, d0, ds0, p0, q0, hargs, rfl, rfl, h0, r0⟩ := trodAll_cons hA
  obtain ⟨rfl, rfl, rfl⟩ := trodAll_nil r0
  obtain rfl : args = #[v0] := Array.toList_inj.1 hargs
  obtain ⟨x0, rfl, rfl, rfl, w0⟩ := open_int Tryz.underlying3 (hval 0 3 v0 rfl rfl) h0
  exact NetFull_walk x0 W w0

set_option maxRecDepth 100000 in
theorem NetFull_lifted (os : Os) (started : os.Started) (H : Type) (enc : TypeId × Value → H) :
    ReturnsInHanded {} Tryz.checked os 5 .any (Rows.netFullSpec.pre6 enc Tryz.prog Tryz.f5 Rows.netFullRow.domain false) (Rows.netFullSpec.post enc Tryz.prog Tryz.f5 false true false false) := by
  refine returnsInHanded_of_change (C := Tryz.checked) own started (by kernel_rfl) Tryz.func5
    (ChangeSpec.witness6 (enc := enc) (C := Tryz.checked) false ⟨#[], #[.int .i64 0], []⟩ 8 (by kernel_rfl) (by kernel_rfl) (by kernel_rfl) (by kernel_rfl)) ?_
  intro W base args ds gs before hval0 hW hcnd _
  have hval : ∀ (j : Nat) t v, Tryz.f5.params[j]? = some t → args[j]? = some v → Value.okWide Tryz.prog W .any base t v := hval0
  refine (NetFull_calls H enc W base args ds gs before hval hW).mono fun e W' ⟨he, bel⟩ => ?_
  exact ⟨_, he, law_post (ts := [3]) (by rw [Tryz.params5]) (by intro t ht; simp only [List.mem_cons, List.not_mem_nil, or_false] at ht; subst ht <;> exact ⟨by kernel_rfl, of_decide_eq_true (by kernel_rfl)⟩) hW rfl
    (fun ds h => by match ds, h with | [_], _ => rfl) (by kernel_rfl) bel⟩

theorem NetFull_over : Rows.netFullRow.holds Tryz.pinned (OpenSpec.ofChange Rows.netFullSpec) :=
  OpenClaim.holds_of_wide 5 Tryz.f5 rfl rfl rfl rfl rfl rfl rfl ⟨rfl, rfl, rfl, rfl, rfl⟩ rfl rfl rfl rfl rfl (by kernel_rfl) Tryz.func5 (by kernel_rfl)
    (of_decide_eq_true (by kernel_rfl)) (by unfold Func.isWrapper; first | (rw [if_pos (by decide +kernel)]; kernel_rfl) | (rw [if_neg (by decide +kernel)]; exact ⟨rfl, rfl⟩))
    (fun os started H enc _ => NetFull_lifted os started H enc)

/-- The statement. -/
theorem NetFull_proved : Rows.NetFullSaid := NetFull_over

end Go.Proofs.YtnaabaahfjklhaaGreat
