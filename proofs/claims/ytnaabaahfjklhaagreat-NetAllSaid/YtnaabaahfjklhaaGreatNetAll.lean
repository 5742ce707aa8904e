/- NetAll: for every three the law answers true. No condition. -/
import Derived.Test.YtnaabaahfjklhaaGreatNetAllP
import Derived.Deep.OwnRows
namespace Go.Proofs.YtnaabaahfjklhaaGreat
open Go.RowKit Go.ChangeShapes Go.WideShapes Go.Joins Go.Deep
set_option linter.unusedVariables false

set_option maxRecDepth 100000 in
set_option maxHeartbeats 8000000 in

theorem NetAll_go {w : World} {n double : Int} {a : Option Addr} {ol oc : Nat} (hn : W64 n) (hdbl : W64 double) (hO : ByteRow w a ol) :
    Calls Tryz.prog 6 #[.int .i64 n, .slice a ol oc, .int .i64 double] w fun e w' => e = .returned (.bool true) ∧ Below w.heap.size w w' := by
  have hol := hO.1
  unfold maxLen at hol
  obtain ⟨q, hq, hq40⟩ := place_mod n 40 (by decide) (by decide)
  have hq : wrap64 ((IntKind.u64.wrap n).tmod 40) = q := hq
  have HQ := Lib.hid hq
  have HO := Lib.hid hO.2
  clear hq hO
  go_enter Tryz.func6, Tryz.ntmps6
  go_upto_region 2 with (fail)
  rw [HQ.out]
  clear HQ
  have hb0 := Below.refl w.heap.size w
  go_wp2_with fail
  refine (awake_net _).mono ?_
  rintro en w1 ⟨rfl, hb⟩
  by_cases hlg : 100 < ol
  · have hlg' : (100 : Int) < (ol : Int) := by omega
    go_wp2_with fail
    refine (awake_net _).mono ?_
    rintro en w2 ⟨rfl, b2⟩
    have hb2 := below_step hb b2
    go_wp2_with fail
    go_ret
    exact ⟨rfl, hb2⟩
  · have hlg' : ¬ (100 : Int) < (ol : Int) := by omega
    go_wp2_with fail
    refine (nnew_any _).mono ?_
    rintro en w2 ⟨b, rfl, hN, b2⟩
    have hbw : w.heap.size ≤ b := Nat.le_trans hb.size hN.1
    have hB : w.heap.size ≤ w1.heap.size := hb.size
    have hbq := below_step hb b2
    clear hb b2
    have hb := hbq
    clear hbq
    generalize w1.heap.size = B at *
    go_wp2_with fail
    go_loopw [33] (fun i wr => ∃ (k : Nat) (v : Value), k ≤ q ∧ i = .int .i64 k ∧ NetAt B wr b v ((List.range k).map wm) k 0 ∧ Below w.heap.size w wr) (fun i _ => q - (intOf i).toNat)
    case atStart => exact ⟨0, _, Nat.zero_le _, rfl, hN, hb⟩
    case round =>
      obtain ⟨k, v, hk, rfl, hNr, hbr⟩ := hrel
      clear hN hb
      have hN := hNr
      have hb := hbr
      clear hNr hbr
      have hv : ∀ j, v.ownBlock = some j → w.heap.size ≤ j := fun j hj => Nat.le_trans hB (hN.row j hj).1
      by_cases hlt : k < q
      · have hlt' : (k : Int) < (q : Int) := by omega
        have hg := wm_goes (j := k) (by omega)
        go_wp2_with fail
        refine (where_any (100 + (k : Int)) _).mono ?_
        rintro en w3 ⟨u, rfl, hA, b3⟩
        have hA : (wm k).At w3 u := hA
        have hNq := hN.below b3
        clear hN
        have hN := hNq
        clear hNq
        have hbq := below_step hb b3
        clear hb
        have hb := hbq
        clear hbq b3
        go_wp2_with fail
        refine (nsend_any (by exact hN) (by omega) (by exact hA) hg.ok (by show 0 ≤ 1000; decide) (by show 0 ≤ 10000; decide) (sendN_some hg (by rw [List.length_map, List.length_range]; omega))).mono ?_
        rintro en w4 ⟨rfl, v4, hN4, hk4, hr4⟩
        have HN : Hid (NetAt B w4 b v4 ((List.range (k + 1)).map wm) ((k + 1 : Nat) : Int) 0) := Lib.hid (by
          rw [sent_yes] at hN4
          rw [List.range_succ, List.map_append]
          exact hN4)
        have HB := Lib.hid (hk4.below hb hbw hv)
        clear hN hb hA hN4 hk4 hr4 hv
        go_wp2_with fail
        go_roundw
        case rel => exact ⟨k + 1, v4, by omega, by go_num, HN.out, HB.out⟩
        case measure => simp [intOf]; omega
      · have hkq : k = q := by omega
        have hlt' : ¬ (k : Int) < (q : Int) := by omega
        obtain ⟨ck, hck⟩ : ∃ ck : Int, ck = (k : Int) := ⟨_, rfl⟩
        have hck2 : 0 ≤ ck ∧ ck ≤ 1000000000 := by omega
        rw [hkq] at hN
        obtain ⟨cs0, hcs0⟩ : ∃ cs0 : Int, cs0 = ((q : Nat) : Int) := ⟨_, rfl⟩
        rw [← hcs0] at hN
        by_cases hq0 : q = 0
        · have j0 : ¬ (0 : Int) < (q : Int) := by omega
          have hNe : NetAt B wr b v [] cs0 0 := by
            rw [hq0] at hN
            exact hN
          clear hq0
          have hmk := fun W => run_make_row' (P := Tryz.prog) 55 3 (.int .i64 0) 8 Tryz.underlying55 int_info rfl .i64 .i64 q (by omega) (by omega) W
          clear hN hck hcs0
          go_upto_region 18 with (fail)
          have hal := (Below.refl wr.heap.size wr).alloc (Nat.le_refl _) (.cells (madeCells #[.int .i64 0] q) 3)
          have hNe := hNe.below hal
          have hb := below_step hb hal
          change Code.wp _ _ _ _ (wr.alloc (.cells (madeCells #[.int .i64 0] q) 3))
          generalize wr.alloc (.cells (madeCells #[.int .i64 0] q) 3) = W at *
          clear hmk hal
          go_wp2_with fail
          go_loopw [13] (fun i wr => i = .int .i64 0 ∧ NetAt B wr b v [] cs0 0 ∧ Below w.heap.size w wr) (fun i _ => 0)
          case atStart => exact ⟨rfl, hNe, hb⟩
          case round =>
            obtain ⟨rfl, hNr, hbr⟩ := hrel
            go_wp2_with fail
            refine (nlen_any (by exact hNr)).mono ?_
            rintro en w5 ⟨rfl, rfl⟩
            have hbr2 := Lib.hid hbr
            clear hNe hb hNr hbr
            go_wp2_with fail
            go_loopw [117] (fun i wr => i = .int .i64 0 ∧ Below w.heap.size w wr) (fun i _ => 0)
            case atStart => exact ⟨rfl, hbr2.out⟩
            case round =>
              obtain ⟨rfl, hbr⟩ := hrel
              have j1 : ¬ (0 : Int) < (q : Int) := by omega
              go_wp2_with fail
              go_ret
              exact ⟨rfl, hbr⟩
        · have j0 : (0 : Int) < (q : Int) := by omega
          have hne : (List.range q).map wm ≠ [] := by
            intro e
            have := congrArg List.length e
            simp at this
            omega
          have hL : ((List.range q).map wm).length = q := by simp
          obtain ⟨p, hp⟩ : ∃ p, p = placeN double ((List.range q).map wm).length := ⟨_, rfl⟩
          have hpq : p < q := by
            rw [hp, hL]
            exact placeN_lt _ (by omega)
          have hM : ((List.range q).map wm)[placeN double ((List.range q).map wm).length]? = some (wm p) := by
            rw [← hp, List.getElem?_map, List.getElem?_range hpq]
            rfl
          have HD : Hid (dblN ((List.range q).map wm) double = ((List.range q ++ [p]).map wm, 0)) := Lib.hid (by
            rw [dblN_some hM, if_neg (by rw [hL]; omega), List.map_append]
            rfl)
          clear hp hck hcs0
          go_wp2_with fail
          refine (npeek_any (by exact hN) hne (by rw [hL]; omega) hdbl hM).mono ?_
          rintro en w3 ⟨u, rfl, hF, b3⟩
          obtain ⟨es, rfl, hel, heone, he2⟩ := From.parts2 hF rfl
          have he2 : es[2]? = some (.int .i64 (100 + (p : Int))) := he2
          have hNq := hN.below b3
          clear hN
          have hN := hNq
          clear hNq
          have hbq := below_step hb b3
          clear hb
          have hb := hbq
          clear hbq b3
          clear hF
          have hX := BlkAt.new w3 40 [.int .i64 0, .int .i64 0, .int .i64 0, .int .i64 0, .int .i64 0, .int .i64 0, .int .i64 0, .int .i64 0, .int .i64 0, .int .i64 0, .bool false, .int .i64 0, .int .i64 0, .int .i64 0, .int .i64 0, .int .i64 0, .int .i64 0, .int .i64 0, .int .i64 0, .int .i64 0, .string ⟨#[]⟩, .int .i64 0, .int .i64 0, .int .i64 0, .int .i64 0, .slice none 0 0, .slice none 0 0, .int .i64 0]
          have HL1 := Lib.hid (show es.length = ([.int .i64 0, .int .i64 0, .int .i64 0, .int .i64 0, .int .i64 0, .int .i64 0, .int .i64 0, .int .i64 0, .int .i64 0, .int .i64 0, .bool false, .int .i64 0, .int .i64 0, .int .i64 0, .int .i64 0, .int .i64 0, .int .i64 0, .int .i64 0, .int .i64 0, .int .i64 0, .string ⟨#[]⟩, .int .i64 0, .int .i64 0, .int .i64 0, .int .i64 0, .slice none 0 0, .slice none 0 0, .int .i64 0] : List Value).length by rw [hel]; rfl)
          have b4 := (Below.refl w3.heap.size w3).alloc (Nat.le_refl _) (.cells #[.int .i64 0, .int .i64 0, .int .i64 0, .int .i64 0, .int .i64 0, .int .i64 0, .int .i64 0, .int .i64 0, .int .i64 0, .int .i64 0, .bool false, .int .i64 0, .int .i64 0, .int .i64 0, .int .i64 0, .int .i64 0, .int .i64 0, .int .i64 0, .int .i64 0, .int .i64 0, .string ⟨#[]⟩, .int .i64 0, .int .i64 0, .int .i64 0, .int .i64 0, .slice none 0 0, .slice none 0 0, .int .i64 0] 40)
          have G4 := grown_setCells w3.heap.size es 0 (w3.alloc (.cells #[.int .i64 0, .int .i64 0, .int .i64 0, .int .i64 0, .int .i64 0, .int .i64 0, .int .i64 0, .int .i64 0, .int .i64 0, .int .i64 0, .bool false, .int .i64 0, .int .i64 0, .int .i64 0, .int .i64 0, .int .i64 0, .int .i64 0, .int .i64 0, .int .i64 0, .int .i64 0, .string ⟨#[]⟩, .int .i64 0, .int .i64 0, .int .i64 0, .int .i64 0, .slice none 0 0, .slice none 0 0, .int .i64 0] 40))
          have b5 := b4.grown G4 b4.size (by intro j hj; cases hj; exact Nat.le_refl _)
          have hYn := hX.stored (vs := es) HL1.out
          have HT := Lib.hid (blk_there2 hX HL1.out)
          have hNn := hN.below b5
          clear hN
          have hN := hNn
          clear hNn
          have hbn := below_step hb b5
          clear hb
          have hb := hbn
          clear hbn
          clear hX b4 G4 b5 HL1
          go_upto_region 14 with (first | (refine wpList_store_mid rfl 40 (.tmp 10) (.tmp 49) rfl w3.heap.size 0 es.toArray rfl rfl (by exact HT.out) (by rw [List.size_toArray, hel]; exact msg_info) heone ?_; rw [List.toList_toArray]))
          change Code.wp _ _ _ _ ((w3.alloc (.cells #[.int .i64 0, .int .i64 0, .int .i64 0, .int .i64 0, .int .i64 0, .int .i64 0, .int .i64 0, .int .i64 0, .int .i64 0, .int .i64 0, .bool false, .int .i64 0, .int .i64 0, .int .i64 0, .int .i64 0, .int .i64 0, .int .i64 0, .int .i64 0, .int .i64 0, .int .i64 0, .string ⟨#[]⟩, .int .i64 0, .int .i64 0, .int .i64 0, .int .i64 0, .slice none 0 0, .slice none 0 0, .int .i64 0] 40)).setCells w3.heap.size 0 es)
          generalize (w3.alloc (.cells #[.int .i64 0, .int .i64 0, .int .i64 0, .int .i64 0, .int .i64 0, .int .i64 0, .int .i64 0, .int .i64 0, .int .i64 0, .int .i64 0, .bool false, .int .i64 0, .int .i64 0, .int .i64 0, .int .i64 0, .int .i64 0, .int .i64 0, .int .i64 0, .int .i64 0, .int .i64 0, .string ⟨#[]⟩, .int .i64 0, .int .i64 0, .int .i64 0, .int .i64 0, .slice none 0 0, .slice none 0 0, .int .i64 0] 40)).setCells w3.heap.size 0 es = W3 at *
          have hY := hYn
          clear hYn HT
          obtain ⟨y, hLL⟩ : ∃ q, q = w3.heap.size := ⟨_, rfl⟩
          rw [← hLL] at hY ⊢
          have HEy := Lib.hid hLL
          clear hLL
          have c2 := hY.cell he2
          have hpI : (p : Int) < 40 := by omega
          go_upto_region 15 with (fail)
          obtain ⟨tw, htw⟩ : ∃ tw : Int, tw = 100 + (p : Int) - 100 := ⟨_, rfl⟩
          rw [← htw]
          have HTW := Lib.hid (show tw = (p : Int) by omega)
          clear c2 hY htw
          go_wp2_with fail
          refine (ndouble_any (by exact hN) hne (by rw [hL]; omega) hdbl HD.out).mono ?_
          rintro en w4 ⟨rfl, v4, hN4, hk4, hr4⟩
          have hb4 := hk4.below hb hbw hv
          clear hN hb hk4 hr4 hv he2 hM
          obtain ⟨J0, hJ0⟩ : ∃ J0, J0 = List.range q ++ [p] := ⟨_, rfl⟩
          have HSO := Lib.hid (seen_start hpq)
          rw [← hJ0] at hN4 HSO
          have hJl : J0.length = q + 1 := by rw [hJ0]; simp
          have hJl2 : (J0.map wm).length = q + 1 := by rw [List.length_map, hJl]
          clear hJ0 HD hne hL
          go_wp2_with fail
          refine (nlen_any (by exact hN4)).mono ?_
          rintro en w5 ⟨rfl, rfl⟩
          rw [hJl2]
          have hmk := fun W => run_make_row' (P := Tryz.prog) 55 3 (.int .i64 0) 8 Tryz.underlying55 int_info rfl .i64 .i64 q (by omega) (by omega) W
          go_upto_region 18 with (fail)
          have hal := (Below.refl w4.heap.size w4).alloc (Nat.le_refl _) (.cells (madeCells #[.int .i64 0] q) 3)
          have hX : BlkAt (w4.alloc (.cells (madeCells #[.int .i64 0] q) 3)) w4.heap.size 3 (natCells (List.replicate q 0)) := by
            rw [made_ints]
            exact BlkAt.new w4 3 _
          have hXb : w4.heap.size ≠ b := by have := hN4.lt; omega
          have hXw : w.heap.size ≤ w4.heap.size := hb4.size
          have hN := hN4.below hal
          have hb := below_step hb4 hal
          change Code.wp _ _ _ _ (w4.alloc (.cells (madeCells #[.int .i64 0] q) 3))
          generalize w4.alloc (.cells (madeCells #[.int .i64 0] q) 3) = W at *
          generalize w4.heap.size = X at *
          rw [← HTW.out] at HSO
          clear HTW
          clear hmk hal hN4 hb4
          go_wp2_with fail
          go_loopw [13] (fun i wr => ∃ (c : Nat) (v : Value) (J Z : List Nat), i = .int .i64 c ∧ c + J.length = q + 1 ∧ NetAt B wr b v (J.map wm) cs0 c ∧ BlkAt wr X 3 (natCells Z) ∧ SeenOk q tw J Z ∧ Below w.heap.size w wr) (fun i _ => q + 2 - (intOf i).toNat)
          case atStart => exact ⟨0, v4, J0, List.replicate q 0, rfl, by omega, hN, hX, HSO.out, hb⟩
          case round =>
            obtain ⟨c, v, J, Z, rfl, hcJ, hNr, hXr, hSO, hbr⟩ := hrel
            clear hN hX hb HSO hJl hJl2
            have hN := hNr
            have hX := hXr
            have hb := hbr
            clear hNr hXr hbr
            have hv : ∀ j, v.ownBlock = some j → w.heap.size ≤ j := fun j hj => Nat.le_trans hB (hN.row j hj).1
            have hJl3 : (J.map wm).length = J.length := List.length_map ..
            go_wp2_with fail
            refine (nlen_any (by exact hN)).mono ?_
            rintro en w5 ⟨rfl, rfl⟩
            rw [hJl3]
            by_cases hJ : 0 < J.length
            · have hJ' : (0 : Int) < (J.length : Int) := by omega
              by_cases ho : 0 < ol
              · have ho' : (0 : Int) < (ol : Int) := by omega
                obtain ⟨ob, oo, rfl, hob, hoc⟩ := HO.out ho
                obtain ⟨mm, hmm⟩ : ∃ mm, mm = c % ol := ⟨_, rfl⟩
                have hml : mm < ol := by rw [hmm]; exact Nat.mod_lt _ ho
                obtain ⟨x, hx, hxc⟩ := hoc mm hml
                have o1 := (hb.cell (p := ⟨ob, _, none⟩) hob).trans hxc
                have o2 : (c : Int) % (ol : Int) = (mm : Int) := by rw [hmm]; omega
                have o3 : (mm : Int) < (ol : Int) := by omega
                have o4 : IntKind.i64.wrap (x : Int) = (x : Int) := by rw [IntKind.wrap_i64]; omega
                clear hmm hxc hoc
                go_upto_region 24 with (fail)
                clear o1 o2 o3 o4 hml
                obtain ⟨p, hp⟩ : ∃ p, p = placeN (x : Int) (J.map wm).length := ⟨_, rfl⟩
                have hpl : p < J.length := by
                  rw [hp, List.length_map]
                  exact placeN_lt _ (by omega)
                obtain ⟨j, hj⟩ : ∃ j, J[p]? = some j := ⟨_, List.getElem?_eq_getElem hpl⟩
                have hjq : j < q := hSO.mem j (List.mem_of_getElem? hj)
                have hMj : (J.map wm)[placeN (x : Int) (J.map wm).length]? = some (wm j) := by rw [← hp, List.getElem?_map, hj]; rfl
                have hJe : takeN_ (J.map wm) (x : Int) = (J.eraseIdx p).map wm := by
                  unfold takeN_
                  rw [← hp, wm_erase]
                have hJl : (J.eraseIdx p).length = J.length - 1 := by rw [List.length_eraseIdx, if_pos hpl]
                have hZj : ∃ c, Z[j]? = some c ∧ Z.getD j 0 = c := by
                  have hl : j < Z.length := by rw [hSO.len]; exact hjq
                  exact ⟨Z[j], List.getElem?_eq_getElem hl, by simp [List.getD, hl]⟩
                obtain ⟨zc, hz1, hz2⟩ := hZj
                have hstep := Lib.hid (hz2 ▸ seen_step hSO hj)
                have hzm : zc ≤ 2 := by
                  have := hSO.sum j hjq
                  rw [hz2] at this
                  split at this <;> omega
                have hne : J.map wm ≠ [] := by
                  intro e
                  rw [e] at hMj
                  simp at hMj
                clear hp hSO hz2
                go_wp2_with fail
                refine (ntake_any (by exact hN) hne (by rw [List.length_map]; omega) (by omega) (W64.mk (by omega) (by omega)) hMj).mono ?_
                rintro en w4 ⟨u, v4, rfl, hF, hN4, hk4, hq4⟩
                rw [hJe] at hN4
                obtain ⟨es, rfl, hel, heone, he2⟩ := From.parts2 hF rfl
                have he2 : es[2]? = some (.int .i64 (100 + (j : Int))) := he2
                have hX4 := blk_nkept hX hk4 hXb (own_apartN (b := X) (T := 3) (cs := (natCells Z).toArray) (fr := (0, 0)) (by exact hX) hN.2.2.1 (by decide))
                have hb4 := hk4.below hb hbw hv
                clear hN hX hb hk4 hF hMj hv
                have hX := BlkAt.new w4 40 [.int .i64 0, .int .i64 0, .int .i64 0, .int .i64 0, .int .i64 0, .int .i64 0, .int .i64 0, .int .i64 0, .int .i64 0, .int .i64 0, .bool false, .int .i64 0, .int .i64 0, .int .i64 0, .int .i64 0, .int .i64 0, .int .i64 0, .int .i64 0, .int .i64 0, .int .i64 0, .string ⟨#[]⟩, .int .i64 0, .int .i64 0, .int .i64 0, .int .i64 0, .slice none 0 0, .slice none 0 0, .int .i64 0]
                have HL1 := Lib.hid (show es.length = ([.int .i64 0, .int .i64 0, .int .i64 0, .int .i64 0, .int .i64 0, .int .i64 0, .int .i64 0, .int .i64 0, .int .i64 0, .int .i64 0, .bool false, .int .i64 0, .int .i64 0, .int .i64 0, .int .i64 0, .int .i64 0, .int .i64 0, .int .i64 0, .int .i64 0, .int .i64 0, .string ⟨#[]⟩, .int .i64 0, .int .i64 0, .int .i64 0, .int .i64 0, .slice none 0 0, .slice none 0 0, .int .i64 0] : List Value).length by rw [hel]; rfl)
                have b4 := (Below.refl w4.heap.size w4).alloc (Nat.le_refl _) (.cells #[.int .i64 0, .int .i64 0, .int .i64 0, .int .i64 0, .int .i64 0, .int .i64 0, .int .i64 0, .int .i64 0, .int .i64 0, .int .i64 0, .bool false, .int .i64 0, .int .i64 0, .int .i64 0, .int .i64 0, .int .i64 0, .int .i64 0, .int .i64 0, .int .i64 0, .int .i64 0, .string ⟨#[]⟩, .int .i64 0, .int .i64 0, .int .i64 0, .int .i64 0, .slice none 0 0, .slice none 0 0, .int .i64 0] 40)
                have G4 := grown_setCells w4.heap.size es 0 (w4.alloc (.cells #[.int .i64 0, .int .i64 0, .int .i64 0, .int .i64 0, .int .i64 0, .int .i64 0, .int .i64 0, .int .i64 0, .int .i64 0, .int .i64 0, .bool false, .int .i64 0, .int .i64 0, .int .i64 0, .int .i64 0, .int .i64 0, .int .i64 0, .int .i64 0, .int .i64 0, .int .i64 0, .string ⟨#[]⟩, .int .i64 0, .int .i64 0, .int .i64 0, .int .i64 0, .slice none 0 0, .slice none 0 0, .int .i64 0] 40))
                have b5 := b4.grown G4 b4.size (by intro j hj; cases hj; exact Nat.le_refl _)
                have hYn := hX.stored (vs := es) HL1.out
                have HT := Lib.hid (blk_there2 hX HL1.out)
                have hN4n := hN4.below b5
                clear hN4
                have hN4 := hN4n
                clear hN4n
                have hX4n := hX4.below b5
                clear hX4
                have hX4 := hX4n
                clear hX4n
                have hb4n := below_step hb4 b5
                clear hb4
                have hb4 := hb4n
                clear hb4n
                clear hX b4 G4 b5 HL1
                go_upto_region 25 with (first | (refine wpList_store_mid rfl 40 (.tmp 15) (.tmp 88) rfl w4.heap.size 0 es.toArray rfl rfl (by exact HT.out) (by rw [List.size_toArray, hel]; exact msg_info) heone ?_; rw [List.toList_toArray]))
                change Code.wp _ _ _ _ ((w4.alloc (.cells #[.int .i64 0, .int .i64 0, .int .i64 0, .int .i64 0, .int .i64 0, .int .i64 0, .int .i64 0, .int .i64 0, .int .i64 0, .int .i64 0, .bool false, .int .i64 0, .int .i64 0, .int .i64 0, .int .i64 0, .int .i64 0, .int .i64 0, .int .i64 0, .int .i64 0, .int .i64 0, .string ⟨#[]⟩, .int .i64 0, .int .i64 0, .int .i64 0, .int .i64 0, .slice none 0 0, .slice none 0 0, .int .i64 0] 40)).setCells w4.heap.size 0 es)
                generalize (w4.alloc (.cells #[.int .i64 0, .int .i64 0, .int .i64 0, .int .i64 0, .int .i64 0, .int .i64 0, .int .i64 0, .int .i64 0, .int .i64 0, .int .i64 0, .bool false, .int .i64 0, .int .i64 0, .int .i64 0, .int .i64 0, .int .i64 0, .int .i64 0, .int .i64 0, .int .i64 0, .int .i64 0, .string ⟨#[]⟩, .int .i64 0, .int .i64 0, .int .i64 0, .int .i64 0, .slice none 0 0, .slice none 0 0, .int .i64 0] 40)).setCells w4.heap.size 0 es = W4 at *
                have hY := hYn
                clear hYn HT
                obtain ⟨y, hLL⟩ : ∃ q, q = w4.heap.size := ⟨_, rfl⟩
                rw [← hLL] at hY ⊢
                have HEy := Lib.hid hLL
                clear hLL
                have hXl := hX4.lt
                have c2 := hY.cell he2
                have hjlt : (j : Int) < (q : Int) := by omega
                have hidx : (100 : Int) + (j : Int) - 100 = (j : Int) := by omega
                have s1 := hX4.cell (natCells_at hz1)
                have hf := hX4.free j
                have G := grown_setCell W4 X j (.int .i64 ((zc : Int) + 1))
                have HX := Lib.hid (show BlkAt (W4.setCell ⟨X, j, none⟩ (.int .i64 ((zc : Int) + 1))) X 3 (natCells (Z.set j (zc + 1))) by
                  rw [← natCells_set]
                  exact hX4.set j (.int .i64 ((zc : Int) + 1)))
                have HN := Lib.hid (hN4.grown G (by simpa using hXb.symm) (by
                  rcases hov : v4.ownBlock with _ | o
                  · exact .inl rfl
                  · right
                    intro e
                    have := own_apartN (b := X) (T := 3) (cs := (natCells Z).toArray) (fr := (0, 0)) (by exact hX4) hN4.2.2.1 (by decide)
                    rw [hov] at this
                    exact this e.symm))
                have HB := Lib.hid (grown_below hb4 G hXw)
                have HST : Hid (SeenOk q tw (J.eraseIdx p) (Z.set j (zc + 1))) := hstep
                clear hN4 hX4 hb4 G hY hstep he2 hz1
                go_wp2_with fail
                go_roundw
                case rel => exact ⟨c + 1, v4, J.eraseIdx p, Z.set j (zc + 1), by go_num, by omega, HN.out, HX.out, HST.out, HB.out⟩
                case measure => simp [intOf]; omega
              · have ho' : ¬ (0 : Int) < (ol : Int) := by omega
                go_upto_region 24 with (fail)
                obtain ⟨p, hp⟩ : ∃ p, p = placeN 0 (J.map wm).length := ⟨_, rfl⟩
                have hpl : p < J.length := by
                  rw [hp, List.length_map]
                  exact placeN_lt _ (by omega)
                obtain ⟨j, hj⟩ : ∃ j, J[p]? = some j := ⟨_, List.getElem?_eq_getElem hpl⟩
                have hjq : j < q := hSO.mem j (List.mem_of_getElem? hj)
                have hMj : (J.map wm)[placeN 0 (J.map wm).length]? = some (wm j) := by rw [← hp, List.getElem?_map, hj]; rfl
                have hJe : takeN_ (J.map wm) 0 = (J.eraseIdx p).map wm := by
                  unfold takeN_
                  rw [← hp, wm_erase]
                have hJl : (J.eraseIdx p).length = J.length - 1 := by rw [List.length_eraseIdx, if_pos hpl]
                have hZj : ∃ c, Z[j]? = some c ∧ Z.getD j 0 = c := by
                  have hl : j < Z.length := by rw [hSO.len]; exact hjq
                  exact ⟨Z[j], List.getElem?_eq_getElem hl, by simp [List.getD, hl]⟩
                obtain ⟨zc, hz1, hz2⟩ := hZj
                have hstep := Lib.hid (hz2 ▸ seen_step hSO hj)
                have hzm : zc ≤ 2 := by
                  have := hSO.sum j hjq
                  rw [hz2] at this
                  split at this <;> omega
                have hne : J.map wm ≠ [] := by
                  intro e
                  rw [e] at hMj
                  simp at hMj
                clear hp hSO hz2
                go_wp2_with fail
                refine (ntake_any (by exact hN) hne (by rw [List.length_map]; omega) (by omega) (W64.mk (by decide) (by decide)) hMj).mono ?_
                rintro en w4 ⟨u, v4, rfl, hF, hN4, hk4, hq4⟩
                rw [hJe] at hN4
                obtain ⟨es, rfl, hel, heone, he2⟩ := From.parts2 hF rfl
                have he2 : es[2]? = some (.int .i64 (100 + (j : Int))) := he2
                have hX4 := blk_nkept hX hk4 hXb (own_apartN (b := X) (T := 3) (cs := (natCells Z).toArray) (fr := (0, 0)) (by exact hX) hN.2.2.1 (by decide))
                have hb4 := hk4.below hb hbw hv
                clear hN hX hb hk4 hF hMj hv
                have hX := BlkAt.new w4 40 [.int .i64 0, .int .i64 0, .int .i64 0, .int .i64 0, .int .i64 0, .int .i64 0, .int .i64 0, .int .i64 0, .int .i64 0, .int .i64 0, .bool false, .int .i64 0, .int .i64 0, .int .i64 0, .int .i64 0, .int .i64 0, .int .i64 0, .int .i64 0, .int .i64 0, .int .i64 0, .string ⟨#[]⟩, .int .i64 0, .int .i64 0, .int .i64 0, .int .i64 0, .slice none 0 0, .slice none 0 0, .int .i64 0]
                have HL1 := Lib.hid (show es.length = ([.int .i64 0, .int .i64 0, .int .i64 0, .int .i64 0, .int .i64 0, .int .i64 0, .int .i64 0, .int .i64 0, .int .i64 0, .int .i64 0, .bool false, .int .i64 0, .int .i64 0, .int .i64 0, .int .i64 0, .int .i64 0, .int .i64 0, .int .i64 0, .int .i64 0, .int .i64 0, .string ⟨#[]⟩, .int .i64 0, .int .i64 0, .int .i64 0, .int .i64 0, .slice none 0 0, .slice none 0 0, .int .i64 0] : List Value).length by rw [hel]; rfl)
                have b4 := (Below.refl w4.heap.size w4).alloc (Nat.le_refl _) (.cells #[.int .i64 0, .int .i64 0, .int .i64 0, .int .i64 0, .int .i64 0, .int .i64 0, .int .i64 0, .int .i64 0, .int .i64 0, .int .i64 0, .bool false, .int .i64 0, .int .i64 0, .int .i64 0, .int .i64 0, .int .i64 0, .int .i64 0, .int .i64 0, .int .i64 0, .int .i64 0, .string ⟨#[]⟩, .int .i64 0, .int .i64 0, .int .i64 0, .int .i64 0, .slice none 0 0, .slice none 0 0, .int .i64 0] 40)
                have G4 := grown_setCells w4.heap.size es 0 (w4.alloc (.cells #[.int .i64 0, .int .i64 0, .int .i64 0, .int .i64 0, .int .i64 0, .int .i64 0, .int .i64 0, .int .i64 0, .int .i64 0, .int .i64 0, .bool false, .int .i64 0, .int .i64 0, .int .i64 0, .int .i64 0, .int .i64 0, .int .i64 0, .int .i64 0, .int .i64 0, .int .i64 0, .string ⟨#[]⟩, .int .i64 0, .int .i64 0, .int .i64 0, .int .i64 0, .slice none 0 0, .slice none 0 0, .int .i64 0] 40))
                have b5 := b4.grown G4 b4.size (by intro j hj; cases hj; exact Nat.le_refl _)
                have hYn := hX.stored (vs := es) HL1.out
                have HT := Lib.hid (blk_there2 hX HL1.out)
                have hN4n := hN4.below b5
                clear hN4
                have hN4 := hN4n
                clear hN4n
                have hX4n := hX4.below b5
                clear hX4
                have hX4 := hX4n
                clear hX4n
                have hb4n := below_step hb4 b5
                clear hb4
                have hb4 := hb4n
                clear hb4n
                clear hX b4 G4 b5 HL1
                go_upto_region 25 with (first | (refine wpList_store_mid rfl 40 (.tmp 15) (.tmp 88) rfl w4.heap.size 0 es.toArray rfl rfl (by exact HT.out) (by rw [List.size_toArray, hel]; exact msg_info) heone ?_; rw [List.toList_toArray]))
                change Code.wp _ _ _ _ ((w4.alloc (.cells #[.int .i64 0, .int .i64 0, .int .i64 0, .int .i64 0, .int .i64 0, .int .i64 0, .int .i64 0, .int .i64 0, .int .i64 0, .int .i64 0, .bool false, .int .i64 0, .int .i64 0, .int .i64 0, .int .i64 0, .int .i64 0, .int .i64 0, .int .i64 0, .int .i64 0, .int .i64 0, .string ⟨#[]⟩, .int .i64 0, .int .i64 0, .int .i64 0, .int .i64 0, .slice none 0 0, .slice none 0 0, .int .i64 0] 40)).setCells w4.heap.size 0 es)
                generalize (w4.alloc (.cells #[.int .i64 0, .int .i64 0, .int .i64 0, .int .i64 0, .int .i64 0, .int .i64 0, .int .i64 0, .int .i64 0, .int .i64 0, .int .i64 0, .bool false, .int .i64 0, .int .i64 0, .int .i64 0, .int .i64 0, .int .i64 0, .int .i64 0, .int .i64 0, .int .i64 0, .int .i64 0, .string ⟨#[]⟩, .int .i64 0, .int .i64 0, .int .i64 0, .int .i64 0, .slice none 0 0, .slice none 0 0, .int .i64 0] 40)).setCells w4.heap.size 0 es = W4 at *
                have hY := hYn
                clear hYn HT
                obtain ⟨y, hLL⟩ : ∃ q, q = w4.heap.size := ⟨_, rfl⟩
                rw [← hLL] at hY ⊢
                have HEy := Lib.hid hLL
                clear hLL
                have hXl := hX4.lt
                have c2 := hY.cell he2
                have hjlt : (j : Int) < (q : Int) := by omega
                have hidx : (100 : Int) + (j : Int) - 100 = (j : Int) := by omega
                have s1 := hX4.cell (natCells_at hz1)
                have hf := hX4.free j
                have G := grown_setCell W4 X j (.int .i64 ((zc : Int) + 1))
                have HX := Lib.hid (show BlkAt (W4.setCell ⟨X, j, none⟩ (.int .i64 ((zc : Int) + 1))) X 3 (natCells (Z.set j (zc + 1))) by
                  rw [← natCells_set]
                  exact hX4.set j (.int .i64 ((zc : Int) + 1)))
                have HN := Lib.hid (hN4.grown G (by simpa using hXb.symm) (by
                  rcases hov : v4.ownBlock with _ | o
                  · exact .inl rfl
                  · right
                    intro e
                    have := own_apartN (b := X) (T := 3) (cs := (natCells Z).toArray) (fr := (0, 0)) (by exact hX4) hN4.2.2.1 (by decide)
                    rw [hov] at this
                    exact this e.symm))
                have HB := Lib.hid (grown_below hb4 G hXw)
                have HST : Hid (SeenOk q tw (J.eraseIdx p) (Z.set j (zc + 1))) := hstep
                clear hN4 hX4 hb4 G hY hstep he2 hz1
                go_wp2_with fail
                go_roundw
                case rel => exact ⟨c + 1, v4, J.eraseIdx p, Z.set j (zc + 1), by go_num, by omega, HN.out, HX.out, HST.out, HB.out⟩
                case measure => simp [intOf]; omega
            · have hJ' : ¬ (0 : Int) < (J.length : Int) := by omega
              have hJn : J = [] := List.length_eq_zero_iff.1 (by omega)
              subst hJn
              have HEND := Lib.hid fun j (hj : j < q) => seen_end hSO hj
              clear hSO hN hv
              go_wp2_with fail
              go_loopw [117] (fun i wr => ∃ r : Nat, r ≤ q ∧ i = .int .i64 r ∧ BlkAt wr X 3 (natCells Z) ∧ Below w.heap.size w wr) (fun i _ => q - (intOf i).toNat)
              case atStart => exact ⟨0, Nat.zero_le _, rfl, hX, hb⟩
              case round =>
                obtain ⟨r, hr, rfl, hXr, hbr⟩ := hrel
                clear hX hb
                by_cases hlt3 : r < q
                · have hlt4 : (r : Int) < (q : Int) := by omega
                  have s1 := hXr.cell (natCells_at (HEND.out r hlt3))
                  by_cases hrp : (r : Int) = tw
                  · rw [if_pos hrp] at s1
                    have hrp2 : ((r : Int) == tw) = true := by simpa using hrp
                    clear hrp
                    have HX := Lib.hid hXr
                    have HB := Lib.hid hbr
                    clear hXr hbr
                    go_wp2_with fail
                    go_roundw
                    case rel => exact ⟨r + 1, by omega, by go_num, HX.out, HB.out⟩
                    case measure => simp [intOf]; omega
                  · rw [if_neg hrp] at s1
                    have hrp2 : ((r : Int) == tw) = false := by simpa using hrp
                    clear hrp
                    have HX := Lib.hid hXr
                    have HB := Lib.hid hbr
                    clear hXr hbr
                    go_wp2_with fail
                    go_roundw
                    case rel => exact ⟨r + 1, by omega, by go_num, HX.out, HB.out⟩
                    case measure => simp [intOf]; omega
                · have hlt4 : ¬ (r : Int) < (q : Int) := by omega
                  go_wp2_with fail
                  go_ret
                  exact ⟨rfl, hbr⟩
set_option maxRecDepth 100000 in
theorem NetAll_walk {H : Type} {enc : TypeId × Value → H} {base : Nat} {d : DataW H} {p : List MemPlace} (n : Int) (v : Value) (double : Int) (w : World) (hn : W64 n) (hv : Value.okWide Tryz.prog w .any base 54 v) (ht : DataW.Trod enc Tryz.prog w 0 (fun _ => true) true 54 v d p) (hd : W64 double) :
    Calls Tryz.prog 6 #[.int .i64 n, v, .int .i64 double] w fun e w' => e = .returned (.bool true) ∧ Below w.heap.size w w' := by
  obtain ⟨a, ol, cap, rfl, hO⟩ := open_byterow hv ht
  exact NetAll_go hn hd hO


set_option maxRecDepth 100000 in
theorem NetAll_calls (H : Type) (enc : TypeId × Value → H) (W : World) (base : Nat) (args : Array Value) (ds gs : List (DataW H)) (before : List MemPlace)
    (hval : ∀ (j : Nat) t v, Tryz.f6.params[j]? = some t → args[j]? = some v → Value.okWide Tryz.prog W .any base t v)
    (hW : DataW.Whole enc Tryz.prog Tryz.f6.params.toList Rows.netAllSpec.vars false W args.toList ds gs before) :
    Calls Tryz.prog 6 args W fun e W' => e = .returned (.bool true) ∧ Below W.heap.size W W' := by
  obtain ⟨p, q, hA, hV, rfl, hfz, hnd⟩ := hW
  rw [Tryz.params6] at hA hval
  obtain ⟨v0, vs0, d0, ds0, p0, q0, hargs, rfl, rfl, h0, r0⟩ := trodAll_cons hA
  obtain ⟨v1, vs1, d1, ds1, p1, q1, rfl, rfl, rfl, h1, r1⟩ := trodAll_cons r0
  obtain ⟨v2, vs2, d2, ds2, p2, q2, rfl, rfl, rfl, h2, r2⟩ := trodAll_cons r1
  obtain ⟨rfl, rfl, rfl⟩ := trodAll_nil r2
  obtain rfl : args = #[v0, v1, v2] := Array.toList_inj.1 hargs
  obtain ⟨x0, rfl, rfl, rfl, w0⟩ := open_int Tryz.underlying3 (hval 0 3 v0 rfl rfl) h0
  obtain ⟨x2, rfl, rfl, rfl, w2⟩ := open_int Tryz.underlying3 (hval 2 3 v2 rfl rfl) h2
  exact NetAll_walk x0 v1 x2 W w0 (hval 1 54 v1 rfl rfl) h1 w2

set_option maxRecDepth 100000 in
theorem NetAll_lifted (os : Os) (started : os.Started) (H : Type) (enc : TypeId × Value → H) :
    ReturnsInHanded {} Tryz.checked os 6 .any (Rows.netAllSpec.pre6 enc Tryz.prog Tryz.f6 Rows.netAllRow.domain false) (Rows.netAllSpec.post enc Tryz.prog Tryz.f6 false true false false) := by
  refine returnsInHanded_of_change (C := Tryz.checked) own started (by kernel_rfl) Tryz.func6
    (ChangeSpec.witness6 (enc := enc) (C := Tryz.checked) false ⟨#[], #[.int .i64 0, .slice none 0 0, .int .i64 0], []⟩ 8 (by kernel_rfl) (by kernel_rfl) (by kernel_rfl) (by kernel_rfl)) ?_
  intro W base args ds gs before hval0 hW hcnd _
  have hval : ∀ (j : Nat) t v, Tryz.f6.params[j]? = some t → args[j]? = some v → Value.okWide Tryz.prog W .any base t v := hval0
  refine (NetAll_calls H enc W base args ds gs before hval hW).mono fun e W' ⟨he, bel⟩ => ?_
  exact ⟨_, he, law_post (ts := [3, 54, 3]) (by rw [Tryz.params6]) (by intro t ht; simp only [List.mem_cons, List.not_mem_nil, or_false] at ht; rcases ht with rfl | rfl | rfl <;> exact ⟨by kernel_rfl, of_decide_eq_true (by kernel_rfl)⟩) hW rfl
    (fun ds h => by match ds, h with | [_, _, _], _ => rfl) (by kernel_rfl) bel⟩

theorem NetAll_over : Rows.netAllRow.holds Tryz.pinned (OpenSpec.ofChange Rows.netAllSpec) :=
  OpenClaim.holds_of_wide 6 Tryz.f6 rfl rfl rfl rfl rfl rfl rfl ⟨rfl, rfl, rfl, rfl, rfl⟩ rfl rfl rfl rfl rfl (by kernel_rfl) Tryz.func6 (by kernel_rfl)
    (of_decide_eq_true (by kernel_rfl)) (by unfold Func.isWrapper; first | (rw [if_pos (by decide +kernel)]; kernel_rfl) | (rw [if_neg (by decide +kernel)]; exact ⟨rfl, rfl⟩))
    (fun os started H enc _ => NetAll_lifted os started H enc)

/-- The statement. -/
theorem NetAll_proved : Rows.NetAllSaid := NetAll_over

end Go.Proofs.YtnaabaahfjklhaaGreat
