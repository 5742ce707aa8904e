/- The document's Scan: the records of bytes. -/
import Derived.Test.YtoiaigbagfalmaaStScan
import Derived.Deep.RegionHeld3
import Derived.Deep.DeepCutAuto
namespace Go.Proofs.Ytoiaigbagfalmaa
open Go.RowKit Go.ChangeShapes Go.WideShapes Go.Joins Go.Deep
set_option linter.unusedVariables false

theorem i64_wrap64 (x : Int) : IntKind.i64.wrap x = wrap64 x := by rw [IntKind.wrap_i64]; unfold wrap64; omega

set_option maxRecDepth 100000 in
set_option maxHeartbeats 4000000 in
theorem qscan_any (s : List UInt8) (hl : s.length ≤ 900000) (w : World) :
    Calls Try.prog 10 #[.string ⟨s.toArray⟩] w fun e w' => ∃ a cap, e = .returned (.tuple #[.slice a (scanS s).1.length cap, .int .i64 ((scanS s).2 : Nat)]) ∧ StrsO w.heap.size w' (.slice a (scanS s).1.length cap) (scanS s).1 ∧ Below w.heap.size w w' := by
  obtain ⟨i0, hi0, hz0, hz1, hz2⟩ := strs_info
  go_enter Try.func10, Try.ntmps10
  go_wp2_with fail
  go_loopw [4, 5] (fun v i wr => ∃ (L : List (List UInt8)) (g : Nat), g ≤ s.length ∧ L.length ≤ g ∧ i = .int .i64 g ∧ wr.ownsRow w.heap.size 9 1 v L.length (strsCells L) ∧ Below w.heap.size w wr ∧ Aside (scanS s = (L ++ (scanS (s.drop g)).1, g + (scanS (s.drop g)).2))) (fun _ i _ => s.length - (intOf i).toNat)
  case atStart => exact ⟨[], 0, Nat.zero_le _, Nat.zero_le _, rfl, World.ownsRow_nil _ _ _ _, Below.refl _ _, by show scanS s = _; simp⟩
  case round =>
    obtain ⟨L, g, hg, hLg, rfl, hown, hb, HS⟩ := hrel
    obtain ⟨av, cv, rfl⟩ := own_form' hown
    have hdl : (s.drop g).length ≤ 1000000 := by rw [List.length_drop]; omega
    have g0 : (0 : Int) ≤ (g : Int) := by omega
    obtain ⟨t, rest, er, hr⟩ : ∃ t rest er, rdS (s.drop g) 0 1099511627776 = (t, rest, er) := ⟨_, _, _, rfl⟩
    have hlen := rdS_len (s.drop g) 0 1099511627776
    rw [hr] at hlen
    simp only [List.length_drop] at hlen
    obtain ⟨ho1, ho2⟩ := one_ref hdl rfl hr
    have HR := Lib.hid hr
    clear hr
    go_upto_region 4 with (fail)
    have hR0 : RfAt (wr.alloc (.cells #[.string ⟨s.toArray⟩, .int .i64 g, .int .i64 0] 51)) wr.heap.size s g 0 := heap_alloc_new _ _
    have hlt0 := fun j hj => (hown.lt j hj).2
    have hown := own_below' hown ((Below.refl _ _).alloc (Nat.le_refl _) (.cells #[.string ⟨s.toArray⟩, .int .i64 g, .int .i64 0] 51))
    have hb0 := hb.size
    have hb := hb.alloc hb.size (.cells #[.string ⟨s.toArray⟩, .int .i64 g, .int .i64 0] 51)
    change Code.wp _ _ _ _ (wr.alloc (.cells #[.string ⟨s.toArray⟩, .int .i64 g, .int .i64 0] 51))
    generalize wr.alloc (.cells #[.string ⟨s.toArray⟩, .int .i64 g, .int .i64 0] 51) = w0 at *
    generalize wr.heap.size = R at *
    go_wp2_with fail
    refine (qstrr_any (by exact hR0) (by omega) (by omega) (W64.mk (by omega) (by omega))).mono ?_
    rintro e w1 ⟨rfl, ⟨a', ha', hd', hR⟩, hgr⟩
    rw [HR.out] at hd' hR ⊢
    simp only at hd' hR ⊢
    have hrl : rest.length = s.length - a' := by rw [← hd', List.length_drop]
    have hbk : Below w.heap.size w w1 := grown_below hb hgr (by omega)
    have hRne : Hid (some R ≠ Value.ownBlock (.slice av L.length cv)) := fun he => by have := hlt0 R he.symm; omega
    have hown : w1.ownsRow w.heap.size 9 1 (.slice av L.length cv) L.length (strsCells L) := hown.kept hgr (.inr (fun he => hRne.out he.symm))
    clear hgr hb
    have c0 : w1.cell? ⟨R, 0, none⟩ = some (.string ⟨s.toArray⟩) := hR.cell0
    have c1 : w1.cell? ⟨R, 1, none⟩ = some (.int .i64 a') := hR.cell1
    have c2 : w1.cell? ⟨R, 2, none⟩ = some (.int .i64 er) := hR.cell2
    by_cases h0 : er = 0
    · subst h0
      go_upto_region 5 with (fail)
      obtain ⟨m, hm⟩ : ∃ m, m = a' + 4 := ⟨_, rfl⟩
      have HW1 : Hid (wrap64 ((a' : Int) + 4) = (m : Int)) := (IntWalk.wrap64_in _ ⟨by omega, by omega⟩).trans (by omega)
      have HW2 : Hid (IntKind.i64.wrap ((a' : Int) + 4) = (m : Int)) := (i64_wrap64 _).trans HW1.out
      by_cases h4 : 4 ≤ rest.length
      · have hle : ¬ (s.length : Int) < (m : Int) := by omega
        have hgm : (g : Int) ≤ (m : Int) := by omega
        have hms : (m : Int) ≤ (s.length : Int) := by omega
        have hx : (⟨s.toArray⟩ : ByteArray).extract g m = ⟨((s.drop g).take (m - g)).toArray⟩ := by
          have := extract_mid s g (m - g)
          rwa [show g + (m - g) = m by omega] at this
        have hlr : (s.drop g).length - rest.length + 4 = m - g := by rw [List.length_drop]; omega
        rw [hlr] at ho1 ho2
        obtain ⟨q, hq⟩ : ∃ q, (bytesS t == (s.drop g).take (m - g)) = q := ⟨_, rfl⟩
        have hqd : decide (bytesS t = (s.drop g).take (m - g)) = q := by rw [← hq, Bool.eq_iff_iff]; simp
        rw [hqd, decide_eq_true h4] at ho1
        have ho1 : (oneS (s.drop g)).2.2 = q := by rw [ho1]; simp
        have HO1 := Lib.hid ho1
        have HO2 := Lib.hid ho2
        have HRL := Lib.hid hrl
        have HM := Lib.hid hm
        have HLT := Lib.hid hlen
        have ht9 : t.length ≤ 900000 := by omega
        clear ho1 ho2 hrl hm hlr hqd hlt0 hlen hd'
        generalize (s.drop g).take (m - g) = Y at *
        have hw2 := HW2.out
        go_region_held3 (fun w' => w'.cell? ⟨R, 1, none⟩ = some (.int .i64 a') ∧ w'.cell? ⟨R, 2, none⟩ = some (.int .i64 0))
          (first | exact ⟨c1, c2⟩ | go_keep)
          ((go_at_call 25; refine (qbytes_any t ht9 _).mono ?_; rintro en w2 ⟨rfl, b2⟩; have hR := RfAt.below (by exact hR) b2; have hown : w2.ownsRow w.heap.size 9 1 (.slice av L.length cv) L.length (strsCells L) := own_below' (w := w1.drew) (by exact hown.drew) b2; have hbk : Below w.heap.size w w2 := below_step (by exact hbk.drew) b2; have c1 : w2.cell? ⟨R, 1, none⟩ = some (.int .i64 a') := hR.cell1; have c2 : w2.cell? ⟨R, 2, none⟩ = some (.int .i64 0) := hR.cell2; clear b2))
        cases q with
        | false =>
          have HE := Lib.hid (scan_end HS.out HO1.out)
          have hv : StrsO w.heap.size _ (.slice av L.length cv) L := hown
          go_wp2_with fail
          go_ret2
          refine ⟨av, cv, ?_, ?_, hbk⟩
          · rw [HE.out]; rfl
          · rw [HE.out]; exact hv
        | true =>
          have HE := scan_go HS.out HO1.out
          obtain ⟨e1, e2⟩ := HO2.out HO1.out
          have hmg : g + (m - g) = m := by have := HM.out; omega
          rw [e1, e2, hmg] at HE
          have HE := Lib.hid HE
          have hml : m ≤ s.length := by omega
          have hgm5 : g + 4 ≤ m := by have := HM.out; have := HRL.out; have := HLT.out; omega
          clear e1 e2 hmg
          go_wp2_with (at_builtin; refine wpList_append_lies _ rfl (.tmp 44) (.tmp 46) 23 rfl w.heap.size 9 i0 _ 1 16 Try.underlying23 hi0 hz0 hz1 hz2 rfl (by omega) _ _ _ rfl (hown.alloc _) ⟨w2.heap.size, 0, none⟩ 1 1 [.string ⟨t.toArray⟩] rfl rfl ?c1 ?c2 (by omega) ?c3 ?c4 ?c5 (w2.heap.size + 1) (by simp) ?_)
          case c1 => first | exact World.news_of_block (heap_alloc_new _ _) | exact fun _ _ h => h
          case c2 => intro u hu; simp at hu; rcases hu with rfl; rfl
          case c3 => unfold maxLen; omega
          case c4 => omega
          case c5 => have := hbk.size; first | omega | (simp; omega)
          intro g' cap' w' hown' hg' hat' hlt'
          have hb2 : Below w.heap.size w w' := (hbk.alloc hbk.size _).grown hg' (by have := hbk.size; simp; omega) (fun j hj => by have := (hown.lt j hj).1; omega)
          have hR2 : RfAt w' R s a' 0 := (hg'.block R (by have := hR.lt; simp; omega) hRne.out).trans (RfAt.below hR ((Below.refl _ _).alloc (Nat.le_refl _) _))
          have d1 : w'.cell? ⟨R, 1, none⟩ = some (.int .i64 a') := hR2.cell1
          have HO := Lib.hid hown'
          have HB := Lib.hid hb2
          have hw1 := HW1.out
          clear hown' hb2 hlt' hg' hat' hw2 c1 c2 hown hbk
          go_wp2_with fail
          clear hw1
          go_roundw
          case rel => exact ⟨L ++ [t], m, hml, by simp; omega, by rw [HM.out]; simp, by rw [strsCells_snoc, List.length_append]; exact HO.out, HB.out, HE.out⟩
          case measure => have hm := HM.out; simp [intOf]; omega
      · have hgt : (s.length : Int) < (m : Int) := by omega
        have ho : (oneS (s.drop g)).2.2 = false := by rw [ho1, decide_eq_false h4, Bool.false_and, Bool.and_false]
        have HE := Lib.hid (scan_end HS.out ho)
        have hv : StrsO w.heap.size _ (.slice av L.length cv) L := hown
        have HM := Lib.hid hm
        clear ho1 ho2 ho hown hm hrl hlen hlt0
        have hw2 := HW2.out
        go_quiet (fail)
        have hbk := below_drewN hbk nq
        have hv := hv.drewN nq
        generalize w1.drewN nq = w2 at *
        go_wp2_with fail
        go_ret2
        refine ⟨av, cv, ?_, ?_, hbk⟩
        · rw [HE.out]; rfl
        · rw [HE.out]; exact hv
    · have h0' : (er != 0) = true := by simpa using h0
      have ho : (oneS (s.drop g)).2.2 = false := by rw [ho1, decide_eq_false h0]; rfl
      have HE := Lib.hid (scan_end HS.out ho)
      have hv : StrsO w.heap.size _ (.slice av L.length cv) L := hown
      clear ho1 ho2 ho hown hrl hlen hlt0
      go_wp2_with fail
      go_quiet (fail)
      have hbk := below_drewN hbk nq
      have hv := hv.drewN nq
      generalize w1.drewN nq = w2 at *
      go_wp2_with fail
      go_ret2
      refine ⟨av, cv, ?_, ?_, hbk⟩
      · rw [HE.out]; rfl
      · rw [HE.out]; exact hv
end Go.Proofs.Ytoiaigbagfalmaa
