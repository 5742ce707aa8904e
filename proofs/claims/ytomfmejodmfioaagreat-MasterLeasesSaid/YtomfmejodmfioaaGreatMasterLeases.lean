/- MasterLeases: for every setup and script the law answers true. No condition. -/
import Derived.Test.YtomfmejodmfioaaGreatMstCount
import Derived.Test.YtomfmejodmfioaaGreatMstRLives
import Derived.Test.YtomfmejodmfioaaGreatMstLeaseP
import Derived.Test.YtomfmejodmfioaaGreatWun
import Derived.Deep.DeepCutAuto
namespace Go.Proofs.YtomfmejodmfioaaGreat
open Go.RowKit Go.Maps Go.ChangeShapes Go.WideShapes Go.Joins Go.Deep
set_option linter.unusedVariables false

/-- Amid the script: the map um tells until when leases are, the row lw the lives. -/
def AmidL (w wr : World) (B p : Nat) (s : SetV) (k um lw sb : Nat) : Prop :=
  ∃ V l cs now bs U La, PlyAt w wr B p s (100 + 1100000 * k) V l cs now bs ∧ 0 ≤ now ∧ now ≤ s.base + 10 * k ∧ um ∉ bs ∧ w.heap.size ≤ um ∧ MapM wr um (100 * k) (sinceV U) ∧ BlkAt wr lw 31 (ints La) ∧ La.length = 8 ∧ w.heap.size ≤ lw ∧ BlkAt wr sb 23 (setC7 s) ∧ LawU s V now U ∧ LawL V La
theorem PlyAt.otherC {w0 w w' : World} {B p N : Nat} {s : SetV} {V : MstV} {l : List UInt8} {cs : List ConfV} {now : Int} {bs : List Nat} (h : PlyAt w0 w B p s N V l cs now bs) {j : Nat} {T : TypeId} (hg : w.grownBy w' (some j)) (hj : IsCells w j T) (h1 : T ≠ 87) (h2 : T ≠ 114) (h3 : T ≠ 144) (h4 : T ≠ 5) (h5 : T ≠ 49) (h6 : T ≠ 39) (hw : w0.heap.size ≤ j) : PlyAt w0 w' B p s N V l cs now bs := by
  obtain ⟨x, b, e, hX, hO⟩ := h.own
  exact ⟨⟨x, b, e, hX.grown hg (cells_ne hX.kind hj (Ne.symm h6)), hO.mst.other hg (fun i e => by cases e; exact hj) h1 h2 h3 h4 h5, hO.below.grown hg hO.below.size (fun i e => by cases e; exact hw), hO.base, hO.loc⟩, h.inv, h.new⟩
theorem MsgsS.otherMap {B : Nat} {w w' : World} {v : Value} {L : List (Int × Int)} {c : ConfV} (h : MsgsS B w v L c) {j : Nat} (hg : w.grownBy w' (some j)) (hj : IsMapB w j) : MsgsS B w' v L c := by
  obtain ⟨css, h1, h2, h3⟩ := h
  have hk := own_kindM h2
  refine ⟨css, h1, World.ownsRow.kept h2 hg ?_, fun i m cs hi hc => ?_⟩
  · cases hv : v.ownBlock with
    | none => exact .inl rfl
    | some q => exact .inr (fun e => by
        injection e with e
        exact cells_ne_map (hk q hv) hj e)
  · obtain ⟨A, cap, h4, h5⟩ := h3 i m cs hi hc
    exact ⟨A, cap, h4, ChainS.otherMap h5 hg hj⟩
theorem MsgsS.otherC {B : Nat} {w w' : World} {v : Value} {L : List (Int × Int)} {c : ConfV} (h : MsgsS B w v L c) {j : Nat} {T : TypeId} (hg : w.grownBy w' (some j)) (hj : IsCells w j T) (h1 : T ≠ 58) (h2 : T ≠ 49) : MsgsS B w' v L c := by
  obtain ⟨css, h3, h4, h5⟩ := h
  have hk := own_kindM h4
  refine ⟨css, h3, World.ownsRow.kept h4 hg ?_, fun i m cs hi hc => ?_⟩
  · cases hv : v.ownBlock with
    | none => exact .inl rfl
    | some q => exact .inr (fun e => by
        injection e with e
        exact cells_ne (hk q hv) hj (Ne.symm h1) e)
  · obtain ⟨A, cap, h6, h7⟩ := h5 i m cs hi hc
    exact ⟨A, cap, h6, ChainAt.grownS h7 hg (cells_not hj (Ne.symm h2))⟩
set_option maxRecDepth 100000 in
set_option maxHeartbeats 32000000 in

theorem MasterLeases_go {w : World} {s : SetV} {a : Option Addr} {S : List MopV} {cap : Nat} (hS : MopsAt w a S) :
    Calls Tryz.prog 3 #[.agg (setC7 s).toArray, .slice a S.length cap] w fun e w' => e = .returned (.bool true) ∧ Below w.heap.size w w' := by
  have hsb := BlkAt.new w 23 (setC7 s)
  have hb := (Below.refl w.heap.size w).alloc (Nat.le_refl _) (.cells (setC7 s).toArray 23)
  go_enter Tryz.func3, Tryz.ntmps3
  go_upto_region 1 with (fail)
  change Code.wp _ _ _ _ (w.alloc (.cells (setC7 s).toArray 23))
  change BlkAt (w.alloc (.cells (setC7 s).toArray 23)) _ _ _ at hsb
  generalize (w.alloc (.cells (setC7 s).toArray 23)) = W at *
  obtain ⟨sb, hsbd⟩ : ∃ sb, sb = w.heap.size := ⟨_, rfl⟩
  rw [← hsbd] at hsb ⊢
  clear hsbd
  have hlenS := hS.1
  unfold maxLen at hlenS
  have HS := Lib.hid hS
  clear hS
  go_wp2_with fail
  refine (awake15_any _).mono ?_
  rintro en w2 ⟨rfl, b2⟩
  replace hsb := hsb.below b2
  replace hb := below_step hb b2
  clear b2
  have q0 : w2.cell? ⟨sb, 0, none⟩ = some (.int .i64 s.nodes) := hsb.cell rfl
  have q1 : w2.cell? ⟨sb, 1, none⟩ = some (.int .i64 s.clients) := hsb.cell rfl
  have q2 : w2.cell? ⟨sb, 2, none⟩ = some (.int .i64 s.timers) := hsb.cell rfl
  have q3 : w2.cell? ⟨sb, 3, none⟩ = some (.int .i64 s.lease) := hsb.cell rfl
  have q4 : w2.cell? ⟨sb, 4, none⟩ = some (.int .i64 s.suspect) := hsb.cell rfl
  have q5 : w2.cell? ⟨sb, 5, none⟩ = some (.int .i64 s.skew) := hsb.cell rfl
  have q6 : w2.cell? ⟨sb, 6, none⟩ = some (.int .i64 s.base) := hsb.cell rfl
  go_wp2_with fail
  refine (rmay_any s _).mono ?_
  rintro en w3 ⟨rfl, b3⟩
  clear q0 q1 q2 q3 q4 q5 q6
  replace hsb := hsb.below b3
  replace hb := below_step hb b3
  clear b3
  have q0 : w3.cell? ⟨sb, 0, none⟩ = some (.int .i64 s.nodes) := hsb.cell rfl
  have q1 : w3.cell? ⟨sb, 1, none⟩ = some (.int .i64 s.clients) := hsb.cell rfl
  have q2 : w3.cell? ⟨sb, 2, none⟩ = some (.int .i64 s.timers) := hsb.cell rfl
  have q3 : w3.cell? ⟨sb, 3, none⟩ = some (.int .i64 s.lease) := hsb.cell rfl
  have q4 : w3.cell? ⟨sb, 4, none⟩ = some (.int .i64 s.suspect) := hsb.cell rfl
  have q5 : w3.cell? ⟨sb, 5, none⟩ = some (.int .i64 s.skew) := hsb.cell rfl
  have q6 : w3.cell? ⟨sb, 6, none⟩ = some (.int .i64 s.base) := hsb.cell rfl
  by_cases hgo : mayS s = true ∧ s.base ≤ 549755813888 ∧ S.length ≤ 200
  case neg =>
    have HGO := Lib.hid hgo
    clear hgo
    cases hmay : mayS s with
    | false =>
      go_wp2_with fail
      refine (awake15_any _).mono ?_
      rintro en w9 ⟨rfl, b9⟩

      replace hb := below_step hb b9
      clear b9
      go_wp2_with fail
      go_ret
      exact ⟨rfl, hb⟩
    | true =>
      by_cases hbase : 549755813888 < s.base
      · skip
        go_wp2_with fail
        refine (awake15_any _).mono ?_
        rintro en w9 ⟨rfl, b9⟩

        replace hb := below_step hb b9
        clear b9
        go_wp2_with fail
        go_ret
        exact ⟨rfl, hb⟩
      · have hlim : 200 < S.length := by
          rcases Nat.lt_or_ge 200 S.length with h | h
          · exact h
          · exact absurd ⟨hmay, by omega, h⟩ HGO.out
        have hlim' : (200 : Int) < (S.length : Int) := by omega
        go_wp2_with fail
        refine (awake15_any _).mono ?_
        rintro en w9 ⟨rfl, b9⟩

        replace hb := below_step hb b9
        clear b9
        go_wp2_with fail
        go_ret
        exact ⟨rfl, hb⟩
  obtain ⟨hmay, hbase, hlim⟩ := hgo
  have hbase' : ¬ 549755813888 < s.base := by omega
  have hlim' : ¬ (200 : Int) < (S.length : Int) := by omega
  rw [hmay]
  have hset := hmay
  have hb0 : 0 ≤ s.base := by
    unfold mayS at hset
    rw [decide_eq_true_eq] at hset
    exact hset.2.2.2.2.2.2.2.2.2.2.2.2.1
  go_wp2_with fail
  refine (made15_any hset _).mono ?_
  rintro en w4 ⟨B, p, bs, rfl, hP0⟩
  have hP := hP0.over hb
  have hSB := hsb.below hP0.low
  have HSET := Lib.hid hset
  have HB34 := Lib.hid hb
  clear hP0 hb hsb hmay hset q0 q1 q2 q3 q4 q5 q6 hbase' hlim'
  have hset := HSET.out
  unfold mayS at hset
  rw [decide_eq_true_eq] at hset
  obtain ⟨hsn1, hsn8, _, _, _, _, hsl1, hsl2, _⟩ := hset
  have hlife : ∀ (n : Nat), (beginM s (firstC s.nodes).1 s.base).life n = ((beginL (firstC s.nodes).1.chain)[n]?).getD 0 := fun n => by
    unfold MstV.life
    rw [Int.toNat_natCast]
    rfl
  have HU0 : Hid (LawU s (beginM s (firstC s.nodes).1 s.base) s.base (fun _ _ => none)) := Lib.hid (fun n lf => by
    show (0 : Int) ≤ max 0 0 ∧ (0 : Int) ≤ s.base + s.lease
    exact ⟨by omega, by omega⟩)
  have HL0 : Hid (LawL (beginM s (firstC s.nodes).1 s.base) (beginL (firstC s.nodes).1.chain)) := Lib.hid (fun n hn => by rw [hlife n]; exact Int.le_refl _)
  clear hlife
  obtain ⟨V, l, cs, hcf, HU, HL, hP⟩ : ∃ V l cs, V.cf.chain = (firstC s.nodes).1.chain ∧ Hid (LawU s V s.base (fun _ _ => none)) ∧ Hid (LawL V (beginL V.cf.chain)) ∧ PlyAt w w4 B p s 100 V l cs s.base bs := ⟨_, _, _, rfl, HU0, HL0, hP⟩
  clear HU0 HL0 hcf
  have hmm := @run_makeMap Tryz.prog
  have hum : w4.heap.size ∉ bs := fun h => by
    obtain ⟨x, b, rfl, _, hO⟩ := hP.own
    exact Nat.lt_irrefl _ (hO.mst.blocks _ h)
  have huw := hP.low.size
  have hMU : MapM (w4.alloc (.map #[] 0)) w4.heap.size 0 (sinceV fun _ _ => none) := MapM.made w4
  have bm := (Below.refl w4.heap.size w4).alloc (Nat.le_refl _) (.map #[] 0)
  replace hP := hP.below bm
  replace hSB := hSB.below bm
  clear bm
  go_upto_region 7 with (fail)
  change Code.wp _ _ _ _ (w4.alloc (.map #[] 0))
  generalize w4.alloc (.map #[] 0) = w5 at *
  obtain ⟨um, humd⟩ : ∃ um, um = w4.heap.size := ⟨_, rfl⟩
  rw [← humd] at hMU hum huw ⊢
  clear humd hmm
  obtain ⟨x, b, hbs, hX, hO⟩ := hP.own
  have c8 : w5.cell? ⟨p, 8, none⟩ = some (.pointer (some ⟨x, 0, none⟩)) := hX.cell rfl
  have hrt := hP.inv.right
  go_wp2_with fail
  refine (mconfig_any (by exact hO.mst)).mono ?_
  rintro en w6 ⟨A, cap5, rfl, hC, b6⟩
  replace hP := hP.below b6
  replace hMU := hMU.below b6
  replace hSB := hSB.below b6
  clear c8 hX hO hbs
  go_wp2_with fail
  refine (rlives_any hrt (by exact hC)).mono ?_
  rintro en w7 ⟨rfl, b7⟩
  replace hP := hP.below b7
  replace hMU := hMU.below b7
  replace hSB := hSB.below b7
  clear hC hrt
  have hb := Below.refl w7.heap.size w7
  have hll := beginL_len V.cf.chain
  generalize beginL V.cf.chain = La at *
  obtain ⟨ds, hds⟩ : ∃ ds, ds = ints La := ⟨_, rfl⟩
  have hlen : ds.length = 8 := by rw [hds, ints_len, hll]
  have hone : ds.toArray.all (·.oneCell') = true := by rw [hds]; exact ints_one _
  rw [← hds]
  have HDS := Lib.hid hds
  clear hds
  have hw7 := hP.low.size
  have hX := BlkAt.new w7 31 [.int .i64 0, .int .i64 0, .int .i64 0, .int .i64 0, .int .i64 0, .int .i64 0, .int .i64 0, .int .i64 0]
  have HL1 := Lib.hid (show ds.length = ([.int .i64 0, .int .i64 0, .int .i64 0, .int .i64 0, .int .i64 0, .int .i64 0, .int .i64 0, .int .i64 0] : List Value).length by rw [hlen]; rfl)
  have b4 := (Below.refl w7.heap.size w7).alloc (Nat.le_refl _) (.cells #[.int .i64 0, .int .i64 0, .int .i64 0, .int .i64 0, .int .i64 0, .int .i64 0, .int .i64 0, .int .i64 0] 31)
  have G4 := grown_setCells w7.heap.size ds 0 (w7.alloc (.cells #[.int .i64 0, .int .i64 0, .int .i64 0, .int .i64 0, .int .i64 0, .int .i64 0, .int .i64 0, .int .i64 0] 31))
  have b5 := b4.grown G4 b4.size (by intro j hj; cases hj; exact Nat.le_refl _)
  have hLWn := hX.stored (vs := ds) HL1.out
  have HT := Lib.hid (mblk_there2 hX HL1.out)
  have hPn := hP.below b5
  clear hP
  have hP := hPn
  clear hPn
  have hMUn := hMU.below b5
  clear hMU
  have hMU := hMUn
  clear hMUn
  have hSBn := hSB.below b5
  clear hSB
  have hSB := hSBn
  clear hSBn
  have hbn := below_step hb b5
  clear hb
  have hb := hbn
  clear hbn
  clear hX b4 G4 b5 HL1
  go_upto_region 8 with (first | (refine wpList_store_mid rfl 31 (.tmp 8) (.tmp 53) rfl w7.heap.size 0 ds.toArray rfl rfl (by exact HT.out) (by rw [List.size_toArray, hlen]; exact arr8_info) hone ?_; rw [List.toList_toArray]))
  change Code.wp _ _ _ _ ((w7.alloc (.cells #[.int .i64 0, .int .i64 0, .int .i64 0, .int .i64 0, .int .i64 0, .int .i64 0, .int .i64 0, .int .i64 0] 31)).setCells w7.heap.size 0 ds)
  generalize (w7.alloc (.cells #[.int .i64 0, .int .i64 0, .int .i64 0, .int .i64 0, .int .i64 0, .int .i64 0, .int .i64 0, .int .i64 0] 31)).setCells w7.heap.size 0 ds = w8 at *
  have hLW := hLWn
  clear hLWn HT
  obtain ⟨lw, hLL⟩ : ∃ q, q = w7.heap.size := ⟨_, rfl⟩
  rw [← hLL] at hLW ⊢
  have HElw := Lib.hid hLL
  clear hLL
  have hlw0 : w.heap.size ≤ lw := by
    rw [HElw.out]
    exact hw7
  rw [HDS.out] at hLW
  have hA : AmidL w w8 B p s 0 um lw sb := ⟨V, l, cs, s.base, bs, _, La, hP, hb0, by omega, hum, huw, hMU, hLW, hll, hlw0, hSB, HU.out, HL.out⟩
  clear hP hMU hSB hLW hll hlw0 HU HL hb hw7 hlen hone HDS HElw hum huw
  go_wp2_with fail
  go_loopw [56] (fun i wr => ∃ k : Nat, k ≤ S.length ∧ i = .int .i64 k ∧ AmidL w wr B p s k um lw sb) (fun i _ => S.length - (intOf i).toNat)
  case atStart => exact ⟨0, Nat.zero_le _, rfl, hA⟩
  case round =>
    obtain ⟨k, hk, rfl, hAr⟩ := hrel
    clear hA
    obtain ⟨V, l, cs, now, bs, U, La, hP, hn0, hn1, hum, huw, hMU, hLW, hll, hlw0, hSB, hU, hL⟩ := hAr
    have HU := Lib.hid hU
    have HL := Lib.hid hL
    clear hU hL
    by_cases hlt : k < S.length
    · skip
      obtain ⟨sB, soff, rfl, sab, hc⟩ := HS.out.2.2 (by omega)
      obtain ⟨o, ho⟩ : ∃ o, S[k]? = some o := ⟨_, List.getElem?_eq_getElem hlt⟩
      have hop : MopOk o := HS.out.2.1 o (List.mem_of_getElem? ho)
      have hat := (hc k o ho).of (w' := wr) fun j => hP.low.cell (p := ⟨sB, j, none⟩) sab
      obtain ⟨kd, d0, e0, kp, nd, lf, fl⟩ := o
      have t0 : wr.cell? ⟨sB, soff + k * 7, none⟩ = some (.int .i64 kd) := hat 0 _ rfl
      have t1 : wr.cell? ⟨sB, soff + k * 7 + 1, none⟩ = some (.int .i64 d0) := hat 1 _ rfl
      have t2 : wr.cell? ⟨sB, soff + k * 7 + 2, none⟩ = some (.int .i64 e0) := hat 2 _ rfl
      have t3 : wr.cell? ⟨sB, soff + k * 7 + 3, none⟩ = some (.int .i64 kp) := hat 3 _ rfl
      have t4 : wr.cell? ⟨sB, soff + k * 7 + 4, none⟩ = some (.int .i64 nd) := hat 4 _ rfl
      have t5 : wr.cell? ⟨sB, soff + k * 7 + 5, none⟩ = some (.int .i64 lf) := hat 5 _ rfl
      have t6 : wr.cell? ⟨sB, soff + k * 7 + 6, none⟩ = some (.bool fl) := hat 6 _ rfl
      have HO := Lib.hid ho
      have HOP := Lib.hid hop
      clear hat hc ho hop
      have hb := Below.refl wr.heap.size wr
      go_upto_region 11 with (fail)
      have hT := BlkAt.new wr 44 [.int .i64 kd, .int .i64 d0, .int .i64 e0, .int .i64 kp, .int .i64 nd, .int .i64 lf, .bool fl]
      replace hP := hP.below ((Below.refl _ _).alloc (Nat.le_refl _) (.cells #[.int .i64 kd, .int .i64 d0, .int .i64 e0, .int .i64 kp, .int .i64 nd, .int .i64 lf, .bool fl] 44))
      replace hMU := hMU.below ((Below.refl _ _).alloc (Nat.le_refl _) (.cells #[.int .i64 kd, .int .i64 d0, .int .i64 e0, .int .i64 kp, .int .i64 nd, .int .i64 lf, .bool fl] 44))
      replace hLW := hLW.below ((Below.refl _ _).alloc (Nat.le_refl _) (.cells #[.int .i64 kd, .int .i64 d0, .int .i64 e0, .int .i64 kp, .int .i64 nd, .int .i64 lf, .bool fl] 44))
      replace hSB := hSB.below ((Below.refl _ _).alloc (Nat.le_refl _) (.cells #[.int .i64 kd, .int .i64 d0, .int .i64 e0, .int .i64 kp, .int .i64 nd, .int .i64 lf, .bool fl] 44))
      replace hb := hb.alloc hb.size (.cells #[.int .i64 kd, .int .i64 d0, .int .i64 e0, .int .i64 kp, .int .i64 nd, .int .i64 lf, .bool fl] 44)
      change Code.wp _ _ _ _ (wr.alloc (.cells #[.int .i64 kd, .int .i64 d0, .int .i64 e0, .int .i64 kp, .int .i64 nd, .int .i64 lf, .bool fl] 44))
      change BlkAt (wr.alloc (.cells #[.int .i64 kd, .int .i64 d0, .int .i64 e0, .int .i64 kp, .int .i64 nd, .int .i64 lf, .bool fl] 44)) _ _ _ at hT
      have hTn := (show wr.heap.size ≤ wr.heap.size from Nat.le_refl _)
      generalize wr.alloc (.cells #[.int .i64 kd, .int .i64 d0, .int .i64 e0, .int .i64 kp, .int .i64 nd, .int .i64 lf, .bool fl] 44) = w5 at *
      generalize wr.heap.size = T at hT ⊢
      clear hTn
      clear t0 t1 t2 t3 t4 t5 t6
      have t0 : w5.cell? ⟨T, 0, none⟩ = some (.int .i64 kd) := hT.cell rfl
      have t1 : w5.cell? ⟨T, 1, none⟩ = some (.int .i64 d0) := hT.cell rfl
      have t2 : w5.cell? ⟨T, 2, none⟩ = some (.int .i64 e0) := hT.cell rfl
      have t3 : w5.cell? ⟨T, 3, none⟩ = some (.int .i64 kp) := hT.cell rfl
      have t4 : w5.cell? ⟨T, 4, none⟩ = some (.int .i64 nd) := hT.cell rfl
      have t5 : w5.cell? ⟨T, 5, none⟩ = some (.int .i64 lf) := hT.cell rfl
      have t6 : w5.cell? ⟨T, 6, none⟩ = some (.bool fl) := hT.cell rfl
      clear t0 t1 t2 t3 t4 t5 t6 hb
      obtain ⟨x, b, hbs, hX, hO⟩ := hP.own
      have c8 : w5.cell? ⟨p, 8, none⟩ = some (.pointer (some ⟨x, 0, none⟩)) := hX.cell rfl
      have HLV := Lib.hid hO.mst.ok.len
      go_wp2_with fail
      refine (mconfig_any (by exact hO.mst)).mono ?_
      rintro en w6 ⟨A, cap5, rfl, hC, hb⟩
      replace hP := hP.below hb
      replace hT := hT.below hb
      replace hMU := hMU.below hb
      replace hLW := hLW.below hb
      replace hSB := hSB.below hb
      clear c8 hX hO hbs
      go_upto_region 12 with (fail)
      have hZ1 := BlkAt.new w6 35 [.int .i64 V.cf.epoch, .slice A V.cf.chain.length cap5]
      replace hP := hP.below ((Below.refl _ _).alloc (Nat.le_refl _) (.cells #[.int .i64 V.cf.epoch, .slice A V.cf.chain.length cap5] 35))
      replace hT := hT.below ((Below.refl _ _).alloc (Nat.le_refl _) (.cells #[.int .i64 V.cf.epoch, .slice A V.cf.chain.length cap5] 35))
      replace hC := hC.below ((Below.refl _ _).alloc (Nat.le_refl _) (.cells #[.int .i64 V.cf.epoch, .slice A V.cf.chain.length cap5] 35))
      replace hMU := hMU.below ((Below.refl _ _).alloc (Nat.le_refl _) (.cells #[.int .i64 V.cf.epoch, .slice A V.cf.chain.length cap5] 35))
      replace hLW := hLW.below ((Below.refl _ _).alloc (Nat.le_refl _) (.cells #[.int .i64 V.cf.epoch, .slice A V.cf.chain.length cap5] 35))
      replace hSB := hSB.below ((Below.refl _ _).alloc (Nat.le_refl _) (.cells #[.int .i64 V.cf.epoch, .slice A V.cf.chain.length cap5] 35))
      replace hb := hb.alloc hb.size (.cells #[.int .i64 V.cf.epoch, .slice A V.cf.chain.length cap5] 35)
      change Code.wp _ _ _ _ (w6.alloc (.cells #[.int .i64 V.cf.epoch, .slice A V.cf.chain.length cap5] 35))
      change BlkAt (w6.alloc (.cells #[.int .i64 V.cf.epoch, .slice A V.cf.chain.length cap5] 35)) _ _ _ at hZ1
      have hZ1n := (show w6.heap.size ≤ w6.heap.size from Nat.le_refl _)
      generalize w6.alloc (.cells #[.int .i64 V.cf.epoch, .slice A V.cf.chain.length cap5] 35) = w7 at *
      generalize w6.heap.size = Z1 at hZ1 ⊢
      clear hZ1n
      clear hb
      obtain ⟨q, hq⟩ : ∃ q : Bool, q = decide (kd = 1 ∧ 0 ≤ nd ∧ nd < s.nodes) := ⟨_, rfl⟩
      have HQ := Lib.hid hq
      clear hq
      have HKP := Lib.hid (show PlyAt w w7 B p s (100 + 1100000 * k) V l cs now bs from hP)
      have sn : w7.cell? ⟨sb, 0, none⟩ = some (.int .i64 s.nodes) := hSB.cell rfl
      have t0 : w7.cell? ⟨T, 0, none⟩ = some (.int .i64 kd) := hT.cell rfl
      have t1 : w7.cell? ⟨T, 1, none⟩ = some (.int .i64 d0) := hT.cell rfl
      have t2 : w7.cell? ⟨T, 2, none⟩ = some (.int .i64 e0) := hT.cell rfl
      have t3 : w7.cell? ⟨T, 3, none⟩ = some (.int .i64 kp) := hT.cell rfl
      have t4 : w7.cell? ⟨T, 4, none⟩ = some (.int .i64 nd) := hT.cell rfl
      have t5 : w7.cell? ⟨T, 5, none⟩ = some (.int .i64 lf) := hT.cell rfl
      have t6 : w7.cell? ⟨T, 6, none⟩ = some (.bool fl) := hT.cell rfl
      go_cut [81] (fun sv wx => sv = .bool q ∧ wx = w7)
      case first =>
        as_aux_lemma =>
          clear hP hT hMU hLW hSB hC hZ1
          by_cases h1 : kd = 1
          · subst h1
            by_cases h2 : 0 ≤ nd
            · by_cases h3 : nd < s.nodes
              · go_wp2_with fail
                go_meet
                exact ⟨congrArg Value.bool (by rw [HQ.out]; exact (decide_eq_true (by refine ⟨?_, ?_, ?_⟩ <;> first | trivial | omega)).symm), rfl⟩
              · go_wp2_with fail
                go_meet
                exact ⟨congrArg Value.bool (by rw [HQ.out]; exact (decide_eq_false (by rintro ⟨g1, g2, g3⟩; omega)).symm), rfl⟩
            · go_wp2_with fail
              go_meet
              exact ⟨congrArg Value.bool (by rw [HQ.out]; exact (decide_eq_false (by rintro ⟨g1, g2, g3⟩; omega)).symm), rfl⟩
          · have hk1 : (kd == 1) = false := by simpa using h1
            go_wp2_with fail
            go_meet
            exact ⟨congrArg Value.bool (by rw [HQ.out]; exact (decide_eq_false (fun h => h1 h.1)).symm), rfl⟩
      case rest =>
        obtain ⟨rfl, rfl⟩ := hcut
        clear t0 t1 t2 t3 t4 t5 t6 sn HKP
        go_upto_if 81 with (fail)
        go_cut [] (fun wx => ∃ La2 : List Int, BlkAt wx lw 31 (ints La2) ∧ La2.length = 8 ∧ Hid (∀ n : Nat, n < 8 → (La[n]?).getD 0 ≤ (La2[n]?).getD 0) ∧ Hid (kd = 1 → 0 ≤ nd → nd < s.nodes → lf ≤ (La2[nd.toNat]?).getD 0) ∧ PlyAt w wx B p s (100 + 1100000 * k) V l cs now bs ∧ BlkAt wx T 44 [.int .i64 kd, .int .i64 d0, .int .i64 e0, .int .i64 kp, .int .i64 nd, .int .i64 lf, .bool fl] ∧ BlkAt wx Z1 35 [.int .i64 V.cf.epoch, .slice A V.cf.chain.length cap5] ∧ ChainS wx (.slice A V.cf.chain.length cap5) V.cf.chain ∧ MapM wx um (100 * k) (sinceV U) ∧ BlkAt wx sb 23 (setC7 s))
        case first =>
          as_aux_lemma =>
            cases q with
            | false =>
              go_wp2_with fail
              go_meet
              refine ⟨La, hLW, hll, Lib.hid (fun _ _ => Int.le_refl _), Lib.hid (fun h1 h2 h3 => ?_), hP, hT, hZ1, hC, hMU, hSB⟩
              exact absurd ⟨h1, h2, h3⟩ (of_decide_eq_false HQ.out.symm)
            | true =>
              obtain ⟨hk1, hd0, hd1⟩ := of_decide_eq_true HQ.out.symm
              subst hk1
              obtain ⟨n, rfl⟩ : ∃ n : Nat, nd = n := ⟨nd.toNat, by omega⟩
              have hn8 : n < 8 := by omega
              have hn8' : (n : Int) < 8 := by omega
              go_upto_region 13 with (fail)
              have t4 : wc.cell? ⟨T, 4, none⟩ = some (.int .i64 (n : Nat)) := hT.cell rfl
              have t5 : wc.cell? ⟨T, 5, none⟩ = some (.int .i64 lf) := hT.cell rfl
              have cl : wc.cell? ⟨lw, n, none⟩ = some (.int .i64 ((La[n]?).getD 0)) := hLW.cell (ints_at (by omega))
              have hfr := hLW.free
              obtain ⟨v, hv⟩ : ∃ v, (La[n]?).getD 0 = v := ⟨_, rfl⟩
              have HV := Lib.hid hv
              rw [hv] at cl
              clear hv
              refine still_tail 13 (by kernel_rfl) (by kernel_rfl) ?_
              simp only [List.take_succ_cons, List.take_zero, List.drop_succ_cons, List.drop_zero]
              repeat still_step
              refine wpStill_nil ?_
              change wpList _ _ _ _ _ _
              have g := grown_setCell wc lw n (.int .i64 (max v lf))
              have bd : Below (wc.setCell ⟨lw, n, none⟩ (.int .i64 (max v lf))).heap.size (wc.setCell ⟨lw, n, none⟩ (.int .i64 (max v lf))) (wc.setCell ⟨lw, n, none⟩ (.int .i64 (max v lf))).drew := below_drewN (Below.refl _ _) 1
              have HL2 : Hid (BlkAt (wc.setCell ⟨lw, n, none⟩ (.int .i64 (max v lf))).drew lw 31 (ints (La.set n (max v lf)))) := Lib.hid (by
                have := hLW.set n (.int .i64 (max v lf))
                rw [ints_set] at this
                exact this)
              have HP2 := Lib.hid ((hP.otherC g hLW.kind (by decide) (by decide) (by decide) (by decide) (by decide) (by decide) hlw0).below bd)
              have HT2 := Lib.hid ((hT.grown g (cells_ne hT.kind hLW.kind (by decide))).below bd)
              have HZ2 := Lib.hid ((hZ1.grown g (cells_ne hZ1.kind hLW.kind (by decide))).below bd)
              have HC2 := Lib.hid (ChainS.below (ChainAt.grownS hC g (cells_not hLW.kind (by decide))) bd)
              have HM2 := Lib.hid ((hMU.grown g (fun e => by injection e with e; exact cells_ne_map hLW.kind hMU.isMap e.symm)).below bd)
              have HS2 := Lib.hid ((hSB.grown g (cells_ne hSB.kind hLW.kind (by decide))).below bd)
              clear hP hT hZ1 hC hMU hSB hLW g bd t4 t5
              go_wp2_with fail
              go_meet
              refine ⟨La.set n (max v lf), HL2.out, by rw [List.length_set]; exact hll, Lib.hid (fun m hm => ?_), Lib.hid (fun _ _ _ => ?_), HP2.out, HT2.out, HZ2.out, HC2.out, HM2.out, HS2.out⟩
              · by_cases e : m = n
                · subst e
                  rw [HV.out, List.getElem?_set_self (by omega)]
                  show v ≤ max v lf
                  omega
                · rw [List.getElem?_set_ne (Ne.symm e)]
                  exact Int.le_refl _
              · rw [Int.toNat_natCast, List.getElem?_set_self (by omega)]
                show lf ≤ max v lf
                omega
        case rest =>
          clear hP hT hZ1 hC hMU hSB hLW hll
          obtain ⟨La2, hLW, hll, HLE, HLK, hP, hT, hZ1, hC, hMU, hSB⟩ := hcut
          obtain ⟨nw, hnw⟩ : ∃ nw, nowP now d0 = nw := ⟨_, rfl⟩
          have hnw1 := nowP_in now d0
          rw [hnw] at hnw1
          have HNQ := Lib.hid hnw
          clear hnw
          have t0 : wc.cell? ⟨T, 0, none⟩ = some (.int .i64 kd) := hT.cell rfl
          have t1 : wc.cell? ⟨T, 1, none⟩ = some (.int .i64 d0) := hT.cell rfl
          have t2 : wc.cell? ⟨T, 2, none⟩ = some (.int .i64 e0) := hT.cell rfl
          have t3 : wc.cell? ⟨T, 3, none⟩ = some (.int .i64 kp) := hT.cell rfl
          have t4 : wc.cell? ⟨T, 4, none⟩ = some (.int .i64 nd) := hT.cell rfl
          have t5 : wc.cell? ⟨T, 5, none⟩ = some (.int .i64 lf) := hT.cell rfl
          have t6 : wc.cell? ⟨T, 6, none⟩ = some (.bool fl) := hT.cell rfl
          go_wp2_with fail
          refine (play_any (by exact hP) HSET.out HOP.out (by omega) (by omega) HNQ.out).mono ?_
          rintro en w11 ⟨v, V', l', cs', said, bs', rfl, hSd, hP', hKp, hFN, hst⟩
          obtain ⟨SA, Scap, rfl⟩ := hSd.form
          have HST := Lib.hid hst
          have HINV := Lib.hid hP.inv
          have HINW := Lib.hid hP'.inv
          have HU2 := Lib.hid (hst.lawU hP.inv (now0 := now) (by omega) HU.out)
          have hTq := hT.keepP hKp (by decide) (by decide) (by decide) (by decide) (by decide)
          have hZ1q := hZ1.keepP hKp (by decide) (by decide) (by decide) (by decide) (by decide)
          have hSBq := hSB.keepP hKp (by decide) (by decide) (by decide) (by decide) (by decide)
          have hLWq := hLW.keepP hKp (by decide) (by decide) (by decide) (by decide) (by decide)
          have hCq := hC.keepP hKp
          have hMq := hMU.keepP hKp hum
          have huq := notin_next hum hFN hMU.lt
          have hsd8 := hst.few
          clear t0 t1 t2 t3 t4 t5 t6 hP hT hZ1 hC hSB hLW hMU hum hKp hFN hst
          have hP := hP'
          have hT := hTq
          have hZ1 := hZ1q
          have hSB := hSBq
          have hLW := hLWq
          have hC := hCq
          have hMU := hMq
          have hum := huq
          clear hP' hTq hZ1q hSBq hLWq hCq hMq huq
          have t0 : w11.cell? ⟨T, 0, none⟩ = some (.int .i64 kd) := hT.cell rfl
          obtain ⟨q4, hq4⟩ : ∃ q4 : Bool, q4 = (kd == 4) := ⟨_, rfl⟩
          go_upto_if 105 with (fail)
          clear t0
          go_cut [] (fun wx => ∃ La3 : List Int, BlkAt wx lw 31 (ints La3) ∧ La3.length = 8 ∧ Hid (LawL V' La3) ∧ PlyAt w wx B p s (100 + 1100000 * k + 1100000) V' l' cs' nw bs' ∧ BlkAt wx T 44 [.int .i64 kd, .int .i64 d0, .int .i64 e0, .int .i64 kp, .int .i64 nd, .int .i64 lf, .bool fl] ∧ BlkAt wx Z1 35 [.int .i64 V.cf.epoch, .slice A V.cf.chain.length cap5] ∧ ChainS wx (.slice A V.cf.chain.length cap5) V.cf.chain ∧ MapM wx um (100 * k) (sinceV U) ∧ BlkAt wx sb 23 (setC7 s) ∧ MsgsS wc.heap.size wx (.slice SA said.length Scap) said V'.cf)
          case first =>
            as_aux_lemma =>
              by_cases h4 : kd = 4
              · subst h4
                obtain ⟨x, b, hbs, hX, hO⟩ := hP.own
                have c8 : w11.cell? ⟨p, 8, none⟩ = some (.pointer (some ⟨x, 0, none⟩)) := hX.cell rfl
                go_wp2_with fail
                refine (mconfig_any (by exact hO.mst)).mono ?_
                rintro en z6 ⟨A6, cap6, rfl, hC6, b6⟩
                replace hP := hP.below b6
                replace hT := hT.below b6
                replace hZ1 := hZ1.below b6
                replace hC := hC.below b6
                replace hMU := hMU.below b6
                replace hLW := hLW.below b6
                replace hSB := hSB.below b6
                replace hSd := hSd.below b6
                clear c8 hX hO hbs
                go_wp2_with fail
                refine (rlives_any HINW.out.right (by exact hC6)).mono ?_
                rintro en z7 ⟨rfl, b7⟩
                replace hP := hP.below b7
                replace hT := hT.below b7
                replace hZ1 := hZ1.below b7
                replace hC := hC.below b7
                replace hMU := hMU.below b7
                replace hLW := hLW.below b7
                replace hSB := hSB.below b7
                replace hSd := hSd.below b7
                clear hC6
                have hl9 := beginL_len V'.cf.chain
                obtain ⟨ds, hds⟩ : ∃ ds, ds = ints (beginL V'.cf.chain) := ⟨_, rfl⟩
                have hlen : ds.length = 8 := by rw [hds, ints_len, hl9]
                have hone : ds.toArray.all (·.oneCell') = true := by rw [hds]; exact ints_one _
                rw [← hds]
                have hlz : ds.length = (ints La2).length := by rw [hlen, ints_len, hll]
                have HT9 := Lib.hid (mblk_there2 hLW hlz)
                have hL9 : BlkAt (z7.setCells lw 0 ds) lw 31 (ints (beginL V'.cf.chain)) := by
                  rw [← hds]
                  exact hLW.stored (vs := ds) hlz
                have HL9 := Lib.hid hL9
                have g := grown_setCells lw ds 0 z7
                have HP9 := Lib.hid (hP.otherC g hLW.kind (by decide) (by decide) (by decide) (by decide) (by decide) (by decide) hlw0)
                have HT10 := Lib.hid (hT.grown g (cells_ne hT.kind hLW.kind (by decide)))
                have HZ9 := Lib.hid (hZ1.grown g (cells_ne hZ1.kind hLW.kind (by decide)))
                have HC9 := Lib.hid (show ChainS _ _ _ from ChainAt.grownS hC g (cells_not hLW.kind (by decide)))
                have HM9 := Lib.hid (hMU.grown g (fun e => by injection e with e; exact cells_ne_map hLW.kind hMU.isMap e.symm))
                have HS9 := Lib.hid (hSB.grown g (cells_ne hSB.kind hLW.kind (by decide)))
                have HD9 := Lib.hid (hSd.otherC g hLW.kind (by decide) (by decide))
                have HLL := Lib.hid (HST.out.lawL4 rfl)
                clear hP hT hZ1 hC hMU hSB hLW hSd g hds hL9 hlz
                go_wp2_with (refine wpList_store_mid rfl 31 (.tmp 8) (.tmp 111) rfl lw 0 ds.toArray rfl rfl (by exact HT9.out) (by rw [List.size_toArray, hlen]; exact arr8_info) hone ?_; rw [List.toList_toArray])
                go_meet
                exact ⟨_, HL9.out, hl9, HLL, HP9.out, HT10.out, HZ9.out, HC9.out, HM9.out, HS9.out, HD9.out⟩
              · have h4' : (kd == 4) = false := by simpa using h4
                have HLL := Lib.hid (HST.out.lawL HINV.out HLV.out hsn8 h4 HL.out HLE.out HLK.out)
                go_wp2_with fail
                go_meet
                exact ⟨La2, hLW, hll, HLL, hP, hT, hZ1, hC, hMU, hSB, hSd⟩
          case rest =>
            clear hP hT hZ1 hC hMU hSB hLW hll hSd hq4
            obtain ⟨La3, hLW, hll, HL3, hP, hT, hZ1, hC, hMU, hSB, hSd⟩ := hcut
            obtain ⟨x, b, hbs, hX, hO⟩ := hP.own
            have c8 : wc.cell? ⟨p, 8, none⟩ = some (.pointer (some ⟨x, 0, none⟩)) := hX.cell rfl
            go_wp2_with fail
            refine (mconfig_any (by exact hO.mst)).mono ?_
            rintro en w12 ⟨A3, cap3, rfl, hC3, hb⟩
            replace hP := hP.below hb
            replace hT := hT.below hb
            replace hZ1 := hZ1.below hb
            replace hC := hC.below hb
            replace hMU := hMU.below hb
            replace hLW := hLW.below hb
            replace hSB := hSB.below hb
            replace hSd := hSd.below hb
            clear c8 hX hO hbs
            go_upto_region 20 with (fail)
            have hZ3 := BlkAt.new w12 35 [.int .i64 V'.cf.epoch, .slice A3 V'.cf.chain.length cap3]
            replace hP := hP.below ((Below.refl _ _).alloc (Nat.le_refl _) (.cells #[.int .i64 V'.cf.epoch, .slice A3 V'.cf.chain.length cap3] 35))
            replace hT := hT.below ((Below.refl _ _).alloc (Nat.le_refl _) (.cells #[.int .i64 V'.cf.epoch, .slice A3 V'.cf.chain.length cap3] 35))
            replace hZ1 := hZ1.below ((Below.refl _ _).alloc (Nat.le_refl _) (.cells #[.int .i64 V'.cf.epoch, .slice A3 V'.cf.chain.length cap3] 35))
            replace hC := hC.below ((Below.refl _ _).alloc (Nat.le_refl _) (.cells #[.int .i64 V'.cf.epoch, .slice A3 V'.cf.chain.length cap3] 35))
            replace hMU := hMU.below ((Below.refl _ _).alloc (Nat.le_refl _) (.cells #[.int .i64 V'.cf.epoch, .slice A3 V'.cf.chain.length cap3] 35))
            replace hLW := hLW.below ((Below.refl _ _).alloc (Nat.le_refl _) (.cells #[.int .i64 V'.cf.epoch, .slice A3 V'.cf.chain.length cap3] 35))
            replace hSB := hSB.below ((Below.refl _ _).alloc (Nat.le_refl _) (.cells #[.int .i64 V'.cf.epoch, .slice A3 V'.cf.chain.length cap3] 35))
            replace hSd := hSd.below ((Below.refl _ _).alloc (Nat.le_refl _) (.cells #[.int .i64 V'.cf.epoch, .slice A3 V'.cf.chain.length cap3] 35))
            replace hC3 := hC3.below ((Below.refl _ _).alloc (Nat.le_refl _) (.cells #[.int .i64 V'.cf.epoch, .slice A3 V'.cf.chain.length cap3] 35))
            replace hb := hb.alloc hb.size (.cells #[.int .i64 V'.cf.epoch, .slice A3 V'.cf.chain.length cap3] 35)
            change Code.wp _ _ _ _ (w12.alloc (.cells #[.int .i64 V'.cf.epoch, .slice A3 V'.cf.chain.length cap3] 35))
            change BlkAt (w12.alloc (.cells #[.int .i64 V'.cf.epoch, .slice A3 V'.cf.chain.length cap3] 35)) _ _ _ at hZ3
            have hZ3n := (show w12.heap.size ≤ w12.heap.size from Nat.le_refl _)
            generalize w12.alloc (.cells #[.int .i64 V'.cf.epoch, .slice A3 V'.cf.chain.length cap3] 35) = w13 at *
            generalize w12.heap.size = Z3 at hZ3 ⊢
            clear hZ3n
            clear hb
            have z11 : w13.cell? ⟨Z1, 1, none⟩ = some (.slice A V.cf.chain.length cap5) := hZ1.cell rfl
            have hvl8 := right_len HINV.out.right
            have hwl8 := right_len HINW.out.right
            have HRS : Hid (∀ t ∈ V.cf.chain, ∃ n : Nat, n < 8 ∧ t.node = n ∧ 1 ≤ t.life ∧ t.life ≤ 1099511627776) := Lib.hid (fun t ht => right_seat HINV.out.right ht)
            have HRW : Hid (∀ t ∈ V'.cf.chain, ∃ n : Nat, n < 8 ∧ t.node = n ∧ 1 ≤ t.life ∧ t.life ≤ 1099511627776) := Lib.hid (fun t ht => right_seat HINW.out.right ht)
            have hbb := Below.refl w13.heap.size w13
            go_wp2_with fail
            clear z11
            go_loopw [120] (fun i wr => ∃ j : Nat, j ≤ V.cf.chain.length ∧ i = .int .i64 j ∧ Below w13.heap.size w13 wr) (fun i _ => V.cf.chain.length - (intOf i).toNat)
            case atStart => exact ⟨0, Nat.zero_le _, rfl, hbb⟩
            case round =>
              as_aux_lemma =>
                obtain ⟨j, hj, rfl, hb⟩ := hrel
                clear hbb
                by_cases hlj : j < V.cf.chain.length
                · have hCr := hC.below hb
                  obtain ⟨_, _, hqq, hs⟩ := hCr.1
                  injection hqq with e1 e2 e3
                  subst e1
                  obtain ⟨qa, off, rfl, hab, hc⟩ := hs.2.2 (by omega)
                  obtain ⟨sq, hsq⟩ : ∃ sq, V.cf.chain[j]? = some sq := ⟨_, List.getElem?_eq_getElem hlj⟩
                  obtain ⟨s0, s1, s2⟩ := hc j sq hsq
                  obtain ⟨n, hn8, hn, hy1, hy2⟩ := HRS.out sq (List.mem_of_getElem? hsq)
                  have HSQ := Lib.hid (List.mem_of_getElem? hsq)
                  obtain ⟨x0, y, z⟩ := sq
                  simp only at s0 s1 s2 hn hy1 hy2
                  subst hn
                  have hn8' : (n : Int) < 8 := by omega
                  have hnw2 := w64_nat hn8
                  have hyw : W64 y := w64_life ⟨hy1, hy2⟩
                  clear hc hsq hs e2 e3 hCr
                  go_upto_region 23 with (fail)
                  have hY := BlkAt.new wr 49 [.int .i64 (n : Nat), .int .i64 y, .bool z]
                  replace hb := hb.alloc hb.size (.cells #[.int .i64 (n : Nat), .int .i64 y, .bool z] 49)
                  change Code.wp _ _ _ _ (wr.alloc (.cells #[.int .i64 (n : Nat), .int .i64 y, .bool z] 49))
                  change BlkAt (wr.alloc (.cells #[.int .i64 (n : Nat), .int .i64 y, .bool z] 49)) _ _ _ at hY
                  have hYn := (show wr.heap.size ≤ wr.heap.size from Nat.le_refl _)
                  generalize wr.alloc (.cells #[.int .i64 (n : Nat), .int .i64 y, .bool z] 49) = y1 at *
                  generalize wr.heap.size = Y at hY ⊢
                  clear hYn
                  clear s0 s1 s2
                  have hTr := hT.below hb
                  have hZ3r := hZ3.below hb
                  have hC3r := hC3.below hb
                  have hLr := hLW.below hb
                  have hMr := hMU.below hb
                  have hPr := hP.below hb
                  obtain ⟨x, b, hbs, hXr, _⟩ := hPr.own
                  clear hbs hPr
                  obtain ⟨u, huq⟩ : ∃ u, (U (n : Nat) y).getD 0 = u := ⟨_, rfl⟩
                  have HUQ := Lib.hid huq
                  clear huq
                  obtain ⟨pl, hplq⟩ : ∃ pl, placeC V'.cf.chain (n : Nat) y = pl := ⟨_, rfl⟩
                  have HPL := Lib.hid hplq
                  clear hplq
                  obtain ⟨ln, hlnq⟩ : ∃ ln, (La3[n]?).getD 0 = ln := ⟨_, rfl⟩
                  have HLN := Lib.hid hlnq
                  clear hlnq
                  have HGO : Hid (kd = 1 ∨ kd = 2 → pl < 0 → nw < u → ¬ ln ≤ y) := Lib.hid (fun h1 h2 h3 => by
                    have hg := HST.out.gone HINV.out h1 (q := ⟨n, y, z⟩) HSQ.out (by rw [HPL.out]; exact h2)
                    have hu := (HU.out (n : Nat) y).1
                    rw [HUQ.out] at hu
                    have hl := HL3.out n hn8
                    rw [HLN.out] at hl
                    simp only at hg
                    rcases hg with h9 | h9
                    · omega
                    · omega)
                  by_cases h1 : kd = 1
                  · as_aux_lemma =>
                      subst h1
                      by_cases hpl : pl < 0
                      · have hpd : decide (pl < 0) = true := decide_eq_true hpl
                        by_cases hnu : nw < u
                        · have hud : decide (nw < u) = true := decide_eq_true hnu
                          have hld : decide (ln ≤ y) = false := decide_eq_false (HGO.out (by omega) hpl hnu)
                          as_aux_lemma =>
                            go_upto_region 23 with (fail)
                            have bd : Below y1.heap.size y1 y1.drew := below_drewN (Below.refl _ _) 1
                            replace hTr := hTr.below bd
                            replace hZ3r := hZ3r.below bd
                            replace hC3r := hC3r.below bd
                            replace hLr := hLr.below bd
                            replace hMr := hMr.below bd
                            replace hXr := hXr.below bd
                            replace hY := hY.below bd
                            replace hb := below_step hb bd
                            clear bd
                            refine wp_region_noPanic ?_
                            refine wp_region_held_drew (S := (fun w' => w'.cell? ⟨T, 0, none⟩ = some (.int .i64 1) ∧ w'.cell? ⟨Z3, 0, none⟩ = some (.int .i64 V'.cf.epoch) ∧ w'.cell? ⟨Z3, 1, none⟩ = some (.slice A3 V'.cf.chain.length cap3) ∧ w'.cell? ⟨Y, 0, none⟩ = some (.int .i64 (n : Nat)) ∧ w'.cell? ⟨Y, 1, none⟩ = some (.int .i64 y) ∧ w'.cell? ⟨p, 9, none⟩ = some (.int .i64 nw) ∧ w'.cell? ⟨lw, n, none⟩ = some (.int .i64 ln) ∧ (Instr.lookup 30 (.map (some um)) (.agg #[.int .i64 (n : Nat), .int .i64 y]) false).run Tryz.prog w' = .ok (.int .i64 u) w')) (by kernel_rfl) (by exact ⟨hTr.cell rfl, hZ3r.cell rfl, hZ3r.cell rfl, hY.cell rfl, hY.cell rfl, hXr.cell rfl, (by have := hLr.cell (ints_at (l := La3) (n := n) (by omega)); rw [HLN.out] at this; exact this), (by have := look_int hMr hnw2 hyw; rw [HUQ.out] at this; exact this)⟩) (fun hHeld => ?_)
                            refine wtk 0 hHeld ?_
                            refine wtk 1 hHeld ?_
                            refine wtk 2 hHeld ?_
                            refine wtk 3 hHeld ?_
                            refine wun 4 hHeld ?_
                            refine wun 5 hHeld ?_
                            refine wun 6 hHeld ?_
                            refine wtk 7 hHeld ?_
                            refine wtk 8 hHeld ?_
                            refine wtk 9 hHeld ?_
                            refine wtk 10 hHeld ?_
                            refine wtk 11 hHeld ?_
                            refine wpAnyH_ready (rs := [12]) (by kernel_rfl) (by simp) (AllReadyH.cons (o := ?oq_1_12) ?op_1_12 (fun K hK => ?re_1_12) AllReadyH.nil)
                            case op_1_12 => (simp only [List.getElem?_toArray, List.getElem?_cons_succ, List.getElem?_cons_zero]; rfl)
                            go_simp
                            go_at_call 15
                            refine (qcplace_at (by exact hC3r.1) V'.cf.epoch (p := pl) HPL.out).mono ?_
                            rintro en y2 ⟨rfl, bz⟩
                            replace hTr := hTr.below bz
                            replace hZ3r := hZ3r.below bz
                            replace hC3r := hC3r.below bz
                            replace hLr := hLr.below bz
                            replace hMr := hMr.below bz
                            replace hXr := hXr.below bz
                            replace hY := hY.below bz
                            replace hb := below_step hb bz
                            clear bz
                            refine hK.out _ _ (by exact ⟨hTr.cell rfl, hZ3r.cell rfl, hZ3r.cell rfl, hY.cell rfl, hY.cell rfl, hXr.cell rfl, (by have := hLr.cell (ints_at (l := La3) (n := n) (by omega)); rw [HLN.out] at this; exact this), (by have := look_int hMr hnw2 hyw; rw [HUQ.out] at this; exact this)⟩) (fun hHeld => ?_)
                            clear hK K
                            try simp only [Act.put, List.setIfInBounds_toArray, List.set_cons_zero, List.set_cons_succ]
                            refine wtk 13 hHeld ?_
                            refine wtk 14 hHeld ?_
                            refine wtk 15 hHeld ?_
                            refine wtk 16 hHeld ?_
                            refine wtk 17 hHeld ?_
                            refine wtk 18 hHeld ?_
                            refine wtk 19 hHeld ?_
                            refine wtk 20 hHeld ?_
                            refine wtk 21 hHeld ?_
                            refine wtk 22 hHeld ?_
                            refine wtk 23 hHeld ?_
                            refine wtk 24 hHeld ?_
                            refine wtk 25 hHeld ?_
                            refine wtk 26 hHeld ?_
                            refine wtk 27 hHeld ?_
                            refine wtk 28 hHeld ?_
                            refine wtk 29 hHeld ?_
                            refine wtk 30 hHeld ?_
                            refine wtk 31 hHeld ?_
                            refine wtk 32 hHeld ?_
                            refine wtk 33 hHeld ?_
                            refine wtk 34 hHeld ?_
                            refine wtk 35 hHeld ?_
                            refine wtk 36 hHeld ?_
                            refine wpAnyH_done (by kernel_rfl) ?_ _
                            refine NoPanic.normal ?_
                            clear hHeld
                            have HB := Lib.hid hb
                            clear hTr hZ3r hC3r hLr hMr hXr hY hb
                            go_wp2_with fail
                            go_roundw
                            case rel => exact ⟨j + 1, by omega, by go_num, HB.out⟩
                            case measure => simp [intOf]; omega
                        · have hud : decide (nw < u) = false := decide_eq_false hnu
                          as_aux_lemma =>
                            go_upto_region 23 with (fail)
                            have bd : Below y1.heap.size y1 y1.drew := below_drewN (Below.refl _ _) 1
                            replace hTr := hTr.below bd
                            replace hZ3r := hZ3r.below bd
                            replace hC3r := hC3r.below bd
                            replace hLr := hLr.below bd
                            replace hMr := hMr.below bd
                            replace hXr := hXr.below bd
                            replace hY := hY.below bd
                            replace hb := below_step hb bd
                            clear bd
                            refine wp_region_noPanic ?_
                            refine wp_region_held_drew (S := (fun w' => w'.cell? ⟨T, 0, none⟩ = some (.int .i64 1) ∧ w'.cell? ⟨Z3, 0, none⟩ = some (.int .i64 V'.cf.epoch) ∧ w'.cell? ⟨Z3, 1, none⟩ = some (.slice A3 V'.cf.chain.length cap3) ∧ w'.cell? ⟨Y, 0, none⟩ = some (.int .i64 (n : Nat)) ∧ w'.cell? ⟨Y, 1, none⟩ = some (.int .i64 y) ∧ w'.cell? ⟨p, 9, none⟩ = some (.int .i64 nw) ∧ w'.cell? ⟨lw, n, none⟩ = some (.int .i64 ln) ∧ (Instr.lookup 30 (.map (some um)) (.agg #[.int .i64 (n : Nat), .int .i64 y]) false).run Tryz.prog w' = .ok (.int .i64 u) w')) (by kernel_rfl) (by exact ⟨hTr.cell rfl, hZ3r.cell rfl, hZ3r.cell rfl, hY.cell rfl, hY.cell rfl, hXr.cell rfl, (by have := hLr.cell (ints_at (l := La3) (n := n) (by omega)); rw [HLN.out] at this; exact this), (by have := look_int hMr hnw2 hyw; rw [HUQ.out] at this; exact this)⟩) (fun hHeld => ?_)
                            refine wtk 0 hHeld ?_
                            refine wtk 1 hHeld ?_
                            refine wtk 2 hHeld ?_
                            refine wtk 3 hHeld ?_
                            refine wun 4 hHeld ?_
                            refine wun 5 hHeld ?_
                            refine wun 6 hHeld ?_
                            refine wtk 7 hHeld ?_
                            refine wtk 8 hHeld ?_
                            refine wtk 9 hHeld ?_
                            refine wtk 10 hHeld ?_
                            refine wtk 11 hHeld ?_
                            refine wpAnyH_ready (rs := [12]) (by kernel_rfl) (by simp) (AllReadyH.cons (o := ?oq_2_12) ?op_2_12 (fun K hK => ?re_2_12) AllReadyH.nil)
                            case op_2_12 => (simp only [List.getElem?_toArray, List.getElem?_cons_succ, List.getElem?_cons_zero]; rfl)
                            go_simp
                            go_at_call 15
                            refine (qcplace_at (by exact hC3r.1) V'.cf.epoch (p := pl) HPL.out).mono ?_
                            rintro en y2 ⟨rfl, bz⟩
                            replace hTr := hTr.below bz
                            replace hZ3r := hZ3r.below bz
                            replace hC3r := hC3r.below bz
                            replace hLr := hLr.below bz
                            replace hMr := hMr.below bz
                            replace hXr := hXr.below bz
                            replace hY := hY.below bz
                            replace hb := below_step hb bz
                            clear bz
                            refine hK.out _ _ (by exact ⟨hTr.cell rfl, hZ3r.cell rfl, hZ3r.cell rfl, hY.cell rfl, hY.cell rfl, hXr.cell rfl, (by have := hLr.cell (ints_at (l := La3) (n := n) (by omega)); rw [HLN.out] at this; exact this), (by have := look_int hMr hnw2 hyw; rw [HUQ.out] at this; exact this)⟩) (fun hHeld => ?_)
                            clear hK K
                            try simp only [Act.put, List.setIfInBounds_toArray, List.set_cons_zero, List.set_cons_succ]
                            refine wtk 13 hHeld ?_
                            refine wtk 14 hHeld ?_
                            refine wtk 15 hHeld ?_
                            refine wtk 16 hHeld ?_
                            refine wtk 17 hHeld ?_
                            refine wtk 18 hHeld ?_
                            refine wtk 19 hHeld ?_
                            refine wtk 20 hHeld ?_
                            refine wtk 21 hHeld ?_
                            refine wtk 22 hHeld ?_
                            refine wtk 23 hHeld ?_
                            refine wtk 24 hHeld ?_
                            refine wtk 25 hHeld ?_
                            refine wtk 26 hHeld ?_
                            refine wun 27 hHeld ?_
                            refine wun 28 hHeld ?_
                            refine wun 29 hHeld ?_
                            refine wun 30 hHeld ?_
                            refine wun 31 hHeld ?_
                            refine wun 32 hHeld ?_
                            refine wun 33 hHeld ?_
                            refine wun 34 hHeld ?_
                            refine wun 35 hHeld ?_
                            refine wtk 36 hHeld ?_
                            refine wpAnyH_done (by kernel_rfl) ?_ _
                            refine NoPanic.normal ?_
                            clear hHeld
                            have HB := Lib.hid hb
                            clear hTr hZ3r hC3r hLr hMr hXr hY hb
                            go_wp2_with fail
                            go_roundw
                            case rel => exact ⟨j + 1, by omega, by go_num, HB.out⟩
                            case measure => simp [intOf]; omega
                      · have hpd : decide (pl < 0) = false := decide_eq_false hpl
                        as_aux_lemma =>
                          go_upto_region 23 with (fail)
                          have bd : Below y1.heap.size y1 y1.drew := below_drewN (Below.refl _ _) 1
                          replace hTr := hTr.below bd
                          replace hZ3r := hZ3r.below bd
                          replace hC3r := hC3r.below bd
                          replace hLr := hLr.below bd
                          replace hMr := hMr.below bd
                          replace hXr := hXr.below bd
                          replace hY := hY.below bd
                          replace hb := below_step hb bd
                          clear bd
                          refine wp_region_noPanic ?_
                          refine wp_region_held_drew (S := (fun w' => w'.cell? ⟨T, 0, none⟩ = some (.int .i64 1) ∧ w'.cell? ⟨Z3, 0, none⟩ = some (.int .i64 V'.cf.epoch) ∧ w'.cell? ⟨Z3, 1, none⟩ = some (.slice A3 V'.cf.chain.length cap3) ∧ w'.cell? ⟨Y, 0, none⟩ = some (.int .i64 (n : Nat)) ∧ w'.cell? ⟨Y, 1, none⟩ = some (.int .i64 y) ∧ w'.cell? ⟨p, 9, none⟩ = some (.int .i64 nw) ∧ w'.cell? ⟨lw, n, none⟩ = some (.int .i64 ln) ∧ (Instr.lookup 30 (.map (some um)) (.agg #[.int .i64 (n : Nat), .int .i64 y]) false).run Tryz.prog w' = .ok (.int .i64 u) w')) (by kernel_rfl) (by exact ⟨hTr.cell rfl, hZ3r.cell rfl, hZ3r.cell rfl, hY.cell rfl, hY.cell rfl, hXr.cell rfl, (by have := hLr.cell (ints_at (l := La3) (n := n) (by omega)); rw [HLN.out] at this; exact this), (by have := look_int hMr hnw2 hyw; rw [HUQ.out] at this; exact this)⟩) (fun hHeld => ?_)
                          refine wtk 0 hHeld ?_
                          refine wtk 1 hHeld ?_
                          refine wtk 2 hHeld ?_
                          refine wtk 3 hHeld ?_
                          refine wun 4 hHeld ?_
                          refine wun 5 hHeld ?_
                          refine wun 6 hHeld ?_
                          refine wtk 7 hHeld ?_
                          refine wtk 8 hHeld ?_
                          refine wtk 9 hHeld ?_
                          refine wtk 10 hHeld ?_
                          refine wtk 11 hHeld ?_
                          refine wpAnyH_ready (rs := [12]) (by kernel_rfl) (by simp) (AllReadyH.cons (o := ?oq_3_12) ?op_3_12 (fun K hK => ?re_3_12) AllReadyH.nil)
                          case op_3_12 => (simp only [List.getElem?_toArray, List.getElem?_cons_succ, List.getElem?_cons_zero]; rfl)
                          go_simp
                          go_at_call 15
                          refine (qcplace_at (by exact hC3r.1) V'.cf.epoch (p := pl) HPL.out).mono ?_
                          rintro en y2 ⟨rfl, bz⟩
                          replace hTr := hTr.below bz
                          replace hZ3r := hZ3r.below bz
                          replace hC3r := hC3r.below bz
                          replace hLr := hLr.below bz
                          replace hMr := hMr.below bz
                          replace hXr := hXr.below bz
                          replace hY := hY.below bz
                          replace hb := below_step hb bz
                          clear bz
                          refine hK.out _ _ (by exact ⟨hTr.cell rfl, hZ3r.cell rfl, hZ3r.cell rfl, hY.cell rfl, hY.cell rfl, hXr.cell rfl, (by have := hLr.cell (ints_at (l := La3) (n := n) (by omega)); rw [HLN.out] at this; exact this), (by have := look_int hMr hnw2 hyw; rw [HUQ.out] at this; exact this)⟩) (fun hHeld => ?_)
                          clear hK K
                          try simp only [Act.put, List.setIfInBounds_toArray, List.set_cons_zero, List.set_cons_succ]
                          refine wtk 13 hHeld ?_
                          refine wtk 14 hHeld ?_
                          refine wtk 15 hHeld ?_
                          refine wun 16 hHeld ?_
                          refine wun 17 hHeld ?_
                          refine wun 18 hHeld ?_
                          refine wun 19 hHeld ?_
                          refine wun 20 hHeld ?_
                          refine wun 21 hHeld ?_
                          refine wun 22 hHeld ?_
                          refine wun 23 hHeld ?_
                          refine wun 24 hHeld ?_
                          refine wtk 25 hHeld ?_
                          refine wtk 26 hHeld ?_
                          refine wun 27 hHeld ?_
                          refine wun 28 hHeld ?_
                          refine wun 29 hHeld ?_
                          refine wun 30 hHeld ?_
                          refine wun 31 hHeld ?_
                          refine wun 32 hHeld ?_
                          refine wun 33 hHeld ?_
                          refine wun 34 hHeld ?_
                          refine wun 35 hHeld ?_
                          refine wtk 36 hHeld ?_
                          refine wpAnyH_done (by kernel_rfl) ?_ _
                          refine NoPanic.normal ?_
                          clear hHeld
                          have HB := Lib.hid hb
                          clear hTr hZ3r hC3r hLr hMr hXr hY hb
                          go_wp2_with fail
                          go_roundw
                          case rel => exact ⟨j + 1, by omega, by go_num, HB.out⟩
                          case measure => simp [intOf]; omega
                  · have hk1 : (kd == 1) = false := by simpa using h1
                    by_cases h2 : kd = 2
                    · as_aux_lemma =>
                        subst h2
                        by_cases hpl : pl < 0
                        · have hpd : decide (pl < 0) = true := decide_eq_true hpl
                          by_cases hnu : nw < u
                          · have hud : decide (nw < u) = true := decide_eq_true hnu
                            have hld : decide (ln ≤ y) = false := decide_eq_false (HGO.out (by omega) hpl hnu)
                            as_aux_lemma =>
                              go_upto_region 23 with (fail)
                              have bd : Below y1.heap.size y1 y1.drew := below_drewN (Below.refl _ _) 1
                              replace hTr := hTr.below bd
                              replace hZ3r := hZ3r.below bd
                              replace hC3r := hC3r.below bd
                              replace hLr := hLr.below bd
                              replace hMr := hMr.below bd
                              replace hXr := hXr.below bd
                              replace hY := hY.below bd
                              replace hb := below_step hb bd
                              clear bd
                              refine wp_region_noPanic ?_
                              refine wp_region_held_drew (S := (fun w' => w'.cell? ⟨T, 0, none⟩ = some (.int .i64 2) ∧ w'.cell? ⟨Z3, 0, none⟩ = some (.int .i64 V'.cf.epoch) ∧ w'.cell? ⟨Z3, 1, none⟩ = some (.slice A3 V'.cf.chain.length cap3) ∧ w'.cell? ⟨Y, 0, none⟩ = some (.int .i64 (n : Nat)) ∧ w'.cell? ⟨Y, 1, none⟩ = some (.int .i64 y) ∧ w'.cell? ⟨p, 9, none⟩ = some (.int .i64 nw) ∧ w'.cell? ⟨lw, n, none⟩ = some (.int .i64 ln) ∧ (Instr.lookup 30 (.map (some um)) (.agg #[.int .i64 (n : Nat), .int .i64 y]) false).run Tryz.prog w' = .ok (.int .i64 u) w')) (by kernel_rfl) (by exact ⟨hTr.cell rfl, hZ3r.cell rfl, hZ3r.cell rfl, hY.cell rfl, hY.cell rfl, hXr.cell rfl, (by have := hLr.cell (ints_at (l := La3) (n := n) (by omega)); rw [HLN.out] at this; exact this), (by have := look_int hMr hnw2 hyw; rw [HUQ.out] at this; exact this)⟩) (fun hHeld => ?_)
                              refine wtk 0 hHeld ?_
                              refine wtk 1 hHeld ?_
                              refine wtk 2 hHeld ?_
                              refine wtk 3 hHeld ?_
                              refine wtk 4 hHeld ?_
                              refine wtk 5 hHeld ?_
                              refine wtk 6 hHeld ?_
                              refine wtk 7 hHeld ?_
                              refine wtk 8 hHeld ?_
                              refine wtk 9 hHeld ?_
                              refine wtk 10 hHeld ?_
                              refine wtk 11 hHeld ?_
                              refine wpAnyH_ready (rs := [12]) (by kernel_rfl) (by simp) (AllReadyH.cons (o := ?oq_4_12) ?op_4_12 (fun K hK => ?re_4_12) AllReadyH.nil)
                              case op_4_12 => (simp only [List.getElem?_toArray, List.getElem?_cons_succ, List.getElem?_cons_zero]; rfl)
                              go_simp
                              go_at_call 15
                              refine (qcplace_at (by exact hC3r.1) V'.cf.epoch (p := pl) HPL.out).mono ?_
                              rintro en y2 ⟨rfl, bz⟩
                              replace hTr := hTr.below bz
                              replace hZ3r := hZ3r.below bz
                              replace hC3r := hC3r.below bz
                              replace hLr := hLr.below bz
                              replace hMr := hMr.below bz
                              replace hXr := hXr.below bz
                              replace hY := hY.below bz
                              replace hb := below_step hb bz
                              clear bz
                              refine hK.out _ _ (by exact ⟨hTr.cell rfl, hZ3r.cell rfl, hZ3r.cell rfl, hY.cell rfl, hY.cell rfl, hXr.cell rfl, (by have := hLr.cell (ints_at (l := La3) (n := n) (by omega)); rw [HLN.out] at this; exact this), (by have := look_int hMr hnw2 hyw; rw [HUQ.out] at this; exact this)⟩) (fun hHeld => ?_)
                              clear hK K
                              try simp only [Act.put, List.setIfInBounds_toArray, List.set_cons_zero, List.set_cons_succ]
                              refine wtk 13 hHeld ?_
                              refine wtk 14 hHeld ?_
                              refine wtk 15 hHeld ?_
                              refine wtk 16 hHeld ?_
                              refine wtk 17 hHeld ?_
                              refine wtk 18 hHeld ?_
                              refine wtk 19 hHeld ?_
                              refine wtk 20 hHeld ?_
                              refine wtk 21 hHeld ?_
                              refine wtk 22 hHeld ?_
                              refine wtk 23 hHeld ?_
                              refine wtk 24 hHeld ?_
                              refine wtk 25 hHeld ?_
                              refine wtk 26 hHeld ?_
                              refine wtk 27 hHeld ?_
                              refine wtk 28 hHeld ?_
                              refine wtk 29 hHeld ?_
                              refine wtk 30 hHeld ?_
                              refine wtk 31 hHeld ?_
                              refine wtk 32 hHeld ?_
                              refine wtk 33 hHeld ?_
                              refine wtk 34 hHeld ?_
                              refine wtk 35 hHeld ?_
                              refine wtk 36 hHeld ?_
                              refine wpAnyH_done (by kernel_rfl) ?_ _
                              refine NoPanic.normal ?_
                              clear hHeld
                              have HB := Lib.hid hb
                              clear hTr hZ3r hC3r hLr hMr hXr hY hb
                              go_wp2_with fail
                              go_roundw
                              case rel => exact ⟨j + 1, by omega, by go_num, HB.out⟩
                              case measure => simp [intOf]; omega
                          · have hud : decide (nw < u) = false := decide_eq_false hnu
                            as_aux_lemma =>
                              go_upto_region 23 with (fail)
                              have bd : Below y1.heap.size y1 y1.drew := below_drewN (Below.refl _ _) 1
                              replace hTr := hTr.below bd
                              replace hZ3r := hZ3r.below bd
                              replace hC3r := hC3r.below bd
                              replace hLr := hLr.below bd
                              replace hMr := hMr.below bd
                              replace hXr := hXr.below bd
                              replace hY := hY.below bd
                              replace hb := below_step hb bd
                              clear bd
                              refine wp_region_noPanic ?_
                              refine wp_region_held_drew (S := (fun w' => w'.cell? ⟨T, 0, none⟩ = some (.int .i64 2) ∧ w'.cell? ⟨Z3, 0, none⟩ = some (.int .i64 V'.cf.epoch) ∧ w'.cell? ⟨Z3, 1, none⟩ = some (.slice A3 V'.cf.chain.length cap3) ∧ w'.cell? ⟨Y, 0, none⟩ = some (.int .i64 (n : Nat)) ∧ w'.cell? ⟨Y, 1, none⟩ = some (.int .i64 y) ∧ w'.cell? ⟨p, 9, none⟩ = some (.int .i64 nw) ∧ w'.cell? ⟨lw, n, none⟩ = some (.int .i64 ln) ∧ (Instr.lookup 30 (.map (some um)) (.agg #[.int .i64 (n : Nat), .int .i64 y]) false).run Tryz.prog w' = .ok (.int .i64 u) w')) (by kernel_rfl) (by exact ⟨hTr.cell rfl, hZ3r.cell rfl, hZ3r.cell rfl, hY.cell rfl, hY.cell rfl, hXr.cell rfl, (by have := hLr.cell (ints_at (l := La3) (n := n) (by omega)); rw [HLN.out] at this; exact this), (by have := look_int hMr hnw2 hyw; rw [HUQ.out] at this; exact this)⟩) (fun hHeld => ?_)
                              refine wtk 0 hHeld ?_
                              refine wtk 1 hHeld ?_
                              refine wtk 2 hHeld ?_
                              refine wtk 3 hHeld ?_
                              refine wtk 4 hHeld ?_
                              refine wtk 5 hHeld ?_
                              refine wtk 6 hHeld ?_
                              refine wtk 7 hHeld ?_
                              refine wtk 8 hHeld ?_
                              refine wtk 9 hHeld ?_
                              refine wtk 10 hHeld ?_
                              refine wtk 11 hHeld ?_
                              refine wpAnyH_ready (rs := [12]) (by kernel_rfl) (by simp) (AllReadyH.cons (o := ?oq_5_12) ?op_5_12 (fun K hK => ?re_5_12) AllReadyH.nil)
                              case op_5_12 => (simp only [List.getElem?_toArray, List.getElem?_cons_succ, List.getElem?_cons_zero]; rfl)
                              go_simp
                              go_at_call 15
                              refine (qcplace_at (by exact hC3r.1) V'.cf.epoch (p := pl) HPL.out).mono ?_
                              rintro en y2 ⟨rfl, bz⟩
                              replace hTr := hTr.below bz
                              replace hZ3r := hZ3r.below bz
                              replace hC3r := hC3r.below bz
                              replace hLr := hLr.below bz
                              replace hMr := hMr.below bz
                              replace hXr := hXr.below bz
                              replace hY := hY.below bz
                              replace hb := below_step hb bz
                              clear bz
                              refine hK.out _ _ (by exact ⟨hTr.cell rfl, hZ3r.cell rfl, hZ3r.cell rfl, hY.cell rfl, hY.cell rfl, hXr.cell rfl, (by have := hLr.cell (ints_at (l := La3) (n := n) (by omega)); rw [HLN.out] at this; exact this), (by have := look_int hMr hnw2 hyw; rw [HUQ.out] at this; exact this)⟩) (fun hHeld => ?_)
                              clear hK K
                              try simp only [Act.put, List.setIfInBounds_toArray, List.set_cons_zero, List.set_cons_succ]
                              refine wtk 13 hHeld ?_
                              refine wtk 14 hHeld ?_
                              refine wtk 15 hHeld ?_
                              refine wtk 16 hHeld ?_
                              refine wtk 17 hHeld ?_
                              refine wtk 18 hHeld ?_
                              refine wtk 19 hHeld ?_
                              refine wtk 20 hHeld ?_
                              refine wtk 21 hHeld ?_
                              refine wtk 22 hHeld ?_
                              refine wtk 23 hHeld ?_
                              refine wtk 24 hHeld ?_
                              refine wtk 25 hHeld ?_
                              refine wtk 26 hHeld ?_
                              refine wun 27 hHeld ?_
                              refine wun 28 hHeld ?_
                              refine wun 29 hHeld ?_
                              refine wun 30 hHeld ?_
                              refine wun 31 hHeld ?_
                              refine wun 32 hHeld ?_
                              refine wun 33 hHeld ?_
                              refine wun 34 hHeld ?_
                              refine wun 35 hHeld ?_
                              refine wtk 36 hHeld ?_
                              refine wpAnyH_done (by kernel_rfl) ?_ _
                              refine NoPanic.normal ?_
                              clear hHeld
                              have HB := Lib.hid hb
                              clear hTr hZ3r hC3r hLr hMr hXr hY hb
                              go_wp2_with fail
                              go_roundw
                              case rel => exact ⟨j + 1, by omega, by go_num, HB.out⟩
                              case measure => simp [intOf]; omega
                        · have hpd : decide (pl < 0) = false := decide_eq_false hpl
                          as_aux_lemma =>
                            go_upto_region 23 with (fail)
                            have bd : Below y1.heap.size y1 y1.drew := below_drewN (Below.refl _ _) 1
                            replace hTr := hTr.below bd
                            replace hZ3r := hZ3r.below bd
                            replace hC3r := hC3r.below bd
                            replace hLr := hLr.below bd
                            replace hMr := hMr.below bd
                            replace hXr := hXr.below bd
                            replace hY := hY.below bd
                            replace hb := below_step hb bd
                            clear bd
                            refine wp_region_noPanic ?_
                            refine wp_region_held_drew (S := (fun w' => w'.cell? ⟨T, 0, none⟩ = some (.int .i64 2) ∧ w'.cell? ⟨Z3, 0, none⟩ = some (.int .i64 V'.cf.epoch) ∧ w'.cell? ⟨Z3, 1, none⟩ = some (.slice A3 V'.cf.chain.length cap3) ∧ w'.cell? ⟨Y, 0, none⟩ = some (.int .i64 (n : Nat)) ∧ w'.cell? ⟨Y, 1, none⟩ = some (.int .i64 y) ∧ w'.cell? ⟨p, 9, none⟩ = some (.int .i64 nw) ∧ w'.cell? ⟨lw, n, none⟩ = some (.int .i64 ln) ∧ (Instr.lookup 30 (.map (some um)) (.agg #[.int .i64 (n : Nat), .int .i64 y]) false).run Tryz.prog w' = .ok (.int .i64 u) w')) (by kernel_rfl) (by exact ⟨hTr.cell rfl, hZ3r.cell rfl, hZ3r.cell rfl, hY.cell rfl, hY.cell rfl, hXr.cell rfl, (by have := hLr.cell (ints_at (l := La3) (n := n) (by omega)); rw [HLN.out] at this; exact this), (by have := look_int hMr hnw2 hyw; rw [HUQ.out] at this; exact this)⟩) (fun hHeld => ?_)
                            refine wtk 0 hHeld ?_
                            refine wtk 1 hHeld ?_
                            refine wtk 2 hHeld ?_
                            refine wtk 3 hHeld ?_
                            refine wtk 4 hHeld ?_
                            refine wtk 5 hHeld ?_
                            refine wtk 6 hHeld ?_
                            refine wtk 7 hHeld ?_
                            refine wtk 8 hHeld ?_
                            refine wtk 9 hHeld ?_
                            refine wtk 10 hHeld ?_
                            refine wtk 11 hHeld ?_
                            refine wpAnyH_ready (rs := [12]) (by kernel_rfl) (by simp) (AllReadyH.cons (o := ?oq_6_12) ?op_6_12 (fun K hK => ?re_6_12) AllReadyH.nil)
                            case op_6_12 => (simp only [List.getElem?_toArray, List.getElem?_cons_succ, List.getElem?_cons_zero]; rfl)
                            go_simp
                            go_at_call 15
                            refine (qcplace_at (by exact hC3r.1) V'.cf.epoch (p := pl) HPL.out).mono ?_
                            rintro en y2 ⟨rfl, bz⟩
                            replace hTr := hTr.below bz
                            replace hZ3r := hZ3r.below bz
                            replace hC3r := hC3r.below bz
                            replace hLr := hLr.below bz
                            replace hMr := hMr.below bz
                            replace hXr := hXr.below bz
                            replace hY := hY.below bz
                            replace hb := below_step hb bz
                            clear bz
                            refine hK.out _ _ (by exact ⟨hTr.cell rfl, hZ3r.cell rfl, hZ3r.cell rfl, hY.cell rfl, hY.cell rfl, hXr.cell rfl, (by have := hLr.cell (ints_at (l := La3) (n := n) (by omega)); rw [HLN.out] at this; exact this), (by have := look_int hMr hnw2 hyw; rw [HUQ.out] at this; exact this)⟩) (fun hHeld => ?_)
                            clear hK K
                            try simp only [Act.put, List.setIfInBounds_toArray, List.set_cons_zero, List.set_cons_succ]
                            refine wtk 13 hHeld ?_
                            refine wtk 14 hHeld ?_
                            refine wtk 15 hHeld ?_
                            refine wun 16 hHeld ?_
                            refine wun 17 hHeld ?_
                            refine wun 18 hHeld ?_
                            refine wun 19 hHeld ?_
                            refine wun 20 hHeld ?_
                            refine wun 21 hHeld ?_
                            refine wun 22 hHeld ?_
                            refine wun 23 hHeld ?_
                            refine wun 24 hHeld ?_
                            refine wtk 25 hHeld ?_
                            refine wtk 26 hHeld ?_
                            refine wun 27 hHeld ?_
                            refine wun 28 hHeld ?_
                            refine wun 29 hHeld ?_
                            refine wun 30 hHeld ?_
                            refine wun 31 hHeld ?_
                            refine wun 32 hHeld ?_
                            refine wun 33 hHeld ?_
                            refine wun 34 hHeld ?_
                            refine wun 35 hHeld ?_
                            refine wtk 36 hHeld ?_
                            refine wpAnyH_done (by kernel_rfl) ?_ _
                            refine NoPanic.normal ?_
                            clear hHeld
                            have HB := Lib.hid hb
                            clear hTr hZ3r hC3r hLr hMr hXr hY hb
                            go_wp2_with fail
                            go_roundw
                            case rel => exact ⟨j + 1, by omega, by go_num, HB.out⟩
                            case measure => simp [intOf]; omega
                    · as_aux_lemma =>
                        have hk2 : (kd == 2) = false := by simpa using h2
                        go_upto_region 23 with (fail)
                        have bd : Below y1.heap.size y1 y1.drew := below_drewN (Below.refl _ _) 1
                        replace hTr := hTr.below bd
                        replace hZ3r := hZ3r.below bd
                        replace hC3r := hC3r.below bd
                        replace hLr := hLr.below bd
                        replace hMr := hMr.below bd
                        replace hXr := hXr.below bd
                        replace hY := hY.below bd
                        replace hb := below_step hb bd
                        clear bd
                        refine wp_region_noPanic ?_
                        refine wp_region_held_drew (S := (fun w' => w'.cell? ⟨T, 0, none⟩ = some (.int .i64 kd) ∧ w'.cell? ⟨Z3, 0, none⟩ = some (.int .i64 V'.cf.epoch) ∧ w'.cell? ⟨Z3, 1, none⟩ = some (.slice A3 V'.cf.chain.length cap3) ∧ w'.cell? ⟨Y, 0, none⟩ = some (.int .i64 (n : Nat)) ∧ w'.cell? ⟨Y, 1, none⟩ = some (.int .i64 y) ∧ w'.cell? ⟨p, 9, none⟩ = some (.int .i64 nw) ∧ w'.cell? ⟨lw, n, none⟩ = some (.int .i64 ln) ∧ (Instr.lookup 30 (.map (some um)) (.agg #[.int .i64 (n : Nat), .int .i64 y]) false).run Tryz.prog w' = .ok (.int .i64 u) w')) (by kernel_rfl) (by exact ⟨hTr.cell rfl, hZ3r.cell rfl, hZ3r.cell rfl, hY.cell rfl, hY.cell rfl, hXr.cell rfl, (by have := hLr.cell (ints_at (l := La3) (n := n) (by omega)); rw [HLN.out] at this; exact this), (by have := look_int hMr hnw2 hyw; rw [HUQ.out] at this; exact this)⟩) (fun hHeld => ?_)
                        refine wtk 0 hHeld ?_
                        refine wtk 1 hHeld ?_
                        refine wtk 2 hHeld ?_
                        refine wtk 3 hHeld ?_
                        refine wtk 4 hHeld ?_
                        refine wtk 5 hHeld ?_
                        refine wtk 6 hHeld ?_
                        refine wtk 7 hHeld ?_
                        refine wtk 8 hHeld ?_
                        refine wun 9 hHeld ?_
                        refine wun 10 hHeld ?_
                        refine wun 11 hHeld ?_
                        refine wun 12 hHeld ?_
                        refine wun 13 hHeld ?_
                        refine wtk 14 hHeld ?_
                        refine wtk 15 hHeld ?_
                        refine wun 16 hHeld ?_
                        refine wun 17 hHeld ?_
                        refine wun 18 hHeld ?_
                        refine wun 19 hHeld ?_
                        refine wun 20 hHeld ?_
                        refine wun 21 hHeld ?_
                        refine wun 22 hHeld ?_
                        refine wun 23 hHeld ?_
                        refine wun 24 hHeld ?_
                        refine wtk 25 hHeld ?_
                        refine wtk 26 hHeld ?_
                        refine wun 27 hHeld ?_
                        refine wun 28 hHeld ?_
                        refine wun 29 hHeld ?_
                        refine wun 30 hHeld ?_
                        refine wun 31 hHeld ?_
                        refine wun 32 hHeld ?_
                        refine wun 33 hHeld ?_
                        refine wun 34 hHeld ?_
                        refine wun 35 hHeld ?_
                        refine wtk 36 hHeld ?_
                        refine wpAnyH_done (by kernel_rfl) ?_ _
                        refine NoPanic.normal ?_
                        clear hHeld
                        have HB := Lib.hid hb
                        clear hTr hZ3r hC3r hLr hMr hXr hY hb
                        go_wp2_with fail
                        go_roundw
                        case rel => exact ⟨j + 1, by omega, by go_num, HB.out⟩
                        case measure => simp [intOf]; omega
                · have hlj' : ¬ (j : Int) < (V.cf.chain.length : Int) := by omega
                  have hPr := hP.below hb
                  have hTr := hT.below hb
                  have hZ3r := hZ3.below hb
                  have hC3r := hC3.below hb
                  have hSBr := hSB.below hb
                  have hSdr := hSd.below hb
                  have hMr := (hMU.below hb).mono (show 100 * k ≤ 100 * k + 8 * 0 by omega)
                  have hLr := hLW.below hb
                  clear hP hT hZ3 hC3 hSB hSd hMU hLW hZ1 hC hb hlj hj
                  go_wp2_with fail
                  go_loopw [164] (fun i wr => ∃ (i3 : Nat) (U' : Int → Int → Option Int), i3 ≤ said.length ∧ i = .int .i64 i3 ∧ PlyAt w wr B p s (100 + 1100000 * k + 1100000) V' l' cs' nw bs' ∧ BlkAt wr T 44 [.int .i64 kd, .int .i64 d0, .int .i64 e0, .int .i64 kp, .int .i64 nd, .int .i64 lf, .bool fl] ∧ BlkAt wr Z3 35 [.int .i64 V'.cf.epoch, .slice A3 V'.cf.chain.length cap3] ∧ ChainS wr (.slice A3 V'.cf.chain.length cap3) V'.cf.chain ∧ BlkAt wr sb 23 (setC7 s) ∧ MsgsS 0 wr (.slice SA said.length Scap) said V'.cf ∧ MapM wr um (100 * k + 8 * i3) (sinceV U') ∧ BlkAt wr lw 31 (ints La3) ∧ Hid (LawU s V' nw U')) (fun i _ => said.length - (intOf i).toNat)
                  case atStart => exact ⟨0, U, Nat.zero_le _, rfl, hPr, hTr, hZ3r, hC3r, hSBr, hSdr.mono (Nat.zero_le _), hMr, hLr, HU2⟩
                  case round =>
                    as_aux_lemma =>
                      obtain ⟨i3, U', hi3, rfl, hP, hT, hZ3, hC3, hSB, hSd, hMU, hLW, HU3⟩ := hrel
                      clear hPr hTr hZ3r hC3r hSBr hSdr hMr hLr
                      by_cases hil : i3 < said.length
                      · have hil' : (i3 : Int) < (said.length : Int) := by omega
                        obtain ⟨mm, hmm⟩ : ∃ mm, said[i3]? = some mm := ⟨_, List.getElem?_eq_getElem hil⟩
                        obtain ⟨g, gcap, A9, cap9, hv9, hgB, hG⟩ := hSd.get hmm
                        injection hv9 with e1 e2 e3
                        subst e1 e3
                        obtain ⟨ds, hds⟩ : ∃ ds, ds = tellC mm.1 mm.2 V'.cf.epoch (.slice A9 V'.cf.chain.length cap9) := ⟨_, rfl⟩
                        have hrg : wr.rangeAt g (i3 * 28) ds := by rw [hds]; exact hG.1
                        have hlen : ds.length = 28 := by rw [hds]; rfl
                        have hone : ds.toArray.all (·.oneCell') = true := by rw [hds]; simp [tellC, Value.oneCell']
                        have HDS := Lib.hid hds
                        have HMM := Lib.hid (List.mem_of_getElem? hmm)
                        clear hG hds e2 hgB hmm
                        have hb := Below.refl wr.heap.size wr
                        have hX := BlkAt.new wr 58 [.int .i64 0, .int .i64 0, .int .i64 0, .int .i64 0, .int .i64 0, .int .i64 0, .int .i64 0, .int .i64 0, .int .i64 0, .int .i64 0, .bool false, .int .i64 0, .int .i64 0, .int .i64 0, .int .i64 0, .int .i64 0, .int .i64 0, .int .i64 0, .int .i64 0, .int .i64 0, .string ⟨#[]⟩, .int .i64 0, .int .i64 0, .int .i64 0, .int .i64 0, .slice none 0 0, .slice none 0 0, .int .i64 0]
                        have HL1 := Lib.hid (show ds.length = ([.int .i64 0, .int .i64 0, .int .i64 0, .int .i64 0, .int .i64 0, .int .i64 0, .int .i64 0, .int .i64 0, .int .i64 0, .int .i64 0, .bool false, .int .i64 0, .int .i64 0, .int .i64 0, .int .i64 0, .int .i64 0, .int .i64 0, .int .i64 0, .int .i64 0, .int .i64 0, .string ⟨#[]⟩, .int .i64 0, .int .i64 0, .int .i64 0, .int .i64 0, .slice none 0 0, .slice none 0 0, .int .i64 0] : List Value).length by rw [hlen]; rfl)
                        have b4 := (Below.refl wr.heap.size wr).alloc (Nat.le_refl _) (.cells #[.int .i64 0, .int .i64 0, .int .i64 0, .int .i64 0, .int .i64 0, .int .i64 0, .int .i64 0, .int .i64 0, .int .i64 0, .int .i64 0, .bool false, .int .i64 0, .int .i64 0, .int .i64 0, .int .i64 0, .int .i64 0, .int .i64 0, .int .i64 0, .int .i64 0, .int .i64 0, .string ⟨#[]⟩, .int .i64 0, .int .i64 0, .int .i64 0, .int .i64 0, .slice none 0 0, .slice none 0 0, .int .i64 0] 58)
                        have G4 := grown_setCells wr.heap.size ds 0 (wr.alloc (.cells #[.int .i64 0, .int .i64 0, .int .i64 0, .int .i64 0, .int .i64 0, .int .i64 0, .int .i64 0, .int .i64 0, .int .i64 0, .int .i64 0, .bool false, .int .i64 0, .int .i64 0, .int .i64 0, .int .i64 0, .int .i64 0, .int .i64 0, .int .i64 0, .int .i64 0, .int .i64 0, .string ⟨#[]⟩, .int .i64 0, .int .i64 0, .int .i64 0, .int .i64 0, .slice none 0 0, .slice none 0 0, .int .i64 0] 58))
                        have b5 := b4.grown G4 b4.size (by intro j hj; cases hj; exact Nat.le_refl _)
                        have hMn := hX.stored (vs := ds) HL1.out
                        have HT := Lib.hid (mblk_there2 hX HL1.out)
                        have hPn := hP.below b5
                        clear hP
                        have hP := hPn
                        clear hPn
                        have hTn := hT.below b5
                        clear hT
                        have hT := hTn
                        clear hTn
                        have hZ3n := hZ3.below b5
                        clear hZ3
                        have hZ3 := hZ3n
                        clear hZ3n
                        have hC3n := hC3.below b5
                        clear hC3
                        have hC3 := hC3n
                        clear hC3n
                        have hSBn := hSB.below b5
                        clear hSB
                        have hSB := hSBn
                        clear hSBn
                        have hSdn := hSd.below b5
                        clear hSd
                        have hSd := hSdn
                        clear hSdn
                        have hMUn := hMU.below b5
                        clear hMU
                        have hMU := hMUn
                        clear hMUn
                        have hLWn := hLW.below b5
                        clear hLW
                        have hLW := hLWn
                        clear hLWn
                        have hbn := below_step hb b5
                        clear hb
                        have hb := hbn
                        clear hbn
                        clear hX b4 G4 b5 HL1
                        go_upto_region 29 with (first | (refine wpList_store_mid rfl 58 (.tmp 18) (.tmp 167) rfl wr.heap.size 0 ds.toArray rfl rfl (by exact HT.out) (by rw [List.size_toArray, hlen]; exact mmsg_info) hone ?_; rw [List.toList_toArray]) | (refine wpList_load_mid rfl 58 (.tmp 166) rfl g (i3 * 28) rfl ds _ hrg Tryz.underlying58 rfl (by rw [hlen]; exact mmsg_info) ?_; simp only [Act.put, List.setIfInBounds_toArray, List.set_cons_zero, List.set_cons_succ]))
                        change Code.wp _ _ _ _ ((wr.alloc (.cells #[.int .i64 0, .int .i64 0, .int .i64 0, .int .i64 0, .int .i64 0, .int .i64 0, .int .i64 0, .int .i64 0, .int .i64 0, .int .i64 0, .bool false, .int .i64 0, .int .i64 0, .int .i64 0, .int .i64 0, .int .i64 0, .int .i64 0, .int .i64 0, .int .i64 0, .int .i64 0, .string ⟨#[]⟩, .int .i64 0, .int .i64 0, .int .i64 0, .int .i64 0, .slice none 0 0, .slice none 0 0, .int .i64 0] 58)).setCells wr.heap.size 0 ds)
                        generalize (wr.alloc (.cells #[.int .i64 0, .int .i64 0, .int .i64 0, .int .i64 0, .int .i64 0, .int .i64 0, .int .i64 0, .int .i64 0, .int .i64 0, .int .i64 0, .bool false, .int .i64 0, .int .i64 0, .int .i64 0, .int .i64 0, .int .i64 0, .int .i64 0, .int .i64 0, .int .i64 0, .int .i64 0, .string ⟨#[]⟩, .int .i64 0, .int .i64 0, .int .i64 0, .int .i64 0, .slice none 0 0, .slice none 0 0, .int .i64 0] 58)).setCells wr.heap.size 0 ds = y1 at *
                        have hM := hMn
                        clear hMn HT
                        obtain ⟨mb, hLL⟩ : ∃ q, q = wr.heap.size := ⟨_, rfl⟩
                        rw [← hLL] at hM ⊢
                        have HEmb := Lib.hid hLL
                        clear hLL
                        clear hb hrg
                        have hm1 : ds[1]? = some (.int .i64 mm.1) := by rw [HDS.out]; rfl
                        have hm9 : ds[9]? = some (.int .i64 mm.2) := by rw [HDS.out]; rfl
                        have m9 : y1.cell? ⟨mb, 9, none⟩ = some (.int .i64 mm.2) := hM.cell hm9
                        obtain ⟨m1, m2⟩ := mm
                        simp only at hm1 hm9 m9
                        by_cases hu0 : m2 = 0
                        · subst hu0
                          have HP := Lib.hid hP
                          have HT := Lib.hid hT
                          have HZ := Lib.hid hZ3
                          have HC := Lib.hid hC3
                          have HS := Lib.hid hSB
                          have HD := Lib.hid hSd
                          have HMU := Lib.hid (hMU.mono (show 100 * k + 8 * i3 ≤ 100 * k + 8 * (i3 + 1) by omega))
                          have HLW := Lib.hid hLW
                          clear hP hT hZ3 hC3 hSB hSd hMU hLW hM hm1 hm9
                          go_wp2_with fail
                          go_roundw
                          case rel => exact ⟨i3 + 1, U', by omega, by go_num, HP.out, HT.out, HZ.out, HC.out, HS.out, HD.out, HMU.out, HLW.out, HU3⟩
                          case measure => simp [intOf]; omega
                        · obtain ⟨hk2, hmu, htl⟩ := HST.out.until HMM.out hu0
                          simp only at hk2 hmu htl
                          subst hk2 hmu
                          have HTL := Lib.hid htl
                          have hu0' : (nw + s.lease == 0) = false := by simpa using hu0
                          have HWR : Hid (IntKind.i64.wrap (nw + s.lease) = nw + s.lease) := Lib.hid (by rw [IntWalk.i64_left, IntWalk.wrap64_in _ ⟨by omega, by omega⟩])
                          clear htl
                          go_upto_region 30 with (fail)
                          clear m9
                          obtain ⟨x, b, hbs, hX, _⟩ := hP.own
                          have hb := Below.refl y1.heap.size y1
                          clear hbs
                          have bd : Below y1.heap.size y1 y1.drew := below_drewN (Below.refl _ _) 1
                          replace hP := hP.below bd
                          replace hT := hT.below bd
                          replace hZ3 := hZ3.below bd
                          replace hC3 := hC3.below bd
                          replace hSB := hSB.below bd
                          replace hSd := hSd.below bd
                          replace hMU := hMU.below bd
                          replace hLW := hLW.below bd
                          replace hM := hM.below bd
                          replace hX := hX.below bd
                          replace hb := below_step hb bd
                          clear bd
                          clear hb
                          refine wp_region_noPanic ?_
                          refine wp_region_held_drew (S := (fun w' => w'.cell? ⟨T, 0, none⟩ = some (.int .i64 2) ∧ w'.cell? ⟨mb, 9, none⟩ = some (.int .i64 (nw + s.lease)) ∧ w'.cell? ⟨p, 9, none⟩ = some (.int .i64 nw) ∧ w'.cell? ⟨sb, 3, none⟩ = some (.int .i64 s.lease))) (by kernel_rfl) (by exact ⟨hT.cell rfl, hM.cell hm9, hX.cell rfl, hSB.cell rfl⟩) (fun hHeld => ?_)
                          refine wtk 0 hHeld ?_
                          refine wtk 1 hHeld ?_
                          refine wtk 2 hHeld ?_
                          refine wtk 3 hHeld ?_
                          refine wtk 4 hHeld ?_
                          refine wtk 5 hHeld ?_
                          refine wtk 6 hHeld ?_
                          refine wtk 7 hHeld ?_
                          refine wtk 8 hHeld ?_
                          refine wtk 9 hHeld ?_
                          refine wtk 10 hHeld ?_
                          refine wtk 11 hHeld ?_
                          refine wtk 12 hHeld ?_
                          rw [HWR.out]
                          refine wtk 13 hHeld ?_
                          refine wtk 14 hHeld ?_
                          refine wpAnyH_done (by kernel_rfl) ?_ _
                          refine NoPanic.normal ?_
                          clear hHeld hX
                          generalize y1.drew = y2 at *
                          have n1 : y2.cell? ⟨mb, 1, none⟩ = some (.int .i64 m1) := hM.cell hm1
                          have z31 : y2.cell? ⟨Z3, 1, none⟩ = some (.slice A3 V'.cf.chain.length cap3) := hZ3.cell rfl
                          go_wp2_with fail
                          clear n1 z31
                          go_loopw [191] (fun i wr => ∃ (j : Nat) (U4 : Int → Int → Option Int), j ≤ V'.cf.chain.length ∧ i = .int .i64 j ∧ PlyAt w wr B p s (100 + 1100000 * k + 1100000) V' l' cs' nw bs' ∧ BlkAt wr T 44 [.int .i64 2, .int .i64 d0, .int .i64 e0, .int .i64 kp, .int .i64 nd, .int .i64 lf, .bool fl] ∧ BlkAt wr Z3 35 [.int .i64 V'.cf.epoch, .slice A3 V'.cf.chain.length cap3] ∧ ChainS wr (.slice A3 V'.cf.chain.length cap3) V'.cf.chain ∧ BlkAt wr sb 23 (setC7 s) ∧ MsgsS 0 wr (.slice (some ⟨g, 0, none⟩) said.length Scap) said V'.cf ∧ MapM wr um (100 * k + 8 * i3 + j) (sinceV U4) ∧ BlkAt wr lw 31 (ints La3) ∧ BlkAt wr mb 58 ds ∧ Hid (LawU s V' nw U4)) (fun i _ => V'.cf.chain.length - (intOf i).toNat)
                          case atStart => exact ⟨0, U', Nat.zero_le _, rfl, hP, hT, hZ3, hC3, hSB, hSd, hMU, hLW, hM, HU3⟩
                          case round =>
                            as_aux_lemma =>
                              obtain ⟨j, U4, hj4, rfl, hPr, hTr, hZ3r, hC3r, hSBr, hSdr, hMUr, hLWr, hMr, HU4⟩ := hrel
                              clear hP hT hZ3 hC3 hSB hSd hMU hLW hM
                              have hP := hPr
                              have hT := hTr
                              have hZ3 := hZ3r
                              have hC3 := hC3r
                              have hSB := hSBr
                              have hSd := hSdr
                              have hMU := hMUr
                              have hLW := hLWr
                              have hM := hMr
                              clear hPr hTr hZ3r hC3r hSBr hSdr hMUr hLWr hMr
                              by_cases hlj : j < V'.cf.chain.length
                              · obtain ⟨_, _, hqq, hs⟩ := hC3.1
                                injection hqq with e1 e2 e3
                                subst e1
                                obtain ⟨qa, off, rfl, hab, hc⟩ := hs.2.2 (by omega)
                                obtain ⟨sq, hsq⟩ : ∃ sq, V'.cf.chain[j]? = some sq := ⟨_, List.getElem?_eq_getElem hlj⟩
                                obtain ⟨s0, s1, s2⟩ := hc j sq hsq
                                obtain ⟨n, hn8, hn, hy1, hy2⟩ := HRW.out sq (List.mem_of_getElem? hsq)
                                have HSQ := Lib.hid (List.mem_of_getElem? hsq)
                                obtain ⟨x0, y, z⟩ := sq
                                simp only at s0 s1 s2 hn hy1 hy2
                                subst hn
                                have hnw2 := w64_nat hn8
                                have hyw : W64 y := w64_life ⟨hy1, hy2⟩
                                clear hc hsq hs e2 e3
                                have hb := Below.refl wr.heap.size wr
                                go_upto_region 36 with (fail)
                                have hY := BlkAt.new wr 49 [.int .i64 (n : Nat), .int .i64 y, .bool z]
                                replace hP := hP.below ((Below.refl _ _).alloc (Nat.le_refl _) (.cells #[.int .i64 (n : Nat), .int .i64 y, .bool z] 49))
                                replace hT := hT.below ((Below.refl _ _).alloc (Nat.le_refl _) (.cells #[.int .i64 (n : Nat), .int .i64 y, .bool z] 49))
                                replace hZ3 := hZ3.below ((Below.refl _ _).alloc (Nat.le_refl _) (.cells #[.int .i64 (n : Nat), .int .i64 y, .bool z] 49))
                                replace hC3 := hC3.below ((Below.refl _ _).alloc (Nat.le_refl _) (.cells #[.int .i64 (n : Nat), .int .i64 y, .bool z] 49))
                                replace hSB := hSB.below ((Below.refl _ _).alloc (Nat.le_refl _) (.cells #[.int .i64 (n : Nat), .int .i64 y, .bool z] 49))
                                replace hSd := hSd.below ((Below.refl _ _).alloc (Nat.le_refl _) (.cells #[.int .i64 (n : Nat), .int .i64 y, .bool z] 49))
                                replace hMU := hMU.below ((Below.refl _ _).alloc (Nat.le_refl _) (.cells #[.int .i64 (n : Nat), .int .i64 y, .bool z] 49))
                                replace hLW := hLW.below ((Below.refl _ _).alloc (Nat.le_refl _) (.cells #[.int .i64 (n : Nat), .int .i64 y, .bool z] 49))
                                replace hM := hM.below ((Below.refl _ _).alloc (Nat.le_refl _) (.cells #[.int .i64 (n : Nat), .int .i64 y, .bool z] 49))
                                replace hb := hb.alloc hb.size (.cells #[.int .i64 (n : Nat), .int .i64 y, .bool z] 49)
                                change Code.wp _ _ _ _ (wr.alloc (.cells #[.int .i64 (n : Nat), .int .i64 y, .bool z] 49))
                                change BlkAt (wr.alloc (.cells #[.int .i64 (n : Nat), .int .i64 y, .bool z] 49)) _ _ _ at hY
                                have hYn := (show wr.heap.size ≤ wr.heap.size from Nat.le_refl _)
                                generalize wr.alloc (.cells #[.int .i64 (n : Nat), .int .i64 y, .bool z] 49) = y3 at *
                                generalize wr.heap.size = Y at hY ⊢
                                clear hYn
                                clear s0 s1 s2 hb
                                have p0 : y3.cell? ⟨Y, 0, none⟩ = some (.int .i64 (n : Nat)) := hY.cell rfl
                                have p1 : y3.cell? ⟨Y, 1, none⟩ = some (.int .i64 y) := hY.cell rfl
                                have m9 : y3.cell? ⟨mb, 9, none⟩ = some (.int .i64 (nw + s.lease)) := hM.cell hm9
                                by_cases heq : (n : Int) = m1
                                · have heq' : ((n : Int) == m1) = true := by simpa using heq
                                  obtain ⟨y4, hrun, hM4, hg4⟩ := hMU.store Tryz.underlying30 (by unfold maxLen; omega) hnw2 hyw (.int .i64 (nw + s.lease))
                                  have i0 := hMU.isMap
                                  rw [sinceV_upd] at hM4
                                  have HP := Lib.hid (hP.otherMap hg4 i0 hum huw)
                                  have HT := Lib.hid (hT.otherMap hg4 i0)
                                  have HZ := Lib.hid (hZ3.otherMap hg4 i0)
                                  have HC := Lib.hid (hC3.otherMap hg4 i0)
                                  have HS := Lib.hid (hSB.otherMap hg4 i0)
                                  have HD := Lib.hid (hSd.otherMap hg4 i0)
                                  have HLW := Lib.hid (hLW.otherMap hg4 i0)
                                  have HM := Lib.hid (hM.otherMap hg4 i0)
                                  have HMU : Hid (MapM y4 um (100 * k + 8 * i3 + (j + 1)) _) := Lib.hid hM4
                                  have HU5 := Lib.hid (HU4.out.put (x := (n : Nat)) (y := y) (HTL.out ⟨(n : Nat), y, z⟩ HSQ.out heq))
                                  clear hP hT hZ3 hC3 hSB hSd hMU hLW hM hY hM4 hg4 i0 heq
                                  go_wp2_with fail
                                  go_roundw
                                  case rel => exact ⟨j + 1, _, by omega, by go_num, HP.out, HT.out, HZ.out, HC.out, HS.out, HD.out, HMU.out, HLW.out, HM.out, HU5⟩
                                  case measure => simp [intOf]; omega
                                · have heq' : ((n : Int) == m1) = false := by simpa using heq
                                  have HP := Lib.hid hP
                                  have HT := Lib.hid hT
                                  have HZ := Lib.hid hZ3
                                  have HC := Lib.hid hC3
                                  have HS := Lib.hid hSB
                                  have HD := Lib.hid hSd
                                  have HMU := Lib.hid (hMU.mono (show 100 * k + 8 * i3 + j ≤ 100 * k + 8 * i3 + (j + 1) by omega))
                                  have HLW := Lib.hid hLW
                                  have HM := Lib.hid hM
                                  clear hP hT hZ3 hC3 hSB hSd hMU hLW hM hY heq m9
                                  go_wp2_with fail
                                  go_roundw
                                  case rel => exact ⟨j + 1, U4, by omega, by go_num, HP.out, HT.out, HZ.out, HC.out, HS.out, HD.out, HMU.out, HLW.out, HM.out, HU4⟩
                                  case measure => simp [intOf]; omega
                              · have hlj' : ¬ (j : Int) < (V'.cf.chain.length : Int) := by omega
                                have HP := Lib.hid hP
                                have HT := Lib.hid hT
                                have HZ := Lib.hid hZ3
                                have HC := Lib.hid hC3
                                have HS := Lib.hid hSB
                                have HD := Lib.hid hSd
                                have HMU := Lib.hid (hMU.mono (show 100 * k + 8 * i3 + j ≤ 100 * k + 8 * (i3 + 1) by omega))
                                have HLW := Lib.hid hLW
                                clear hP hT hZ3 hC3 hSB hSd hMU hLW hM
                                go_wp2_with fail
                                go_roundw
                                case rel => exact ⟨i3 + 1, U4, by omega, by go_num, HP.out, HT.out, HZ.out, HC.out, HS.out, HD.out, HMU.out, HLW.out, HU4⟩
                                case measure => simp [intOf]; omega
                      · have hil' : ¬ (i3 : Int) < (said.length : Int) := by omega
                        have HA : Hid (AmidL w wr B p s (k + 1) um lw sb) := Lib.hid ⟨_, _, _, _, _, U', La3, ply_next (N := 0) hP, by omega, by omega, hum, huw, hMU.mono (by omega), hLW, hll, hlw0, hSB, HU3.out, HL3.out⟩
                        clear hP hT hZ3 hC3 hSB hSd hMU hLW
                        go_wp2_with fail
                        go_roundw
                        case rel => exact ⟨k + 1, by omega, by go_num, HA.out⟩
                        case measure => simp [intOf]; omega
    · have hlt' : ¬ (k : Int) < (S.length : Int) := by omega
      have HLO := Lib.hid hP.low
      clear hP hMU hLW hSB
      go_wp2_with fail
      go_ret
      exact ⟨rfl, HLO.out⟩
set_option maxRecDepth 100000 in
theorem MasterLeases_walk {H : Type} {enc : TypeId × Value → H} {base : Nat} {d d2 : DataW H} {p p2 : List MemPlace} (v v2 : Value) (w : World) (hv : Value.okWide Tryz.prog w .any base 23 v) (ht : DataW.Trod enc Tryz.prog w 0 (fun _ => true) true 23 v d p)
    (hv2 : Value.okWide Tryz.prog w .any base 24 v2) (ht2 : DataW.Trod enc Tryz.prog w 0 (fun _ => true) true 24 v2 d2 p2) :
    Calls Tryz.prog 3 #[v, v2] w fun e w' => e = .returned (.bool true) ∧ Below w.heap.size w w' := by
  obtain ⟨s, _, rfl⟩ := open_setup hv ht
  obtain ⟨a, S, cap, rfl, hS⟩ := open_mops hv2 ht2
  exact MasterLeases_go hS


set_option maxRecDepth 100000 in
theorem MasterLeases_calls (H : Type) (enc : TypeId × Value → H) (W : World) (base : Nat) (args : Array Value) (ds gs : List (DataW H)) (before : List MemPlace)
    (hval : ∀ (j : Nat) t v, Tryz.f3.params[j]? = some t → args[j]? = some v → Value.okWide Tryz.prog W .any base t v)
    (hW : DataW.Whole enc Tryz.prog Tryz.f3.params.toList Rows.masterLeasesSpec.vars false W args.toList ds gs before) :
    Calls Tryz.prog 3 args W fun e W' => e = .returned (.bool true) ∧ Below W.heap.size W W' := by
  obtain ⟨p, q, hA, hV, rfl, hfz, hnd⟩ := hW
  rw [Tryz.params3] at hA hval
  obtain ⟨v0, vs0, d0, ds0, p0, q0, hargs, rfl, rfl, h0, r0⟩ := trodAll_cons hA
  obtain ⟨v1, vs1, d1, ds1, p1, q1, rfl, rfl, rfl, h1, r1⟩ := trodAll_cons r0
  obtain ⟨rfl, rfl, rfl⟩ := trodAll_nil r1
  obtain rfl : args = #[v0, v1] := Array.toList_inj.1 hargs

  exact MasterLeases_walk v0 v1 W (hval 0 23 v0 rfl rfl) h0 (hval 1 24 v1 rfl rfl) h1

set_option maxRecDepth 100000 in
theorem MasterLeases_lifted (os : Os) (started : os.Started) (H : Type) (enc : TypeId × Value → H) :
    ReturnsInHanded {} Tryz.checked os 3 .any (Rows.masterLeasesSpec.pre6 enc Tryz.prog Tryz.f3 Rows.masterLeasesRow.domain false) (Rows.masterLeasesSpec.post enc Tryz.prog Tryz.f3 false true false false) := by
  refine returnsInHanded_of_change (C := Tryz.checked) own started (by kernel_rfl) Tryz.func3
    (ChangeSpec.witness6 (enc := enc) (C := Tryz.checked) false ⟨#[], #[.agg #[.int .i64 0, .int .i64 0, .int .i64 0, .int .i64 0, .int .i64 0, .int .i64 0, .int .i64 0], .slice none 0 0], []⟩ 8 (by kernel_rfl) (by kernel_rfl) (by kernel_rfl) (by kernel_rfl)) ?_
  intro W base args ds gs before hval0 hW hcnd _
  have hval : ∀ (j : Nat) t v, Tryz.f3.params[j]? = some t → args[j]? = some v → Value.okWide Tryz.prog W .any base t v := hval0
  refine (MasterLeases_calls H enc W base args ds gs before hval hW).mono fun e W' ⟨he, bel⟩ => ?_
  exact ⟨_, he, law_post (ts := [23, 24]) (by rw [Tryz.params3]) (by intro t ht; simp only [List.mem_cons, List.not_mem_nil, or_false] at ht; rcases ht with rfl | rfl <;> exact ⟨by kernel_rfl, of_decide_eq_true (by kernel_rfl)⟩) hW rfl
    (fun ds h => by match ds, h with | [_, _], _ => rfl) (by kernel_rfl) bel⟩

theorem MasterLeases_over : Rows.masterLeasesRow.holds Tryz.pinned (OpenSpec.ofChange Rows.masterLeasesSpec) :=
  OpenClaim.holds_of_wide 3 Tryz.f3 rfl rfl rfl rfl rfl rfl rfl ⟨rfl, rfl, rfl, rfl, rfl⟩ rfl rfl rfl rfl rfl (by kernel_rfl) Tryz.func3 (by kernel_rfl)
    (of_decide_eq_true (by kernel_rfl)) (by unfold Func.isWrapper; first | (rw [if_pos (by decide +kernel)]; kernel_rfl) | (rw [if_neg (by decide +kernel)]; exact ⟨rfl, rfl⟩))
    (fun os started H enc _ => MasterLeases_lifted os started H enc)

/-- The statement. -/
theorem MasterLeases_proved : Rows.MasterLeasesSaid := MasterLeases_over

end Go.Proofs.YtomfmejodmfioaaGreat
