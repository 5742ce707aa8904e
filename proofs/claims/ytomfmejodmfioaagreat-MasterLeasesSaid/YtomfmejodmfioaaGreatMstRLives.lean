/- The document's: the lives of a chain's members. -/
import Derived.Test.YtomfmejodmfioaaGreatMstSaid
namespace Go.Proofs.YtomfmejodmfioaaGreat
open Go.RowKit Go.Maps Go.ChangeShapes Go.WideShapes Go.Joins Go.Deep
set_option linter.unusedVariables false

theorem beginL_len (L : List SeatV) : (beginL L).length = 8 := by
  have : ∀ (L : List SeatV) (f : List Int), (L.foldl (fun f s => f.set s.node.toNat s.life) f).length = f.length := by
    intro L
    induction L with
    | nil => intro f; rfl
    | cons s L ih => intro f; rw [List.foldl_cons, ih, List.length_set]
  exact this L _
def ints (l : List Int) : List Value := l.map (Value.int .i64 ·)
theorem ints_one (l : List Int) : (ints l).toArray.all (·.oneCell') = true := by simp [ints, Value.oneCell']
theorem ints_len (l : List Int) : (ints l).length = l.length := by simp [ints]
theorem ints_at {l : List Int} {n : Nat} (h : n < l.length) : (ints l)[n]? = some (.int .i64 ((l[n]?).getD 0)) := by
  simp [ints, h]
theorem ints_set (l : List Int) (n : Nat) (v : Int) : (ints l).set n (.int .i64 v) = ints (l.set n v) := by simp [ints, List.map_set]
theorem arr8_info : (Tryz.prog.info? 31).map (·.size) = some 8 := by kernel_rfl
set_option maxRecDepth 100000 in
set_option maxHeartbeats 4000000 in

theorem rlives_any {w : World} {c : ConfV} (hrt : rightC c = true) {v : Value} (hv : ChainS w v c.chain) :
    Calls Tryz.prog 12 #[.agg #[.int .i64 c.epoch, v]] w fun en w' => en = .returned (.agg (ints (beginL c.chain)).toArray) ∧ Below w.heap.size w w' := by
  obtain ⟨A, cap, rfl⟩ := hv.form
  have hl8 := right_len hrt
  have hrs : Hid (∀ s ∈ c.chain, ∃ n : Nat, n < 8 ∧ s.node = n ∧ 1 ≤ s.life ∧ s.life ≤ 1099511627776) := Lib.hid (fun s hs => right_seat hrt hs)
  clear hrt
  go_enter Tryz.func12, Tryz.ntmps12
  go_upto_region 2 with (fail)
  have hC : BlkAt (((w.alloc (.cells #[.int .i64 c.epoch, .slice A c.chain.length cap] 35)).alloc (.cells #[.int .i64 0, .int .i64 0, .int .i64 0, .int .i64 0, .int .i64 0, .int .i64 0, .int .i64 0, .int .i64 0] 31)).alloc (.cells #[.int .i64 0, .int .i64 0, .int .i64 0, .int .i64 0, .int .i64 0, .int .i64 0, .int .i64 0, .int .i64 0] 31)) w.heap.size 35 [.int .i64 c.epoch, .slice A c.chain.length cap] := ((BlkAt.new w 35 [.int .i64 c.epoch, .slice A c.chain.length cap]).alloc _).alloc _
  have hR : BlkAt (((w.alloc (.cells #[.int .i64 c.epoch, .slice A c.chain.length cap] 35)).alloc (.cells #[.int .i64 0, .int .i64 0, .int .i64 0, .int .i64 0, .int .i64 0, .int .i64 0, .int .i64 0, .int .i64 0] 31)).alloc (.cells #[.int .i64 0, .int .i64 0, .int .i64 0, .int .i64 0, .int .i64 0, .int .i64 0, .int .i64 0, .int .i64 0] 31)) (w.heap.size + 1) 31 [.int .i64 0, .int .i64 0, .int .i64 0, .int .i64 0, .int .i64 0, .int .i64 0, .int .i64 0, .int .i64 0] := (BlkAt.newAt (by simp) 31 [.int .i64 0, .int .i64 0, .int .i64 0, .int .i64 0, .int .i64 0, .int .i64 0, .int .i64 0, .int .i64 0]).alloc _
  have hO : BlkAt (((w.alloc (.cells #[.int .i64 c.epoch, .slice A c.chain.length cap] 35)).alloc (.cells #[.int .i64 0, .int .i64 0, .int .i64 0, .int .i64 0, .int .i64 0, .int .i64 0, .int .i64 0, .int .i64 0] 31)).alloc (.cells #[.int .i64 0, .int .i64 0, .int .i64 0, .int .i64 0, .int .i64 0, .int .i64 0, .int .i64 0, .int .i64 0] 31)) (w.heap.size + 2) 31 [.int .i64 0, .int .i64 0, .int .i64 0, .int .i64 0, .int .i64 0, .int .i64 0, .int .i64 0, .int .i64 0] := BlkAt.newAt (by simp) 31 [.int .i64 0, .int .i64 0, .int .i64 0, .int .i64 0, .int .i64 0, .int .i64 0, .int .i64 0, .int .i64 0]
  have hb : Below w.heap.size w (((w.alloc (.cells #[.int .i64 c.epoch, .slice A c.chain.length cap] 35)).alloc (.cells #[.int .i64 0, .int .i64 0, .int .i64 0, .int .i64 0, .int .i64 0, .int .i64 0, .int .i64 0, .int .i64 0] 31)).alloc (.cells #[.int .i64 0, .int .i64 0, .int .i64 0, .int .i64 0, .int .i64 0, .int .i64 0, .int .i64 0, .int .i64 0] 31)) := (((Below.refl w.heap.size w).alloc (Nat.le_refl _) _).alloc (by simp) _).alloc (by simp; omega) _
  have hWs : w.heap.size + 3 ≤ (((w.alloc (.cells #[.int .i64 c.epoch, .slice A c.chain.length cap] 35)).alloc (.cells #[.int .i64 0, .int .i64 0, .int .i64 0, .int .i64 0, .int .i64 0, .int .i64 0, .int .i64 0, .int .i64 0] 31)).alloc (.cells #[.int .i64 0, .int .i64 0, .int .i64 0, .int .i64 0, .int .i64 0, .int .i64 0, .int .i64 0, .int .i64 0] 31)).heap.size := by simp
  have hv := hv.below hb
  change Code.wp _ _ _ _ (((w.alloc (.cells #[.int .i64 c.epoch, .slice A c.chain.length cap] 35)).alloc (.cells #[.int .i64 0, .int .i64 0, .int .i64 0, .int .i64 0, .int .i64 0, .int .i64 0, .int .i64 0, .int .i64 0] 31)).alloc (.cells #[.int .i64 0, .int .i64 0, .int .i64 0, .int .i64 0, .int .i64 0, .int .i64 0, .int .i64 0, .int .i64 0] 31))
  generalize ((w.alloc (.cells #[.int .i64 c.epoch, .slice A c.chain.length cap] 35)).alloc (.cells #[.int .i64 0, .int .i64 0, .int .i64 0, .int .i64 0, .int .i64 0, .int .i64 0, .int .i64 0, .int .i64 0] 31)).alloc (.cells #[.int .i64 0, .int .i64 0, .int .i64 0, .int .i64 0, .int .i64 0, .int .i64 0, .int .i64 0, .int .i64 0] 31) = W at *
  have hRn : w.heap.size ≤ w.heap.size + 1 := by omega
  have hRb : w.heap.size + 1 < w.heap.size + 3 := by omega
  have hR0 : w.heap.size + 1 ≠ w.heap.size := by omega
  have hOn : w.heap.size ≤ w.heap.size + 2 := by omega
  have hOb : w.heap.size + 2 < w.heap.size + 3 := by omega
  have hO0 : w.heap.size + 2 ≠ w.heap.size := by omega
  have hO1 : w.heap.size + 2 ≠ w.heap.size + 1 := by omega
  generalize hOd : w.heap.size + 2 = O at *
  generalize hRd : w.heap.size + 1 = R at *
  obtain ⟨C, hCC⟩ : ∃ C, C = w.heap.size := ⟨_, rfl⟩
  rw [← hCC] at hC ⊢
  have hRO : O ≠ R := by omega
  have hOw : w.heap.size ≤ O := by omega
  have hRw : w.heap.size ≤ R := by omega
  have HRO := Lib.hid hRO
  clear hRd hOd hWs hRn hRb hR0 hOn hOb hO0 hO1 hCC hRO
  go_wp2_with fail
  go_loopw [4] (fun i wr => ∃ k : Nat, k ≤ c.chain.length ∧ i = .int .i64 k ∧ BlkAt wr C 35 [.int .i64 c.epoch, .slice A c.chain.length cap] ∧ BlkAt wr R 31 [.int .i64 0, .int .i64 0, .int .i64 0, .int .i64 0, .int .i64 0, .int .i64 0, .int .i64 0, .int .i64 0] ∧ BlkAt wr O 31 (ints (beginL (c.chain.take k))) ∧ ChainS wr (.slice A c.chain.length cap) c.chain ∧ Below w.heap.size w wr) (fun i _ => c.chain.length - (intOf i).toNat)
  case atStart => exact ⟨0, Nat.zero_le _, rfl, hC, hR, hO, hv, hb⟩
  case round =>
    obtain ⟨k, hk, rfl, hCr, hRr, hOr, hvr, hbr⟩ := hrel
    clear hC hR hO hv hb
    have hC := hCr
    have hR := hRr
    have hO := hOr
    have hv := hvr
    have hb := hbr
    clear hCr hRr hOr hvr hbr
    have c1 : wr.cell? ⟨C, 1, none⟩ = some (.slice A c.chain.length cap) := hC.cell rfl
    by_cases hlt : k < c.chain.length
    · obtain ⟨_, _, hqq, hs⟩ := hv.1
      injection hqq with e1 e2 e3
      subst e1
      obtain ⟨q, off, rfl, hab, hc⟩ := hs.2.2 (by omega)
      obtain ⟨sv, hs'⟩ : ∃ sv, c.chain[k]? = some sv := ⟨_, List.getElem?_eq_getElem hlt⟩
      obtain ⟨s0, s1, _⟩ := hc k sv hs'
      obtain ⟨n, hn8, hn, hy1, hy2⟩ := hrs.out sv (List.mem_of_getElem? hs')
      have HSL := Lib.hid (beginL_snoc hs')
      obtain ⟨x0, y, z⟩ := sv
      simp only at s0 s1 hn hy1 hy2 HSL
      subst hn
      rw [Int.toNat_natCast] at HSL
      have hn8' : (n : Int) < 8 := by omega
      clear hc hs' hs e2 e3
      go_upto_region 6 with (fail)
      have hX := BlkAt.new wr 42 [.int .i64 (n : Nat), .int .i64 y]
      replace hC := hC.below ((Below.refl _ _).alloc (Nat.le_refl _) (.cells #[.int .i64 (n : Nat), .int .i64 y] 42))
      replace hR := hR.below ((Below.refl _ _).alloc (Nat.le_refl _) (.cells #[.int .i64 (n : Nat), .int .i64 y] 42))
      replace hO := hO.below ((Below.refl _ _).alloc (Nat.le_refl _) (.cells #[.int .i64 (n : Nat), .int .i64 y] 42))
      replace hv := hv.below ((Below.refl _ _).alloc (Nat.le_refl _) (.cells #[.int .i64 (n : Nat), .int .i64 y] 42))
      replace hb := hb.alloc hb.size (.cells #[.int .i64 (n : Nat), .int .i64 y] 42)
      change Code.wp _ _ _ _ (wr.alloc (.cells #[.int .i64 (n : Nat), .int .i64 y] 42))
      change BlkAt (wr.alloc (.cells #[.int .i64 (n : Nat), .int .i64 y] 42)) _ _ _ at hX
      have hXn := (show wr.heap.size ≤ wr.heap.size from Nat.le_refl _)
      generalize wr.alloc (.cells #[.int .i64 (n : Nat), .int .i64 y] 42) = w3 at *
      generalize wr.heap.size = X at hX ⊢
      clear hXn
      clear s0 s1 c1
      have p0 : w3.cell? ⟨X, 0, none⟩ = some (.int .i64 (n : Nat)) := hX.cell rfl
      have p1 : w3.cell? ⟨X, 1, none⟩ = some (.int .i64 y) := hX.cell rfl
      have hll := beginL_len (c.chain.take k)
      generalize beginL (c.chain.take k) = ll at *
      have hcell := hO.cell (ints_at (l := ll) (n := n) (by omega))
      have hfr := hO.free
      have g := grown_setCell w3 O n (.int .i64 y)
      have HC := Lib.hid (hC.grown g (cells_ne hC.kind hO.kind (by decide)))
      have HR := Lib.hid (hR.grown g (Ne.symm HRO.out))
      have hO2 := hO.set n (.int .i64 y)
      rw [ints_set, ← HSL.out] at hO2
      have HO := Lib.hid hO2
      have HV := Lib.hid (ChainAt.grownS hv g (cells_not hO.kind (by decide)))
      have HB := Lib.hid (hb.grown g hb.size (fun j e => by cases e; exact hOw))
      clear hC hR hO hv hb hX hO2 g
      go_wp2_with fail
      go_roundw
      case rel => exact ⟨k + 1, by omega, by go_num, HC.out, HR.out, HO.out, HV.out, HB.out⟩
      case measure => simp [intOf]; omega
    · obtain rfl : k = c.chain.length := by omega
      rw [List.take_length] at hO
      have hll := beginL_len c.chain
      obtain ⟨ds, hds⟩ : ∃ ds, ds = ints (beginL c.chain) := ⟨_, rfl⟩
      have hlen : ds.length = 8 := by rw [hds, ints_len, hll]
      have hone : ds.toArray.all (·.oneCell') = true := by rw [hds]; exact ints_one _
      rw [← hds] at hO
      have HDS := Lib.hid hds
      have hl2 : ds.length = ([.int .i64 0, .int .i64 0, .int .i64 0, .int .i64 0, .int .i64 0, .int .i64 0, .int .i64 0, .int .i64 0] : List Value).length := by rw [hlen]; rfl
      have HM2 := Lib.hid (hR.stored (vs := ds) hl2)
      have HT2 := Lib.hid (mblk_there2 hR hl2)
      have G := grown_setCells R ds 0 wr
      have HB2 := Lib.hid (grown_below hb G hRw)
      have HO := Lib.hid hO
      clear hC hR hv hb hl2 hds G hO hll
      go_wp2_with (first | (refine wpList_load_mid rfl 31 (.tmp 3) rfl O 0 rfl ds _ HO.out.range Tryz.underlying31 rfl (by rw [hlen]; exact arr8_info) ?_; simp only [Act.put, List.setIfInBounds_toArray, List.set_cons_zero, List.set_cons_succ]) | (refine wpList_store_mid rfl 31 (.tmp 2) (.tmp 32) rfl R 0 ds.toArray rfl rfl (by exact HT2.out) (by rw [List.size_toArray, hlen]; exact arr8_info) hone ?_; rw [List.toList_toArray]))
      exact bodyPost_ret (v := .agg ds.toArray) (results_cell_row rfl _ _ R 31 ds.toArray (0, 0) _ rfl HM2.out Tryz.underlying31 rfl (by rw [List.size_toArray, hlen]; exact arr8_info)) rfl ⟨by rw [HDS.out], HB2.out⟩
end Go.Proofs.YtomfmejodmfioaaGreat
