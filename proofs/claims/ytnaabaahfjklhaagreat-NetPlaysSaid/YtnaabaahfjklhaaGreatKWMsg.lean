/- How a message lies in memory; the desk's fields that are no numbers alone: written. The desk's fires, written. -/
import Derived.Test.YtnaabaahfjklhaaGreatWireField
import Derived.Test.YtnaabaahfjklhaaGreatWireLaws
import Derived.Test.YtnaabaahfjklhaaGreatCfgTake
import Derived.Test.YtnaabaahfjklhaaGreatCfgPut
import Derived.Test.YtnaabaahfjklhaaGreatOpPut
import Derived.Test.YtnaabaahfjklhaaGreatKOp2
namespace Go.Proofs.YtnaabaahfjklhaaGreat
open Go.RowKit Go.ChangeShapes Go.WideShapes Go.Joins Go.Deep
set_option linter.unusedVariables false

/-- A slice that is the fires L. -/
def FiresAt (w : World) (v : Value) (L : List FireV) : Prop :=
  ∃ a cap, v = .slice a L.length cap ∧ L.length ≤ maxLen ∧ (0 < L.length → ∃ b off, a = some ⟨b, off, none⟩ ∧ b < w.heap.size ∧ ∀ i f, L[i]? = some f → ∀ j x, f.nums[j]? = some x → w.cell? ⟨b, off + i * 6 + j, none⟩ = some (.int .i64 x))
theorem FiresAt.below {w w' : World} {v : Value} {L : List FireV} (h : FiresAt w v L) (hb : Below w.heap.size w w') : FiresAt w' v L := by
  obtain ⟨a, cap, rfl, hl, hs⟩ := h
  refine ⟨a, cap, rfl, hl, fun hp => ?_⟩
  obtain ⟨b, off, ha, hlt, hc⟩ := hs hp
  exact ⟨b, off, ha, Nat.lt_of_lt_of_le hlt hb.size, fun i f hi j x hj => (hb.cell (p := ⟨b, _, none⟩) hlt).trans (hc i f hi j x hj)⟩
theorem FiresAt.alloc {w : World} {v : Value} {L : List FireV} (h : FiresAt w v L) (o : Obj) : FiresAt (w.alloc o) v L := h.below ((Below.refl _ _).alloc (Nat.le_refl _) o)
theorem FiresAt.nil (w : World) : FiresAt w (.slice none 0 0) [] := ⟨none, 0, rfl, Nat.zero_le _, by simp⟩
/-- A message's cells. -/
def msgCells (M : MsgV) (v1 v2 : Value) : List Value :=
  .int .i64 M.kind :: .int .i64 M.dst :: .int .i64 M.fn :: .int .i64 M.fl :: .int .i64 M.ep :: .int .i64 M.seq :: .int .i64 M.req :: .int .i64 M.cl :: .int .i64 M.id :: .int .i64 M.un :: .bool M.flag ::
    (opCells M.op ++ [.int .i64 M.re, .int .i64 M.rg, .int .i64 M.rd, .int .i64 M.cf.epoch, v1, v2, .int .i64 M.life])

set_option maxRecDepth 100000 in
set_option maxHeartbeats 1000000 in

theorem dflag_w {w : World} {B b d m : Nat} {l : List UInt8} {rv : Value} {cs : List Value} {f : Bool} (hD : BlkAt w d 118 [.pointer (some ⟨m, 0, none⟩), .pointer (some ⟨b, 0, none⟩), rv]) (hM : BlkAt w m 40 cs) (h10 : cs[10]? = some (.bool f))
    (hB : BldAt B b l w) (hBw : B ≤ w.heap.size) (hl : l.length ≤ 10000000) :
    Calls Tryz.prog 77 #[.pointer (some ⟨d, 0, none⟩)] w fun e w' => e = .returned (.tuple #[]) ∧ BldAt B b (l ++ [flagB f]) w' ∧ Below B w w' ∧ TKeep w w' := by
  have c0 : w.cell? ⟨d, 0, none⟩ = some (.pointer (some ⟨m, 0, none⟩)) := hD.cell rfl
  have c1 : w.cell? ⟨d, 1, none⟩ = some (.pointer (some ⟨b, 0, none⟩)) := hD.cell rfl
  have m10 : w.cell? ⟨m, 10, none⟩ = some (.bool f) := hM.cell h10
  clear hD hM h10
  cases f with
  | true =>
    go_enter Tryz.func77, Tryz.ntmps77
    go_wp2_with fail
    refine (wbyte_k 1 (by rfl) (by exact hB) (by omega) hBw).mono ?_
    rintro en w5 ⟨rfl, hB, b5, k5⟩
    clear c0 c1 m10
    go_wp2_with fail
    go_end0
    exact ⟨rfl, hB, b5, k5⟩
  | false =>
    go_enter Tryz.func77, Tryz.ntmps77
    go_wp2_with fail
    refine (wbyte_k 0 (by rfl) (by exact hB) (by omega) hBw).mono ?_
    rintro en w5 ⟨rfl, hB, b5, k5⟩
    clear c0 c1 m10
    go_wp2_with fail
    go_end0
    exact ⟨rfl, hB, b5, k5⟩

set_option maxRecDepth 100000 in
set_option maxHeartbeats 4000000 in

theorem dconf_w {w : World} {B b d m : Nat} {l : List UInt8} {rv : Value} {cs : List Value} {e : Int} {v : Value} {L : List SeatV} (hD : BlkAt w d 118 [.pointer (some ⟨m, 0, none⟩), .pointer (some ⟨b, 0, none⟩), rv]) (hM : BlkAt w m 40 cs)
    (h24 : cs[24]? = some (.int .i64 e)) (h25 : cs[25]? = some v) (hv : ChainAt w v L) (hL : L.length ≤ 100000)
    (hB : BldAt B b l w) (hBw : B ≤ w.heap.size) (hl : l.length ≤ 10000000) :
    Calls Tryz.prog 79 #[.pointer (some ⟨d, 0, none⟩)] w fun e' w' => e' = .returned (.tuple #[]) ∧ BldAt B b (l ++ encConf ⟨e, L⟩) w' ∧ Below B w w' ∧ TKeep w w' := by
  have c0 : w.cell? ⟨d, 0, none⟩ = some (.pointer (some ⟨m, 0, none⟩)) := hD.cell rfl
  have c1 : w.cell? ⟨d, 1, none⟩ = some (.pointer (some ⟨b, 0, none⟩)) := hD.cell rfl
  have m24 : w.cell? ⟨m, 24, none⟩ = some (.int .i64 e) := hM.cell h24
  have m25 : w.cell? ⟨m, 25, none⟩ = some v := hM.cell h25
  obtain ⟨a, cap, rfl, hs⟩ := hv
  have hv : ChainAt w (.slice a L.length cap) L := ⟨a, cap, rfl, hs⟩
  have hel := encConf_len ⟨e, L⟩
  simp only at hel
  have hlb : l.length + (encConf ⟨e, L⟩).length ≤ 100000000 := by omega
  clear hs hel
  go_enter Tryz.func79, Tryz.ntmps79
  go_wp2_with fail
  go_upto_region 1 with (fail)
  have hb : Below B w w := Below.refl _ _
  have hkp : TKeep w w := TKeep.refl _
  go_region_held3 (fun w' => w'.cell? ⟨d, 0, none⟩ = some (.pointer (some ⟨m, 0, none⟩)) ∧ w'.cell? ⟨d, 1, none⟩ = some (.pointer (some ⟨b, 0, none⟩)) ∧ w'.cell? ⟨m, 24, none⟩ = some (.int .i64 e) ∧ w'.cell? ⟨m, 25, none⟩ = some (.slice a L.length cap))
    (first | exact ⟨c0, c1, m24, m25⟩ | go_keep)
    (first
    | (go_at_call 94; refine (cput_any (by exact hv) e hL).mono ?_; rintro en wz ⟨rfl, bz⟩; have hB := BldAt.below (by exact hB) bz; have hkp : TKeep w wz := TKeep.trans (by exact hkp) (TKeep.below bz); have hb : Below B w wz := Below.trans (by first | exact hb | exact below_drewN hb 1) (bz.mono (by exact hBw)); have hBw : B ≤ wz.heap.size := Nat.le_trans hBw bz.size; have c0 : wz.cell? ⟨d, 0, none⟩ = some (.pointer (some ⟨m, 0, none⟩)) := (hD.tkeep hkp (by decide) (by decide)).cell rfl; have c1 : wz.cell? ⟨d, 1, none⟩ = some (.pointer (some ⟨b, 0, none⟩)) := (hD.tkeep hkp (by decide) (by decide)).cell rfl; have m24 : wz.cell? ⟨m, 24, none⟩ = some (.int .i64 e) := (hM.tkeep hkp (by decide) (by decide)).cell h24; have m25 : wz.cell? ⟨m, 25, none⟩ = some (.slice a L.length cap) := (hM.tkeep hkp (by decide) (by decide)).cell h25; clear bz)
    | (go_at_call 72; refine (wstr_k (encConf ⟨e, L⟩) (by exact hB) hlb (by exact hBw)).mono ?_; rintro en wz ⟨rfl, hB9, b9, k9⟩; have hkp : TKeep w wz := TKeep.trans (by exact hkp) k9; have hb : Below B w wz := Below.trans (by first | exact hb | exact below_drewN hb 1) b9; have hB := hB9; have c0 : wz.cell? ⟨d, 0, none⟩ = some (.pointer (some ⟨m, 0, none⟩)) := (hD.tkeep hkp (by decide) (by decide)).cell rfl; have c1 : wz.cell? ⟨d, 1, none⟩ = some (.pointer (some ⟨b, 0, none⟩)) := (hD.tkeep hkp (by decide) (by decide)).cell rfl; have m24 : wz.cell? ⟨m, 24, none⟩ = some (.int .i64 e) := (hM.tkeep hkp (by decide) (by decide)).cell h24; have m25 : wz.cell? ⟨m, 25, none⟩ = some (.slice a L.length cap) := (hM.tkeep hkp (by decide) (by decide)).cell h25; clear b9 k9 hB9))
  have HB := Lib.hid hB
  have HBW := Lib.hid hb
  have HK := Lib.hid hkp
  clear hB hb hkp c0 c1 m24 m25
  go_wp2_with fail
  go_end0
  exact ⟨rfl, HB.out, HBW.out, HK.out⟩
set_option maxRecDepth 100000 in
set_option maxHeartbeats 4000000 in

theorem dop_w {w : World} {B b d m : Nat} {l : List UInt8} {rv : Value} {cs : List Value} {k a1 a2 a3 a4 a5 a6 a7 a8 : Int} {s : List UInt8} (hD : BlkAt w d 118 [.pointer (some ⟨m, 0, none⟩), .pointer (some ⟨b, 0, none⟩), rv]) (hM : BlkAt w m 40 cs)
    (h11 : cs[11]? = some (.int .i64 k)) (h12 : cs[12]? = some (.int .i64 a1)) (h13 : cs[13]? = some (.int .i64 a2)) (h14 : cs[14]? = some (.int .i64 a3)) (h15 : cs[15]? = some (.int .i64 a4)) (h16 : cs[16]? = some (.int .i64 a5)) (h17 : cs[17]? = some (.int .i64 a6)) (h18 : cs[18]? = some (.int .i64 a7)) (h19 : cs[19]? = some (.int .i64 a8)) (h20 : cs[20]? = some (.string ⟨s.toArray⟩))
    (ho : OpOk ⟨k, [a1, a2, a3, a4, a5, a6, a7, a8], s⟩) (hs : s.length ≤ 1000000) (hB : BldAt B b l w) (hBw : B ≤ w.heap.size) (hl : l.length ≤ 10000000) :
    Calls Tryz.prog 82 #[.pointer (some ⟨d, 0, none⟩)] w fun e' w' => e' = .returned (.tuple #[]) ∧ BldAt B b (l ++ encOp ⟨k, [a1, a2, a3, a4, a5, a6, a7, a8], s⟩) w' ∧ Below B w w' ∧ TKeep w w' := by
  have c0 : w.cell? ⟨d, 0, none⟩ = some (.pointer (some ⟨m, 0, none⟩)) := (hD).cell rfl
  have c1 : w.cell? ⟨d, 1, none⟩ = some (.pointer (some ⟨b, 0, none⟩)) := (hD).cell rfl
  have m11 : w.cell? ⟨m, 11, none⟩ = some (.int .i64 k) := (hM).cell h11
  have m12 : w.cell? ⟨m, 12, none⟩ = some (.int .i64 a1) := (hM).cell h12
  have m13 : w.cell? ⟨m, 13, none⟩ = some (.int .i64 a2) := (hM).cell h13
  have m14 : w.cell? ⟨m, 14, none⟩ = some (.int .i64 a3) := (hM).cell h14
  have m15 : w.cell? ⟨m, 15, none⟩ = some (.int .i64 a4) := (hM).cell h15
  have m16 : w.cell? ⟨m, 16, none⟩ = some (.int .i64 a5) := (hM).cell h16
  have m17 : w.cell? ⟨m, 17, none⟩ = some (.int .i64 a6) := (hM).cell h17
  have m18 : w.cell? ⟨m, 18, none⟩ = some (.int .i64 a7) := (hM).cell h18
  have m19 : w.cell? ⟨m, 19, none⟩ = some (.int .i64 a8) := (hM).cell h19
  have m20 : w.cell? ⟨m, 20, none⟩ = some (.string ⟨s.toArray⟩) := (hM).cell h20
  have hel := encOp_len ho.1
  simp only at hel
  have hlb : l.length + (encOp ⟨k, [a1, a2, a3, a4, a5, a6, a7, a8], s⟩).length ≤ 100000000 := by omega
  clear hel
  go_enter Tryz.func82, Tryz.ntmps82
  go_wp2_with fail
  go_upto_region 1 with (fail)
  have hb : Below B w w := Below.refl _ _
  have hkp : TKeep w w := TKeep.refl _
  go_region_held3 (fun w' => w'.cell? ⟨d, 0, none⟩ = some (.pointer (some ⟨m, 0, none⟩)) ∧ w'.cell? ⟨d, 1, none⟩ = some (.pointer (some ⟨b, 0, none⟩)) ∧ w'.cell? ⟨m, 11, none⟩ = some (.int .i64 k) ∧ w'.cell? ⟨m, 12, none⟩ = some (.int .i64 a1) ∧ w'.cell? ⟨m, 13, none⟩ = some (.int .i64 a2) ∧ w'.cell? ⟨m, 14, none⟩ = some (.int .i64 a3) ∧ w'.cell? ⟨m, 15, none⟩ = some (.int .i64 a4) ∧ w'.cell? ⟨m, 16, none⟩ = some (.int .i64 a5) ∧ w'.cell? ⟨m, 17, none⟩ = some (.int .i64 a6) ∧ w'.cell? ⟨m, 18, none⟩ = some (.int .i64 a7) ∧ w'.cell? ⟨m, 19, none⟩ = some (.int .i64 a8) ∧ w'.cell? ⟨m, 20, none⟩ = some (.string ⟨s.toArray⟩))
    (first | exact ⟨c0, c1, m11, m12, m13, m14, m15, m16, m17, m18, m19, m20⟩ | go_keep)
    (first
    | (go_at_call 96; refine (put_any (o := ⟨k, [a1, a2, a3, a4, a5, a6, a7, a8], s⟩) ho hs _).mono ?_; rintro en wz ⟨rfl, bz⟩; have hB := BldAt.below (by exact hB) bz; have hkp : TKeep w wz := TKeep.trans (by exact hkp) (TKeep.below bz); have hb : Below B w wz := Below.trans (by first | exact hb | exact below_drewN hb 1) (bz.mono (by exact hBw)); have hBw : B ≤ wz.heap.size := Nat.le_trans hBw bz.size; have c0 : wz.cell? ⟨d, 0, none⟩ = some (.pointer (some ⟨m, 0, none⟩)) := (hD.tkeep hkp (by decide) (by decide)).cell rfl; have c1 : wz.cell? ⟨d, 1, none⟩ = some (.pointer (some ⟨b, 0, none⟩)) := (hD.tkeep hkp (by decide) (by decide)).cell rfl; have m11 : wz.cell? ⟨m, 11, none⟩ = some (.int .i64 k) := (hM.tkeep hkp (by decide) (by decide)).cell h11; have m12 : wz.cell? ⟨m, 12, none⟩ = some (.int .i64 a1) := (hM.tkeep hkp (by decide) (by decide)).cell h12; have m13 : wz.cell? ⟨m, 13, none⟩ = some (.int .i64 a2) := (hM.tkeep hkp (by decide) (by decide)).cell h13; have m14 : wz.cell? ⟨m, 14, none⟩ = some (.int .i64 a3) := (hM.tkeep hkp (by decide) (by decide)).cell h14; have m15 : wz.cell? ⟨m, 15, none⟩ = some (.int .i64 a4) := (hM.tkeep hkp (by decide) (by decide)).cell h15; have m16 : wz.cell? ⟨m, 16, none⟩ = some (.int .i64 a5) := (hM.tkeep hkp (by decide) (by decide)).cell h16; have m17 : wz.cell? ⟨m, 17, none⟩ = some (.int .i64 a6) := (hM.tkeep hkp (by decide) (by decide)).cell h17; have m18 : wz.cell? ⟨m, 18, none⟩ = some (.int .i64 a7) := (hM.tkeep hkp (by decide) (by decide)).cell h18; have m19 : wz.cell? ⟨m, 19, none⟩ = some (.int .i64 a8) := (hM.tkeep hkp (by decide) (by decide)).cell h19; have m20 : wz.cell? ⟨m, 20, none⟩ = some (.string ⟨s.toArray⟩) := (hM.tkeep hkp (by decide) (by decide)).cell h20; clear bz)
    | (go_at_call 72; refine (wstr_k (encOp ⟨k, [a1, a2, a3, a4, a5, a6, a7, a8], s⟩) (by exact hB) hlb (by exact hBw)).mono ?_; rintro en wz ⟨rfl, hB9, b9, k9⟩; have hkp : TKeep w wz := TKeep.trans (by exact hkp) k9; have hb : Below B w wz := Below.trans (by first | exact hb | exact below_drewN hb 1) b9; have hB := hB9; have c0 : wz.cell? ⟨d, 0, none⟩ = some (.pointer (some ⟨m, 0, none⟩)) := (hD.tkeep hkp (by decide) (by decide)).cell rfl; have c1 : wz.cell? ⟨d, 1, none⟩ = some (.pointer (some ⟨b, 0, none⟩)) := (hD.tkeep hkp (by decide) (by decide)).cell rfl; have m11 : wz.cell? ⟨m, 11, none⟩ = some (.int .i64 k) := (hM.tkeep hkp (by decide) (by decide)).cell h11; have m12 : wz.cell? ⟨m, 12, none⟩ = some (.int .i64 a1) := (hM.tkeep hkp (by decide) (by decide)).cell h12; have m13 : wz.cell? ⟨m, 13, none⟩ = some (.int .i64 a2) := (hM.tkeep hkp (by decide) (by decide)).cell h13; have m14 : wz.cell? ⟨m, 14, none⟩ = some (.int .i64 a3) := (hM.tkeep hkp (by decide) (by decide)).cell h14; have m15 : wz.cell? ⟨m, 15, none⟩ = some (.int .i64 a4) := (hM.tkeep hkp (by decide) (by decide)).cell h15; have m16 : wz.cell? ⟨m, 16, none⟩ = some (.int .i64 a5) := (hM.tkeep hkp (by decide) (by decide)).cell h16; have m17 : wz.cell? ⟨m, 17, none⟩ = some (.int .i64 a6) := (hM.tkeep hkp (by decide) (by decide)).cell h17; have m18 : wz.cell? ⟨m, 18, none⟩ = some (.int .i64 a7) := (hM.tkeep hkp (by decide) (by decide)).cell h18; have m19 : wz.cell? ⟨m, 19, none⟩ = some (.int .i64 a8) := (hM.tkeep hkp (by decide) (by decide)).cell h19; have m20 : wz.cell? ⟨m, 20, none⟩ = some (.string ⟨s.toArray⟩) := (hM.tkeep hkp (by decide) (by decide)).cell h20; clear b9 k9 hB9))
  have HB := Lib.hid hB
  have HBW := Lib.hid hb
  have HK := Lib.hid hkp
  clear hB hb hkp c0 c1 m11 m12 m13 m14 m15 m16 m17 m18 m19 m20
  go_wp2_with fail
  go_end0
  exact ⟨rfl, HB.out, HBW.out, HK.out⟩

theorem setCell_same {w : World} {b i : Nat} {T : TypeId} {cs : List Value} {v : Value} (h : BlkAt w b T cs) (hv : cs[i]? = some v) : w.setCell ⟨b, i, none⟩ v = w := by
  have h1 : (w.setCell ⟨b, i, none⟩ v).heap = w.heap := by
    apply Array.ext_getElem?
    intro k
    by_cases hk : k = b
    · subst hk
      have h2 := h.set i v
      unfold BlkAt at h h2
      rw [h, h2]
      congr 2
      obtain ⟨hi, rfl⟩ := List.getElem?_eq_some_iff.1 hv
      rw [List.set_getElem_self]
    · exact Below.heap_setCell _ _ _ _ (fun e => hk e)
  have h2 : w.setCell ⟨b, i, none⟩ v = { w with heap := (w.setCell ⟨b, i, none⟩ v).heap } := rfl
  rw [h2, h1]

set_option maxRecDepth 100000 in
set_option maxHeartbeats 4000000 in

theorem dreply_w {w : World} {B b d m : Nat} {l : List UInt8} {rv : Value} {cs : List Value} {x y z : Int} (hD : BlkAt w d 118 [.pointer (some ⟨m, 0, none⟩), .pointer (some ⟨b, 0, none⟩), rv]) (hM : BlkAt w m 40 cs)
    (h21 : cs[21]? = some (.int .i64 x)) (h22 : cs[22]? = some (.int .i64 y)) (h23 : cs[23]? = some (.int .i64 z)) (wx : W64 x) (wy : W64 y) (wz : W64 z)
    (hB : BldAt B b l w) (hBw : B ≤ w.heap.size) (hl : l.length ≤ 10000000) :
    Calls Tryz.prog 84 #[.pointer (some ⟨d, 0, none⟩)] w fun e' w' => e' = .returned (.tuple #[]) ∧ BldAt B b (l ++ encI [x, y, z]) w' ∧ Below B w w' ∧ TKeep w w' := by
  have c0 : w.cell? ⟨d, 0, none⟩ = some (.pointer (some ⟨m, 0, none⟩)) := hD.cell rfl
  have m21 : w.cell? ⟨m, 21, none⟩ = some (.int .i64 x) := hM.cell h21
  have hE := BlkAt.new w 3 [.int .i64 x]
  have hD1 := hD.alloc (.cells #[.int .i64 x] 3)
  have hM1 := hM.alloc (.cells #[.int .i64 x] 3)
  have b2 := (Below.refl w.heap.size w).alloc (Nat.le_refl _) (.cells #[.int .i64 x] 3)
  have hB1 := hB.below b2
  have k1 := TKeep.below b2
  have b1 := b2.mono hBw
  have hBw1 := Nat.le_trans hBw b1.size
  go_enter Tryz.func84, Tryz.ntmps84
  go_upto_region 1 with (fail)
  change Code.wp _ _ _ _ (w.alloc (.cells #[.int .i64 x] 3))
  change BlkAt (w.alloc (.cells #[.int .i64 x] 3)) _ _ _ at hE
  clear hD hM hB hBw b2 c0 m21
  have hD := hD1
  have hM := hM1
  have hB := hB1
  have hBw := hBw1
  clear hD1 hM1 hB1 hBw1
  generalize w.alloc (.cells #[.int .i64 x] 3) = W at *
  generalize w.heap.size = E at *
  have c0 : W.cell? ⟨d, 0, none⟩ = some (.pointer (some ⟨m, 0, none⟩)) := hD.cell rfl
  have hP : PtrsAt B (W.alloc (.cells #[.pointer (some ⟨E, 0, none⟩), .pointer (some ⟨m, 22, none⟩), .pointer (some ⟨m, 23, none⟩)] 123)) W.heap.size [(E, 0), (m, 22), (m, 23)] [x, y, z] := by
    refine ⟨BlkAt.new W 123 [.pointer (some ⟨E, 0, none⟩), .pointer (some ⟨m, 22, none⟩), .pointer (some ⟨m, 23, none⟩)], rfl, fun i A x g1 g2 => ?_⟩
    match i, g1, g2 with
    | 0, g1, g2 => simp at g1 g2; obtain rfl := g1; obtain rfl := g2; exact .inl ⟨_, _, _, hE.alloc (.cells #[.pointer (some ⟨E, 0, none⟩), .pointer (some ⟨m, 22, none⟩), .pointer (some ⟨m, 23, none⟩)] 123), by decide, by decide, rfl⟩
    | 1, g1, g2 => simp at g1 g2; obtain rfl := g1; obtain rfl := g2; exact .inl ⟨_, _, _, hM.alloc (.cells #[.pointer (some ⟨E, 0, none⟩), .pointer (some ⟨m, 22, none⟩), .pointer (some ⟨m, 23, none⟩)] 123), by decide, by decide, by simpa using h22⟩
    | 2, g1, g2 => simp at g1 g2; obtain rfl := g1; obtain rfl := g2; exact .inl ⟨_, _, _, hM.alloc (.cells #[.pointer (some ⟨E, 0, none⟩), .pointer (some ⟨m, 22, none⟩), .pointer (some ⟨m, 23, none⟩)] 123), by decide, by decide, by simpa using h23⟩
  have hx : ∀ u ∈ [x, y, z], W64 u := by
    intro u hu
    simp only [List.mem_cons, List.not_mem_nil, or_false] at hu
    rcases hu with rfl | rfl | rfl
    all_goals assumption
  have bb0 : Below W.heap.size W (W.alloc (.cells #[.pointer (some ⟨E, 0, none⟩), .pointer (some ⟨m, 22, none⟩), .pointer (some ⟨m, 23, none⟩)] 123)) := (Below.refl _ _).alloc (Nat.le_refl _) _
  have bb : Below W.heap.size W (W.alloc (.cells #[.pointer (some ⟨E, 0, none⟩), .pointer (some ⟨m, 22, none⟩), .pointer (some ⟨m, 23, none⟩)] 123)).drew := ⟨bb0.os, bb0.tape, bb0.output, bb0.size, bb0.block⟩
  have hP : PtrsAt B (W.alloc (.cells #[.pointer (some ⟨E, 0, none⟩), .pointer (some ⟨m, 22, none⟩), .pointer (some ⟨m, 23, none⟩)] 123)).drew W.heap.size [(E, 0), (m, 22), (m, 23)] [x, y, z] := ⟨hP.row, hP.len, hP.ints⟩
  have k0 : TKeep W (W.alloc (.cells #[.pointer (some ⟨E, 0, none⟩), .pointer (some ⟨m, 22, none⟩), .pointer (some ⟨m, 23, none⟩)] 123)).drew := TKeep.below bb
  have b0 : Below B W (W.alloc (.cells #[.pointer (some ⟨E, 0, none⟩), .pointer (some ⟨m, 22, none⟩), .pointer (some ⟨m, 23, none⟩)] 123)).drew := bb.mono hBw
  go_region_held3 (fun w' => w'.cell? ⟨d, 0, none⟩ = some (.pointer (some ⟨m, 0, none⟩)))
    (first | exact c0 | go_keep)
    ((go_at_call 56; refine (ints_write (As := [(E, 0), (m, 22), (m, 23)]) (xs := [x, y, z]) (by exact hD.alloc (.cells #[.pointer (some ⟨E, 0, none⟩), .pointer (some ⟨m, 22, none⟩), .pointer (some ⟨m, 23, none⟩)] 123)) (by exact hP) hx (by exact BldAt.below hB bb) (by exact Nat.le_trans hBw bb.size) hl (by simp)).mono ?_; rintro en w2 ⟨rfl, hB2, b2, k2⟩; have c0 : w2.cell? ⟨d, 0, none⟩ = some (.pointer (some ⟨m, 0, none⟩)) := (hD.tkeep (k0.trans k2) (by decide) (by decide)).cell rfl))
  have kk := k0.trans k2
  have hM2 : BlkAt w2 m 40 cs := hM.tkeep kk (by decide) (by decide)
  have e0 : w2.cell? ⟨E, 0, none⟩ = some (.int .i64 x) := (hE.tkeep kk (by decide) (by decide)).cell rfl
  have m21 : w2.cell? ⟨m, 21, none⟩ = some (.int .i64 x) := hM2.cell h21
  have hf := hM2.free 21
  have HS := Lib.hid (setCell_same hM2.drew h21)
  have HB : Hid (BldAt B b _ w2.drew) := Lib.hid hB2
  have HK : Hid (TKeep w w2.drew) := Lib.hid (k1.trans kk)
  have HW := Lib.hid (below_drewN (b1.trans (b0.trans b2)) 1)
  clear hB2 k2 b2 hP hx k0 b0 kk hM2 bb bb0 b1 k1
  go_wp2_with fail
  go_region
  go_wp2_with fail
  change bodyPost _ _ _ _ _ (w2.drew.setCell ⟨m, 21, none⟩ (.int .i64 x))
  rw [HS.out]
  go_end0
  exact ⟨rfl, HB.out, HW.out, HK.out⟩
end Go.Proofs.YtnaabaahfjklhaaGreat
namespace Go.Proofs.YtnaabaahfjklhaaGreat
open Go.RowKit Go.ChangeShapes Go.WideShapes Go.Joins Go.Deep
set_option linter.unusedVariables false

theorem encX_snoc {L : List FireV} {k : Nat} {f : FireV} (h : L[k]? = some f) : encX (L.take (k + 1)) = encX (L.take k) ++ encI f.nums := by
  rw [List.take_add_one, h, Option.toList_some, encX_append]
  simp [encX]
theorem encX_len (L : List FireV) : (encX L).length ≤ 60 * L.length := by
  induction L with
  | nil => simp [encX]
  | cons f L ih =>
    have h : (encI f.nums).length ≤ 60 := encI_len f.nums
    rw [encX_cons, List.length_append, List.length_cons]
    omega

set_option maxRecDepth 100000 in
set_option maxHeartbeats 4000000 in

theorem dfires_w {w w0 : World} {B b d m : Nat} {l : List UInt8} {rv : Value} {cs : List Value} {v : Value} {L : List FireV} (hD : BlkAt w d 118 [.pointer (some ⟨m, 0, none⟩), .pointer (some ⟨b, 0, none⟩), rv]) (hM : BlkAt w m 40 cs)
    (h26 : cs[26]? = some v) (hv : FiresAt w0 v L) (hbw : Below w0.heap.size w0 w) (hwB : w0.heap.size ≤ B) (hL : L.length ≤ 8) (hW : ∀ f ∈ L, ∀ x ∈ f.nums, W64 x)
    (hB : BldAt B b l w) (hBw : B ≤ w.heap.size) (hl : l.length ≤ 1000000) :
    Calls Tryz.prog 87 #[.pointer (some ⟨d, 0, none⟩)] w fun e' w' => e' = .returned (.tuple #[]) ∧ BldAt B b (l ++ (enc L.length ++ encX L)) w' ∧ Below B w w' ∧ TKeep w w' := by
  obtain ⟨a, cap, rfl, hlm, hs⟩ := hv
  have c0 : w.cell? ⟨d, 0, none⟩ = some (.pointer (some ⟨m, 0, none⟩)) := hD.cell rfl
  have c1 : w.cell? ⟨d, 1, none⟩ = some (.pointer (some ⟨b, 0, none⟩)) := hD.cell rfl
  have m26 : w.cell? ⟨m, 26, none⟩ = some (.slice a L.length cap) := hM.cell h26
  have hu : IntKind.u64.wrap (L.length : Int) = (L.length : Int) := by rw [IntKind.wrap_u64]; omega
  have hen := (enc_len L.length).2
  have hlb : l.length + (enc L.length).length ≤ 100000000 := by omega
  have hf64 : F64 L.length := by unfold F64; omega
  have hBw0 := hBw
  have hb : Below B w w := Below.refl _ _
  have hkp : TKeep w w := TKeep.refl _
  have HU := Lib.hid hu
  go_enter Tryz.func87, Tryz.ntmps87
  go_wp2_with fail
  go_upto_region 1 with (fail)
  go_region_held3 (fun w' => w'.cell? ⟨d, 0, none⟩ = some (.pointer (some ⟨m, 0, none⟩)) ∧ w'.cell? ⟨d, 1, none⟩ = some (.pointer (some ⟨b, 0, none⟩)) ∧ w'.cell? ⟨m, 26, none⟩ = some (.slice a L.length cap))
    (first | exact ⟨c0, c1, m26⟩ | go_keep)
    (first
    | (go_at_call 92; refine (cuint_any L.length hf64 _).mono ?_; rintro en wz ⟨rfl, bz⟩; have hB := BldAt.below (by exact hB) bz; have hkp : TKeep w wz := TKeep.trans (by exact hkp) (TKeep.below bz); have hb : Below B w wz := Below.trans (by first | exact hb | exact below_drewN hb 1) (bz.mono (by exact hBw)); have hBw : B ≤ wz.heap.size := Nat.le_trans hBw bz.size; have c0 : wz.cell? ⟨d, 0, none⟩ = some (.pointer (some ⟨m, 0, none⟩)) := (hD.tkeep hkp (by decide) (by decide)).cell rfl; have c1 : wz.cell? ⟨d, 1, none⟩ = some (.pointer (some ⟨b, 0, none⟩)) := (hD.tkeep hkp (by decide) (by decide)).cell rfl; have m26 : wz.cell? ⟨m, 26, none⟩ = some (.slice a L.length cap) := (hM.tkeep hkp (by decide) (by decide)).cell h26; clear bz)
    | (go_at_call 72; refine (wstr_k (enc L.length) (by exact hB) hlb (by exact hBw)).mono ?_; rintro en wz ⟨rfl, hB9, b9, k9⟩; have hkp : TKeep w wz := TKeep.trans (by exact hkp) k9; have hb : Below B w wz := Below.trans (by first | exact hb | exact below_drewN hb 1) b9; have hB := hB9; have c0 : wz.cell? ⟨d, 0, none⟩ = some (.pointer (some ⟨m, 0, none⟩)) := (hD.tkeep hkp (by decide) (by decide)).cell rfl; have c1 : wz.cell? ⟨d, 1, none⟩ = some (.pointer (some ⟨b, 0, none⟩)) := (hD.tkeep hkp (by decide) (by decide)).cell rfl; have m26 : wz.cell? ⟨m, 26, none⟩ = some (.slice a L.length cap) := (hM.tkeep hkp (by decide) (by decide)).cell h26; clear b9 k9 hB9))
  have hs' : ∀ k f, L[k]? = some f → ∃ F off, a = some ⟨F, off, none⟩ ∧ F < B ∧ ∀ j x, f.nums[j]? = some x → w.cell? ⟨F, off + k * 6 + j, none⟩ = some (.int .i64 x) := by
    intro k f hk
    have hk2 := (List.getElem?_eq_some_iff.1 hk).1
    obtain ⟨F, off, ha, hlt, hc⟩ := hs (by omega)
    exact ⟨F, off, ha, by omega, fun j x hj => (hbw.cell (p := ⟨F, _, none⟩) hlt).trans (hc k f hk j x hj)⟩
  clear hs hbw
  have HS := Lib.hid hs'
  have HB := Lib.hid hB
  have HBW := Lib.hid hb
  have HK := Lib.hid hkp
  clear hs' hB hb hkp c1 hu
  generalize hm : l ++ enc L.length = l1 at HB
  have hl1 : l1.length ≤ 1000100 := by rw [← hm, List.length_append]; omega
  have HM := Lib.hid hm
  clear hm hen hlb hf64
  go_wp2_with fail
  go_loopw [53] (fun i wr => ∃ k : Nat, k ≤ L.length ∧ i = .int .i64 k ∧ BldAt B b (l1 ++ encX (L.take k)) wr ∧ Below B w wr ∧ TKeep w wr) (fun i _ => L.length - (intOf i).toNat)
  case atStart => exact ⟨0, Nat.zero_le _, rfl, by simpa [encX] using HB.out, HBW.out, HK.out⟩
  case round =>
    obtain ⟨k, hk, rfl, hB, hb, hkp⟩ := hrel
    clear HB HBW HK
    have hlx := encX_len (L.take k)
    have hlt6 : (L.take k).length ≤ 8 := by rw [List.length_take]; omega
    by_cases hlt : k < L.length
    · obtain ⟨f, hfk⟩ : ∃ f, L[k]? = some f := ⟨_, List.getElem?_eq_getElem hlt⟩
      obtain ⟨F, off, rfl, hFB, hc⟩ := HS.out k f hfk
      have HX := Lib.hid (encX_snoc hfk)
      have hWf := hW f (List.mem_of_getElem? hfk)
      obtain ⟨x1, x2, x3, x4, x5, x6⟩ := f
      have HC := Lib.hid hc
      have hDr := hD.tkeep hkp (by decide) (by decide)
      have hMr := hM.tkeep hkp (by decide) (by decide)
      have c0 : wr.cell? ⟨d, 0, none⟩ = some (.pointer (some ⟨m, 0, none⟩)) := hDr.cell rfl
      have m26 : wr.cell? ⟨m, 26, none⟩ = some (.slice (some ⟨F, off, none⟩) L.length cap) := hMr.cell h26
      have HPl : Hid ((l1 ++ encX (L.take k)).length ≤ 1001000) := Lib.hid (by rw [List.length_append]; omega)
      clear hc hfk hlx hlt6
      generalize hm : l1 ++ encX (L.take k) = l2 at *
      have HM2 := Lib.hid hm
      clear hm
      go_upto_region 10 with (fail)
      clear c0 m26
      have hBwr := Nat.le_trans hBw0 hb.size
      have hP : PtrsAt B (wr.alloc (.cells #[.pointer (some ⟨F, off + k * 6, none⟩), .pointer (some ⟨F, off + k * 6 + 1, none⟩), .pointer (some ⟨F, off + k * 6 + 2, none⟩), .pointer (some ⟨F, off + k * 6 + 3, none⟩), .pointer (some ⟨F, off + k * 6 + 4, none⟩), .pointer (some ⟨F, off + k * 6 + 5, none⟩)] 123)) wr.heap.size [(F, off + k * 6), (F, off + k * 6 + 1), (F, off + k * 6 + 2), (F, off + k * 6 + 3), (F, off + k * 6 + 4), (F, off + k * 6 + 5)] [x1, x2, x3, x4, x5, x6] := by
        refine ⟨BlkAt.new wr 123 [.pointer (some ⟨F, off + k * 6, none⟩), .pointer (some ⟨F, off + k * 6 + 1, none⟩), .pointer (some ⟨F, off + k * 6 + 2, none⟩), .pointer (some ⟨F, off + k * 6 + 3, none⟩), .pointer (some ⟨F, off + k * 6 + 4, none⟩), .pointer (some ⟨F, off + k * 6 + 5, none⟩)], rfl, fun i A x g1 g2 => ?_⟩
        match i, g1, g2 with
        | 0, g1, g2 => simp at g1 g2; obtain rfl := g1; obtain rfl := g2; exact .inr ⟨hFB, ((hb.alloc hBwr (.cells #[.pointer (some ⟨F, off + k * 6, none⟩), .pointer (some ⟨F, off + k * 6 + 1, none⟩), .pointer (some ⟨F, off + k * 6 + 2, none⟩), .pointer (some ⟨F, off + k * 6 + 3, none⟩), .pointer (some ⟨F, off + k * 6 + 4, none⟩), .pointer (some ⟨F, off + k * 6 + 5, none⟩)] 123)).cell (p := ⟨F, _, none⟩) hFB).trans (HC.out 0 _ rfl)⟩
        | 1, g1, g2 => simp at g1 g2; obtain rfl := g1; obtain rfl := g2; exact .inr ⟨hFB, ((hb.alloc hBwr (.cells #[.pointer (some ⟨F, off + k * 6, none⟩), .pointer (some ⟨F, off + k * 6 + 1, none⟩), .pointer (some ⟨F, off + k * 6 + 2, none⟩), .pointer (some ⟨F, off + k * 6 + 3, none⟩), .pointer (some ⟨F, off + k * 6 + 4, none⟩), .pointer (some ⟨F, off + k * 6 + 5, none⟩)] 123)).cell (p := ⟨F, _, none⟩) hFB).trans (HC.out 1 _ rfl)⟩
        | 2, g1, g2 => simp at g1 g2; obtain rfl := g1; obtain rfl := g2; exact .inr ⟨hFB, ((hb.alloc hBwr (.cells #[.pointer (some ⟨F, off + k * 6, none⟩), .pointer (some ⟨F, off + k * 6 + 1, none⟩), .pointer (some ⟨F, off + k * 6 + 2, none⟩), .pointer (some ⟨F, off + k * 6 + 3, none⟩), .pointer (some ⟨F, off + k * 6 + 4, none⟩), .pointer (some ⟨F, off + k * 6 + 5, none⟩)] 123)).cell (p := ⟨F, _, none⟩) hFB).trans (HC.out 2 _ rfl)⟩
        | 3, g1, g2 => simp at g1 g2; obtain rfl := g1; obtain rfl := g2; exact .inr ⟨hFB, ((hb.alloc hBwr (.cells #[.pointer (some ⟨F, off + k * 6, none⟩), .pointer (some ⟨F, off + k * 6 + 1, none⟩), .pointer (some ⟨F, off + k * 6 + 2, none⟩), .pointer (some ⟨F, off + k * 6 + 3, none⟩), .pointer (some ⟨F, off + k * 6 + 4, none⟩), .pointer (some ⟨F, off + k * 6 + 5, none⟩)] 123)).cell (p := ⟨F, _, none⟩) hFB).trans (HC.out 3 _ rfl)⟩
        | 4, g1, g2 => simp at g1 g2; obtain rfl := g1; obtain rfl := g2; exact .inr ⟨hFB, ((hb.alloc hBwr (.cells #[.pointer (some ⟨F, off + k * 6, none⟩), .pointer (some ⟨F, off + k * 6 + 1, none⟩), .pointer (some ⟨F, off + k * 6 + 2, none⟩), .pointer (some ⟨F, off + k * 6 + 3, none⟩), .pointer (some ⟨F, off + k * 6 + 4, none⟩), .pointer (some ⟨F, off + k * 6 + 5, none⟩)] 123)).cell (p := ⟨F, _, none⟩) hFB).trans (HC.out 4 _ rfl)⟩
        | 5, g1, g2 => simp at g1 g2; obtain rfl := g1; obtain rfl := g2; exact .inr ⟨hFB, ((hb.alloc hBwr (.cells #[.pointer (some ⟨F, off + k * 6, none⟩), .pointer (some ⟨F, off + k * 6 + 1, none⟩), .pointer (some ⟨F, off + k * 6 + 2, none⟩), .pointer (some ⟨F, off + k * 6 + 3, none⟩), .pointer (some ⟨F, off + k * 6 + 4, none⟩), .pointer (some ⟨F, off + k * 6 + 5, none⟩)] 123)).cell (p := ⟨F, _, none⟩) hFB).trans (HC.out 5 _ rfl)⟩
      have bb0 : Below wr.heap.size wr (wr.alloc (.cells #[.pointer (some ⟨F, off + k * 6, none⟩), .pointer (some ⟨F, off + k * 6 + 1, none⟩), .pointer (some ⟨F, off + k * 6 + 2, none⟩), .pointer (some ⟨F, off + k * 6 + 3, none⟩), .pointer (some ⟨F, off + k * 6 + 4, none⟩), .pointer (some ⟨F, off + k * 6 + 5, none⟩)] 123)) := (Below.refl _ _).alloc (Nat.le_refl _) _
      have bb : Below wr.heap.size wr (wr.alloc (.cells #[.pointer (some ⟨F, off + k * 6, none⟩), .pointer (some ⟨F, off + k * 6 + 1, none⟩), .pointer (some ⟨F, off + k * 6 + 2, none⟩), .pointer (some ⟨F, off + k * 6 + 3, none⟩), .pointer (some ⟨F, off + k * 6 + 4, none⟩), .pointer (some ⟨F, off + k * 6 + 5, none⟩)] 123)).drew := ⟨bb0.os, bb0.tape, bb0.output, bb0.size, bb0.block⟩
      have hP : PtrsAt B (wr.alloc (.cells #[.pointer (some ⟨F, off + k * 6, none⟩), .pointer (some ⟨F, off + k * 6 + 1, none⟩), .pointer (some ⟨F, off + k * 6 + 2, none⟩), .pointer (some ⟨F, off + k * 6 + 3, none⟩), .pointer (some ⟨F, off + k * 6 + 4, none⟩), .pointer (some ⟨F, off + k * 6 + 5, none⟩)] 123)).drew wr.heap.size [(F, off + k * 6), (F, off + k * 6 + 1), (F, off + k * 6 + 2), (F, off + k * 6 + 3), (F, off + k * 6 + 4), (F, off + k * 6 + 5)] [x1, x2, x3, x4, x5, x6] := ⟨hP.row, hP.len, hP.ints⟩
      have k0 : TKeep wr (wr.alloc (.cells #[.pointer (some ⟨F, off + k * 6, none⟩), .pointer (some ⟨F, off + k * 6 + 1, none⟩), .pointer (some ⟨F, off + k * 6 + 2, none⟩), .pointer (some ⟨F, off + k * 6 + 3, none⟩), .pointer (some ⟨F, off + k * 6 + 4, none⟩), .pointer (some ⟨F, off + k * 6 + 5, none⟩)] 123)).drew := TKeep.below bb
      have b0 : Below B wr (wr.alloc (.cells #[.pointer (some ⟨F, off + k * 6, none⟩), .pointer (some ⟨F, off + k * 6 + 1, none⟩), .pointer (some ⟨F, off + k * 6 + 2, none⟩), .pointer (some ⟨F, off + k * 6 + 3, none⟩), .pointer (some ⟨F, off + k * 6 + 4, none⟩), .pointer (some ⟨F, off + k * 6 + 5, none⟩)] 123)).drew := bb.mono hBwr
      go_region_held3 (fun w' => True)
        (first | trivial | go_keep)
        ((go_at_call 56; refine (ints_write (As := [(F, off + k * 6), (F, off + k * 6 + 1), (F, off + k * 6 + 2), (F, off + k * 6 + 3), (F, off + k * 6 + 4), (F, off + k * 6 + 5)]) (xs := [x1, x2, x3, x4, x5, x6]) (by exact hDr.alloc (.cells #[.pointer (some ⟨F, off + k * 6, none⟩), .pointer (some ⟨F, off + k * 6 + 1, none⟩), .pointer (some ⟨F, off + k * 6 + 2, none⟩), .pointer (some ⟨F, off + k * 6 + 3, none⟩), .pointer (some ⟨F, off + k * 6 + 4, none⟩), .pointer (some ⟨F, off + k * 6 + 5, none⟩)] 123)) (by exact hP) hWf (by exact BldAt.below hB bb) (by exact Nat.le_trans hBwr bb.size) (Nat.le_trans HPl.out (by omega)) (by simp)).mono ?_; rintro en wz ⟨rfl, hB2, b2, k2⟩))
      have HB := Lib.hid hB2
      have HBW := Lib.hid (hb.trans (b0.trans b2))
      have HK := Lib.hid (hkp.trans (k0.trans k2))
      clear hB hb hkp hP bb bb0 k0 b0 hB2 b2 k2 hDr hMr
      go_wp2_with fail
      go_roundw
      case rel => exact ⟨k + 1, by omega, by go_num, by rw [HX.out, ← List.append_assoc, HM2.out]; exact HB.out, HBW.out, HK.out⟩
      case measure => simp [intOf]; omega
    · obtain rfl : k = L.length := by omega
      rw [List.take_length] at hB
      go_wp2_with fail
      go_end0
      exact ⟨rfl, by rw [← List.append_assoc, HM.out]; exact hB, hb, hkp⟩
end Go.Proofs.YtnaabaahfjklhaaGreat
