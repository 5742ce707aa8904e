/- The desk's fires, written. -/
import Derived.Test.YtagmlgeoefemfaaWireMsg
namespace Go.Proofs.Ytagmlgeoefemfaa
open Go.RowKit Go.ChangeShapes Go.WideShapes Go.Joins Go.Deep
set_option linter.unusedVariables false

theorem encX_snoc {L : List FireV} {k : Nat} {f : FireV} (h : L[k]? = some f) : encX (L.take (k + 1)) = encX (L.take k) ++ encI f.nums := by
  rw [List.take_add_one, h, Option.toList_some, encX_append]
  simp [encX]
theorem encX_len (L : List FireV) : (encX L).length ≤ 60 * L.length := by
  induction L with
  | nil => simp [encX]
  | cons f L ih =>
    have h : (encI f.nums).length ≤ 60 := encI_len f.nums
    rw [encX_cons, List.length_append, List.length_cons]
    omega

set_option maxRecDepth 100000 in
set_option maxHeartbeats 4000000 in

theorem dfires_w {w w0 : World} {B b d m : Nat} {l : List UInt8} {rv : Value} {cs : List Value} {v : Value} {L : List FireV} (hD : BlkAt w d 69 [.pointer (some ⟨m, 0, none⟩), .pointer (some ⟨b, 0, none⟩), rv]) (hM : BlkAt w m 34 cs)
    (h26 : cs[26]? = some v) (hv : FiresAt w0 v L) (hbw : Below w0.heap.size w0 w) (hwB : w0.heap.size ≤ B) (hL : L.length ≤ 8) (hW : ∀ f ∈ L, ∀ x ∈ f.nums, W64 x)
    (hB : BldAt B b l w) (hBw : B ≤ w.heap.size) (hl : l.length ≤ 1000000) :
    Calls Try.prog 52 #[.pointer (some ⟨d, 0, none⟩)] w fun e' w' => e' = .returned (.tuple #[]) ∧ BldAt B b (l ++ (enc L.length ++ encX L)) w' ∧ Below B w w' ∧ TKeep w w' := by
  obtain ⟨a, cap, rfl, hlm, hs⟩ := hv
  have c0 : w.cell? ⟨d, 0, none⟩ = some (.pointer (some ⟨m, 0, none⟩)) := hD.cell rfl
  have c1 : w.cell? ⟨d, 1, none⟩ = some (.pointer (some ⟨b, 0, none⟩)) := hD.cell rfl
  have m26 : w.cell? ⟨m, 26, none⟩ = some (.slice a L.length cap) := hM.cell h26
  have hu : IntKind.u64.wrap (L.length : Int) = (L.length : Int) := by rw [IntKind.wrap_u64]; omega
  have hen := (enc_len L.length).2
  have hlb : l.length + (enc L.length).length ≤ 100000000 := by omega
  have hf64 : F64 L.length := by unfold F64; omega
  have hBw0 := hBw
  have hb : Below B w w := Below.refl _ _
  have hkp : TKeep w w := TKeep.refl _
  have HU := Lib.hid hu
  go_enter Try.func52, Try.ntmps52
  go_wp2_with fail
  go_upto_region 1 with (fail)
  go_region_held3 (fun w' => w'.cell? ⟨d, 0, none⟩ = some (.pointer (some ⟨m, 0, none⟩)) ∧ w'.cell? ⟨d, 1, none⟩ = some (.pointer (some ⟨b, 0, none⟩)) ∧ w'.cell? ⟨m, 26, none⟩ = some (.slice a L.length cap))
    (first | exact ⟨c0, c1, m26⟩ | go_keep)
    (first
    | (go_at_call 58; refine (cuint_any L.length hf64 _).mono ?_; rintro en wz ⟨rfl, bz⟩; have hB := BldAt.below (by exact hB) bz; have hkp : TKeep w wz := TKeep.trans (by exact hkp) (TKeep.below bz); have hb : Below B w wz := Below.trans (by first | exact hb | exact below_drewN hb 1) (bz.mono (by exact hBw)); have hBw : B ≤ wz.heap.size := Nat.le_trans hBw bz.size; have c0 : wz.cell? ⟨d, 0, none⟩ = some (.pointer (some ⟨m, 0, none⟩)) := (hD.tkeep hkp (by decide) (by decide)).cell rfl; have c1 : wz.cell? ⟨d, 1, none⟩ = some (.pointer (some ⟨b, 0, none⟩)) := (hD.tkeep hkp (by decide) (by decide)).cell rfl; have m26 : wz.cell? ⟨m, 26, none⟩ = some (.slice a L.length cap) := (hM.tkeep hkp (by decide) (by decide)).cell h26; clear bz)
    | (go_at_call 37; refine (wstr_k (enc L.length) (by exact hB) hlb (by exact hBw)).mono ?_; rintro en wz ⟨rfl, hB9, b9, k9⟩; have hkp : TKeep w wz := TKeep.trans (by exact hkp) k9; have hb : Below B w wz := Below.trans (by first | exact hb | exact below_drewN hb 1) b9; have hB := hB9; have c0 : wz.cell? ⟨d, 0, none⟩ = some (.pointer (some ⟨m, 0, none⟩)) := (hD.tkeep hkp (by decide) (by decide)).cell rfl; have c1 : wz.cell? ⟨d, 1, none⟩ = some (.pointer (some ⟨b, 0, none⟩)) := (hD.tkeep hkp (by decide) (by decide)).cell rfl; have m26 : wz.cell? ⟨m, 26, none⟩ = some (.slice a L.length cap) := (hM.tkeep hkp (by decide) (by decide)).cell h26; clear b9 k9 hB9))
  have hs' : ∀ k f, L[k]? = some f → ∃ F off, a = some ⟨F, off, none⟩ ∧ F < B ∧ ∀ j x, f.nums[j]? = some x → w.cell? ⟨F, off + k * 6 + j, none⟩ = some (.int .i64 x) := by
    intro k f hk
    have hk2 := (List.getElem?_eq_some_iff.1 hk).1
    obtain ⟨F, off, ha, hlt, hc⟩ := hs (by omega)
    exact ⟨F, off, ha, by omega, fun j x hj => (hbw.cell (p := ⟨F, _, none⟩) hlt).trans (hc k f hk j x hj)⟩
  clear hs hbw
  have HS := Lib.hid hs'
  have HB := Lib.hid hB
  have HBW := Lib.hid hb
  have HK := Lib.hid hkp
  clear hs' hB hb hkp c1 hu
  generalize hm : l ++ enc L.length = l1 at HB
  have hl1 : l1.length ≤ 1000100 := by rw [← hm, List.length_append]; omega
  have HM := Lib.hid hm
  clear hm hen hlb hf64
  go_wp2_with fail
  go_loopw [53] (fun i wr => ∃ k : Nat, k ≤ L.length ∧ i = .int .i64 k ∧ BldAt B b (l1 ++ encX (L.take k)) wr ∧ Below B w wr ∧ TKeep w wr) (fun i _ => L.length - (intOf i).toNat)
  case atStart => exact ⟨0, Nat.zero_le _, rfl, by simpa [encX] using HB.out, HBW.out, HK.out⟩
  case round =>
    obtain ⟨k, hk, rfl, hB, hb, hkp⟩ := hrel
    clear HB HBW HK
    have hlx := encX_len (L.take k)
    have hlt6 : (L.take k).length ≤ 8 := by rw [List.length_take]; omega
    by_cases hlt : k < L.length
    · obtain ⟨f, hfk⟩ : ∃ f, L[k]? = some f := ⟨_, List.getElem?_eq_getElem hlt⟩
      obtain ⟨F, off, rfl, hFB, hc⟩ := HS.out k f hfk
      have HX := Lib.hid (encX_snoc hfk)
      have hWf := hW f (List.mem_of_getElem? hfk)
      obtain ⟨x1, x2, x3, x4, x5, x6⟩ := f
      have HC := Lib.hid hc
      have hDr := hD.tkeep hkp (by decide) (by decide)
      have hMr := hM.tkeep hkp (by decide) (by decide)
      have c0 : wr.cell? ⟨d, 0, none⟩ = some (.pointer (some ⟨m, 0, none⟩)) := hDr.cell rfl
      have m26 : wr.cell? ⟨m, 26, none⟩ = some (.slice (some ⟨F, off, none⟩) L.length cap) := hMr.cell h26
      have HPl : Hid ((l1 ++ encX (L.take k)).length ≤ 1001000) := Lib.hid (by rw [List.length_append]; omega)
      clear hc hfk hlx hlt6
      generalize hm : l1 ++ encX (L.take k) = l2 at *
      have HM2 := Lib.hid hm
      clear hm
      go_upto_region 10 with (fail)
      clear c0 m26
      have hBwr := Nat.le_trans hBw0 hb.size
      have hP : PtrsAt B (wr.alloc (.cells #[.pointer (some ⟨F, off + k * 6, none⟩), .pointer (some ⟨F, off + k * 6 + 1, none⟩), .pointer (some ⟨F, off + k * 6 + 2, none⟩), .pointer (some ⟨F, off + k * 6 + 3, none⟩), .pointer (some ⟨F, off + k * 6 + 4, none⟩), .pointer (some ⟨F, off + k * 6 + 5, none⟩)] 74)) wr.heap.size [(F, off + k * 6), (F, off + k * 6 + 1), (F, off + k * 6 + 2), (F, off + k * 6 + 3), (F, off + k * 6 + 4), (F, off + k * 6 + 5)] [x1, x2, x3, x4, x5, x6] := by
        refine ⟨BlkAt.new wr 74 [.pointer (some ⟨F, off + k * 6, none⟩), .pointer (some ⟨F, off + k * 6 + 1, none⟩), .pointer (some ⟨F, off + k * 6 + 2, none⟩), .pointer (some ⟨F, off + k * 6 + 3, none⟩), .pointer (some ⟨F, off + k * 6 + 4, none⟩), .pointer (some ⟨F, off + k * 6 + 5, none⟩)], rfl, fun i A x g1 g2 => ?_⟩
        match i, g1, g2 with
        | 0, g1, g2 => simp at g1 g2; obtain rfl := g1; obtain rfl := g2; exact .inr ⟨hFB, ((hb.alloc hBwr (.cells #[.pointer (some ⟨F, off + k * 6, none⟩), .pointer (some ⟨F, off + k * 6 + 1, none⟩), .pointer (some ⟨F, off + k * 6 + 2, none⟩), .pointer (some ⟨F, off + k * 6 + 3, none⟩), .pointer (some ⟨F, off + k * 6 + 4, none⟩), .pointer (some ⟨F, off + k * 6 + 5, none⟩)] 74)).cell (p := ⟨F, _, none⟩) hFB).trans (HC.out 0 _ rfl)⟩
        | 1, g1, g2 => simp at g1 g2; obtain rfl := g1; obtain rfl := g2; exact .inr ⟨hFB, ((hb.alloc hBwr (.cells #[.pointer (some ⟨F, off + k * 6, none⟩), .pointer (some ⟨F, off + k * 6 + 1, none⟩), .pointer (some ⟨F, off + k * 6 + 2, none⟩), .pointer (some ⟨F, off + k * 6 + 3, none⟩), .pointer (some ⟨F, off + k * 6 + 4, none⟩), .pointer (some ⟨F, off + k * 6 + 5, none⟩)] 74)).cell (p := ⟨F, _, none⟩) hFB).trans (HC.out 1 _ rfl)⟩
        | 2, g1, g2 => simp at g1 g2; obtain rfl := g1; obtain rfl := g2; exact .inr ⟨hFB, ((hb.alloc hBwr (.cells #[.pointer (some ⟨F, off + k * 6, none⟩), .pointer (some ⟨F, off + k * 6 + 1, none⟩), .pointer (some ⟨F, off + k * 6 + 2, none⟩), .pointer (some ⟨F, off + k * 6 + 3, none⟩), .pointer (some ⟨F, off + k * 6 + 4, none⟩), .pointer (some ⟨F, off + k * 6 + 5, none⟩)] 74)).cell (p := ⟨F, _, none⟩) hFB).trans (HC.out 2 _ rfl)⟩
        | 3, g1, g2 => simp at g1 g2; obtain rfl := g1; obtain rfl := g2; exact .inr ⟨hFB, ((hb.alloc hBwr (.cells #[.pointer (some ⟨F, off + k * 6, none⟩), .pointer (some ⟨F, off + k * 6 + 1, none⟩), .pointer (some ⟨F, off + k * 6 + 2, none⟩), .pointer (some ⟨F, off + k * 6 + 3, none⟩), .pointer (some ⟨F, off + k * 6 + 4, none⟩), .pointer (some ⟨F, off + k * 6 + 5, none⟩)] 74)).cell (p := ⟨F, _, none⟩) hFB).trans (HC.out 3 _ rfl)⟩
        | 4, g1, g2 => simp at g1 g2; obtain rfl := g1; obtain rfl := g2; exact .inr ⟨hFB, ((hb.alloc hBwr (.cells #[.pointer (some ⟨F, off + k * 6, none⟩), .pointer (some ⟨F, off + k * 6 + 1, none⟩), .pointer (some ⟨F, off + k * 6 + 2, none⟩), .pointer (some ⟨F, off + k * 6 + 3, none⟩), .pointer (some ⟨F, off + k * 6 + 4, none⟩), .pointer (some ⟨F, off + k * 6 + 5, none⟩)] 74)).cell (p := ⟨F, _, none⟩) hFB).trans (HC.out 4 _ rfl)⟩
        | 5, g1, g2 => simp at g1 g2; obtain rfl := g1; obtain rfl := g2; exact .inr ⟨hFB, ((hb.alloc hBwr (.cells #[.pointer (some ⟨F, off + k * 6, none⟩), .pointer (some ⟨F, off + k * 6 + 1, none⟩), .pointer (some ⟨F, off + k * 6 + 2, none⟩), .pointer (some ⟨F, off + k * 6 + 3, none⟩), .pointer (some ⟨F, off + k * 6 + 4, none⟩), .pointer (some ⟨F, off + k * 6 + 5, none⟩)] 74)).cell (p := ⟨F, _, none⟩) hFB).trans (HC.out 5 _ rfl)⟩
      have bb0 : Below wr.heap.size wr (wr.alloc (.cells #[.pointer (some ⟨F, off + k * 6, none⟩), .pointer (some ⟨F, off + k * 6 + 1, none⟩), .pointer (some ⟨F, off + k * 6 + 2, none⟩), .pointer (some ⟨F, off + k * 6 + 3, none⟩), .pointer (some ⟨F, off + k * 6 + 4, none⟩), .pointer (some ⟨F, off + k * 6 + 5, none⟩)] 74)) := (Below.refl _ _).alloc (Nat.le_refl _) _
      have bb : Below wr.heap.size wr (wr.alloc (.cells #[.pointer (some ⟨F, off + k * 6, none⟩), .pointer (some ⟨F, off + k * 6 + 1, none⟩), .pointer (some ⟨F, off + k * 6 + 2, none⟩), .pointer (some ⟨F, off + k * 6 + 3, none⟩), .pointer (some ⟨F, off + k * 6 + 4, none⟩), .pointer (some ⟨F, off + k * 6 + 5, none⟩)] 74)).drew := ⟨bb0.os, bb0.tape, bb0.output, bb0.size, bb0.block⟩
      have hP : PtrsAt B (wr.alloc (.cells #[.pointer (some ⟨F, off + k * 6, none⟩), .pointer (some ⟨F, off + k * 6 + 1, none⟩), .pointer (some ⟨F, off + k * 6 + 2, none⟩), .pointer (some ⟨F, off + k * 6 + 3, none⟩), .pointer (some ⟨F, off + k * 6 + 4, none⟩), .pointer (some ⟨F, off + k * 6 + 5, none⟩)] 74)).drew wr.heap.size [(F, off + k * 6), (F, off + k * 6 + 1), (F, off + k * 6 + 2), (F, off + k * 6 + 3), (F, off + k * 6 + 4), (F, off + k * 6 + 5)] [x1, x2, x3, x4, x5, x6] := ⟨hP.row, hP.len, hP.ints⟩
      have k0 : TKeep wr (wr.alloc (.cells #[.pointer (some ⟨F, off + k * 6, none⟩), .pointer (some ⟨F, off + k * 6 + 1, none⟩), .pointer (some ⟨F, off + k * 6 + 2, none⟩), .pointer (some ⟨F, off + k * 6 + 3, none⟩), .pointer (some ⟨F, off + k * 6 + 4, none⟩), .pointer (some ⟨F, off + k * 6 + 5, none⟩)] 74)).drew := TKeep.below bb
      have b0 : Below B wr (wr.alloc (.cells #[.pointer (some ⟨F, off + k * 6, none⟩), .pointer (some ⟨F, off + k * 6 + 1, none⟩), .pointer (some ⟨F, off + k * 6 + 2, none⟩), .pointer (some ⟨F, off + k * 6 + 3, none⟩), .pointer (some ⟨F, off + k * 6 + 4, none⟩), .pointer (some ⟨F, off + k * 6 + 5, none⟩)] 74)).drew := bb.mono hBwr
      go_region_held3 (fun w' => True)
        (first | trivial | go_keep)
        ((go_at_call 25; refine (ints_write (As := [(F, off + k * 6), (F, off + k * 6 + 1), (F, off + k * 6 + 2), (F, off + k * 6 + 3), (F, off + k * 6 + 4), (F, off + k * 6 + 5)]) (xs := [x1, x2, x3, x4, x5, x6]) (by exact hDr.alloc (.cells #[.pointer (some ⟨F, off + k * 6, none⟩), .pointer (some ⟨F, off + k * 6 + 1, none⟩), .pointer (some ⟨F, off + k * 6 + 2, none⟩), .pointer (some ⟨F, off + k * 6 + 3, none⟩), .pointer (some ⟨F, off + k * 6 + 4, none⟩), .pointer (some ⟨F, off + k * 6 + 5, none⟩)] 74)) (by exact hP) hWf (by exact BldAt.below hB bb) (by exact Nat.le_trans hBwr bb.size) (Nat.le_trans HPl.out (by omega)) (by simp)).mono ?_; rintro en wz ⟨rfl, hB2, b2, k2⟩))
      have HB := Lib.hid hB2
      have HBW := Lib.hid (hb.trans (b0.trans b2))
      have HK := Lib.hid (hkp.trans (k0.trans k2))
      clear hB hb hkp hP bb bb0 k0 b0 hB2 b2 k2 hDr hMr
      go_wp2_with fail
      go_roundw
      case rel => exact ⟨k + 1, by omega, by go_num, by rw [HX.out, ← List.append_assoc, HM2.out]; exact HB.out, HBW.out, HK.out⟩
      case measure => simp [intOf]; omega
    · obtain rfl : k = L.length := by omega
      rw [List.take_length] at hB
      go_wp2_with fail
      go_end0
      exact ⟨rfl, by rw [← List.append_assoc, HM.out]; exact hB, hb, hkp⟩
end Go.Proofs.Ytagmlgeoefemfaa
