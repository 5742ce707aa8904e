/- The contracts of Head, Tail, Next, Ahead, and the document's At, Place, Beside. -/
import Derived.Test.YtofdmdpnobhnlaaCfgPlace
namespace Go.Proofs.Ytofdmdpnobhnlaa
open Go.RowKit Go.ChangeShapes Go.WideShapes Go.Joins
set_option linter.unusedVariables false

set_option maxRecDepth 100000 in
set_option maxHeartbeats 1000000 in
theorem chead_any {w : World} {v : Value} {L : List SeatV} (hv : ChainAt w v L) (e : Int) :
    Calls Try.prog 23 #[.agg #[.int .i64 e, v]] w fun en w' => en = .returned (.tuple #[.agg #[.int .i64 (atC L 0).1, .int .i64 (atC L 0).2.1], .bool (atC L 0).2.2]) ∧ Below w.heap.size w w' := by
  obtain ⟨a, cap, rfl, hs⟩ := hv
  have hv : ChainAt w (.slice a L.length cap) L := ⟨a, cap, rfl, hs⟩
  have hlen := hs.1
  unfold maxLen at hlen
  go_enter Try.func23, Try.ntmps23
  go_upto_region 1 with (fail)
  have hA : BlkAt ((w.alloc (.cells #[.int .i64 e, .slice a L.length cap] 24)).alloc (.cells #[.int .i64 0, .int .i64 0] 27)) w.heap.size 24 [.int .i64 e, .slice a L.length cap] := (BlkAt.new w 24 [.int .i64 e, .slice a L.length cap]).alloc _
  have hD : BlkAt ((w.alloc (.cells #[.int .i64 e, .slice a L.length cap] 24)).alloc (.cells #[.int .i64 0, .int .i64 0] 27)) (w.heap.size + 1) 27 [.int .i64 0, .int .i64 0] := BlkAt.newAt (by simp) 27 [.int .i64 0, .int .i64 0]
  have hb : Below w.heap.size w ((w.alloc (.cells #[.int .i64 e, .slice a L.length cap] 24)).alloc (.cells #[.int .i64 0, .int .i64 0] 27)) := ((Below.refl w.heap.size w).alloc (Nat.le_refl _) _).alloc (by simp) _
  have hv2 := hv.below hb
  change Code.wp _ _ _ _ ((w.alloc (.cells #[.int .i64 e, .slice a L.length cap] 24)).alloc (.cells #[.int .i64 0, .int .i64 0] 27))
  generalize (w.alloc (.cells #[.int .i64 e, .slice a L.length cap] 24)).alloc (.cells #[.int .i64 0, .int .i64 0] 27) = W at *
  have hDn : w.heap.size ≤ w.heap.size + 1 := Nat.le_succ _
  generalize w.heap.size + 1 = D at *
  have c1 : W.cell? ⟨w.heap.size, 1, none⟩ = some (.slice a L.length cap) := hA.cell rfl
  have c0 : W.cell? ⟨w.heap.size, 0, none⟩ = some (.int .i64 e) := hA.cell rfl
  clear hv hs
  go_wp2_with fail
  refine (cat_any (by exact hA) (by exact hv2) 0).mono ?_
  rintro en w2 ⟨rfl, b2⟩
  have hA := hA.below b2
  have hD := hD.below b2
  have hv2 := hv2.below b2
  have hb := below_step hb b2
  clear b2
  clear c0 c1
  have d0 : w2.cell? ⟨D, 0, none⟩ = some (.int .i64 0) := hD.cell rfl
  have d1 : w2.cell? ⟨D, 1, none⟩ = some (.int .i64 0) := hD.cell rfl
  have hf := hD.free
  generalize hR : atC L 0 = R at *
  have HR := Lib.hid hR
  clear hR
  obtain ⟨r1, r2, r3⟩ := R
  go_wp2_with fail
  obtain ⟨hE, hbE⟩ := fin2 (p := .int .i64 r1) (q := .int .i64 r2) hD hb hDn
  change bodyPost _ _ _ _ _ ((w2.setCell ⟨D, 0, none⟩ (.int .i64 r1)).setCell ⟨D, 1, none⟩ (.int .i64 r2))
  generalize (w2.setCell ⟨D, 0, none⟩ (.int .i64 r1)).setCell ⟨D, 1, none⟩ (.int .i64 r2) = W9 at *
  clear d0 d1
  have d0 := hE.cell (i := 0) rfl
  have d1 := hE.cell (i := 1) rfl
  exact bodyPost_ret (v := .tuple #[.agg #[.int .i64 r1, .int .i64 r2], .bool r3]) (by simp [results, Try.results23, go_sem, d0, d1] <;> rfl) rfl ⟨by rw [HR.out], hbE⟩

set_option maxRecDepth 100000 in
set_option maxHeartbeats 1000000 in
theorem ctail_any {w : World} {v : Value} {L : List SeatV} (hv : ChainAt w v L) (e : Int) :
    Calls Try.prog 25 #[.agg #[.int .i64 e, v]] w fun en w' => en = .returned (.tuple #[.agg #[.int .i64 (atC L ((L.length : Int) - 1)).1, .int .i64 (atC L ((L.length : Int) - 1)).2.1], .bool (atC L ((L.length : Int) - 1)).2.2]) ∧ Below w.heap.size w w' := by
  obtain ⟨a, cap, rfl, hs⟩ := hv
  have hv : ChainAt w (.slice a L.length cap) L := ⟨a, cap, rfl, hs⟩
  have hlen := hs.1
  unfold maxLen at hlen
  go_enter Try.func25, Try.ntmps25
  go_upto_region 1 with (fail)
  have hA : BlkAt ((w.alloc (.cells #[.int .i64 e, .slice a L.length cap] 24)).alloc (.cells #[.int .i64 0, .int .i64 0] 27)) w.heap.size 24 [.int .i64 e, .slice a L.length cap] := (BlkAt.new w 24 [.int .i64 e, .slice a L.length cap]).alloc _
  have hD : BlkAt ((w.alloc (.cells #[.int .i64 e, .slice a L.length cap] 24)).alloc (.cells #[.int .i64 0, .int .i64 0] 27)) (w.heap.size + 1) 27 [.int .i64 0, .int .i64 0] := BlkAt.newAt (by simp) 27 [.int .i64 0, .int .i64 0]
  have hb : Below w.heap.size w ((w.alloc (.cells #[.int .i64 e, .slice a L.length cap] 24)).alloc (.cells #[.int .i64 0, .int .i64 0] 27)) := ((Below.refl w.heap.size w).alloc (Nat.le_refl _) _).alloc (by simp) _
  have hv2 := hv.below hb
  change Code.wp _ _ _ _ ((w.alloc (.cells #[.int .i64 e, .slice a L.length cap] 24)).alloc (.cells #[.int .i64 0, .int .i64 0] 27))
  generalize (w.alloc (.cells #[.int .i64 e, .slice a L.length cap] 24)).alloc (.cells #[.int .i64 0, .int .i64 0] 27) = W at *
  have hDn : w.heap.size ≤ w.heap.size + 1 := Nat.le_succ _
  generalize w.heap.size + 1 = D at *
  have c1 : W.cell? ⟨w.heap.size, 1, none⟩ = some (.slice a L.length cap) := hA.cell rfl
  have c0 : W.cell? ⟨w.heap.size, 0, none⟩ = some (.int .i64 e) := hA.cell rfl
  clear hv hs
  go_wp2_with fail
  refine (cat_any (by exact hA) (by exact hv2) ((L.length : Int) - 1)).mono ?_
  rintro en w2 ⟨rfl, b2⟩
  have hA := hA.below b2
  have hD := hD.below b2
  have hv2 := hv2.below b2
  have hb := below_step hb b2
  clear b2
  clear c0 c1
  have d0 : w2.cell? ⟨D, 0, none⟩ = some (.int .i64 0) := hD.cell rfl
  have d1 : w2.cell? ⟨D, 1, none⟩ = some (.int .i64 0) := hD.cell rfl
  have hf := hD.free
  generalize hR : atC L ((L.length : Int) - 1) = R at *
  have HR := Lib.hid hR
  clear hR
  obtain ⟨r1, r2, r3⟩ := R
  go_wp2_with fail
  obtain ⟨hE, hbE⟩ := fin2 (p := .int .i64 r1) (q := .int .i64 r2) hD hb hDn
  change bodyPost _ _ _ _ _ ((w2.setCell ⟨D, 0, none⟩ (.int .i64 r1)).setCell ⟨D, 1, none⟩ (.int .i64 r2))
  generalize (w2.setCell ⟨D, 0, none⟩ (.int .i64 r1)).setCell ⟨D, 1, none⟩ (.int .i64 r2) = W9 at *
  clear d0 d1
  have d0 := hE.cell (i := 0) rfl
  have d1 := hE.cell (i := 1) rfl
  exact bodyPost_ret (v := .tuple #[.agg #[.int .i64 r1, .int .i64 r2], .bool r3]) (by simp [results, Try.results25, go_sem, d0, d1] <;> rfl) rfl ⟨by rw [HR.out], hbE⟩

/-- The one behind a member; the one ahead. -/
def nextC (L : List SeatV) (n l : Int) : Int × Int × Bool := if placeC L n l < 0 then (0, 0, false) else atC L (placeC L n l + 1)
def aheadC (L : List SeatV) (n l : Int) : Int × Int × Bool := atC L (placeC L n l - 1)
theorem place_range (L : List SeatV) (n l : Int) : -1 ≤ placeC L n l ∧ placeC L n l < L.length := by
  rcases placeBy_facts (fun s => s.node == n && s.life == l) L with ⟨h, _⟩ | ⟨k, s, h, hk, _⟩
  · rw [placeC, h]
    omega
  · have := (List.getElem?_eq_some_iff.1 hk).1
    rw [placeC, h]
    omega

set_option maxRecDepth 100000 in
set_option maxHeartbeats 1000000 in
theorem cnext_any {w : World} {v : Value} {L : List SeatV} (hv : ChainAt w v L) (e n l : Int) :
    Calls Try.prog 27 #[.agg #[.int .i64 e, v], .agg #[.int .i64 n, .int .i64 l]] w fun en w' => en = .returned (.tuple #[.agg #[.int .i64 (nextC L n l).1, .int .i64 (nextC L n l).2.1], .bool (nextC L n l).2.2]) ∧ Below w.heap.size w w' := by
  obtain ⟨a, cap, rfl, hs⟩ := hv
  have hv : ChainAt w (.slice a L.length cap) L := ⟨a, cap, rfl, hs⟩
  have hlen := hs.1
  unfold maxLen at hlen
  go_enter Try.func27, Try.ntmps27
  go_upto_region 1 with (fail)
  have hA : BlkAt (((w.alloc (.cells #[.int .i64 e, .slice a L.length cap] 24)).alloc (.cells #[.int .i64 n, .int .i64 l] 27)).alloc (.cells #[.int .i64 0, .int .i64 0] 27)) w.heap.size 24 [.int .i64 e, .slice a L.length cap] := ((BlkAt.new w 24 [.int .i64 e, .slice a L.length cap]).alloc _).alloc _
  have hM : BlkAt (((w.alloc (.cells #[.int .i64 e, .slice a L.length cap] 24)).alloc (.cells #[.int .i64 n, .int .i64 l] 27)).alloc (.cells #[.int .i64 0, .int .i64 0] 27)) (w.heap.size + 1) 27 [.int .i64 n, .int .i64 l] := (BlkAt.newAt (by simp) 27 [.int .i64 n, .int .i64 l]).alloc _
  have hD : BlkAt (((w.alloc (.cells #[.int .i64 e, .slice a L.length cap] 24)).alloc (.cells #[.int .i64 n, .int .i64 l] 27)).alloc (.cells #[.int .i64 0, .int .i64 0] 27)) (w.heap.size + 2) 27 [.int .i64 0, .int .i64 0] := BlkAt.newAt (by simp) 27 [.int .i64 0, .int .i64 0]
  have hb : Below w.heap.size w (((w.alloc (.cells #[.int .i64 e, .slice a L.length cap] 24)).alloc (.cells #[.int .i64 n, .int .i64 l] 27)).alloc (.cells #[.int .i64 0, .int .i64 0] 27)) := (((Below.refl w.heap.size w).alloc (Nat.le_refl _) _).alloc (by simp) _).alloc (by simp; omega) _
  have hv2 := hv.below hb
  change Code.wp _ _ _ _ (((w.alloc (.cells #[.int .i64 e, .slice a L.length cap] 24)).alloc (.cells #[.int .i64 n, .int .i64 l] 27)).alloc (.cells #[.int .i64 0, .int .i64 0] 27))
  generalize ((w.alloc (.cells #[.int .i64 e, .slice a L.length cap] 24)).alloc (.cells #[.int .i64 n, .int .i64 l] 27)).alloc (.cells #[.int .i64 0, .int .i64 0] 27) = W at *
  have hDn : w.heap.size ≤ w.heap.size + 2 := by omega
  generalize w.heap.size + 2 = D at *
  generalize w.heap.size + 1 = M at *
  have c1 : W.cell? ⟨w.heap.size, 1, none⟩ = some (.slice a L.length cap) := hA.cell rfl
  have c0 : W.cell? ⟨w.heap.size, 0, none⟩ = some (.int .i64 e) := hA.cell rfl
  have m0 : W.cell? ⟨M, 0, none⟩ = some (.int .i64 n) := hM.cell rfl
  have m1 : W.cell? ⟨M, 1, none⟩ = some (.int .i64 l) := hM.cell rfl
  clear hv hs
  go_wp2_with fail
  refine (cplace_any (by exact hv2) e n l).mono ?_
  rintro en w2 ⟨rfl, b2⟩
  have hA := hA.below b2
  have hD := hD.below b2
  have hv2 := hv2.below b2
  have hb := below_step hb b2
  clear b2
  clear c0 c1 m0 m1 hM
  have d0 : w2.cell? ⟨D, 0, none⟩ = some (.int .i64 0) := hD.cell rfl
  have d1 : w2.cell? ⟨D, 1, none⟩ = some (.int .i64 0) := hD.cell rfl
  have hf := hD.free
  have hpr := place_range L n l
  by_cases h : placeC L n l < 0
  · have HN := Lib.hid (show nextC L n l = (0, 0, false) by rw [nextC, if_pos h])
    generalize placeC L n l = P at *
    go_wp2_with fail
    obtain ⟨hE, hbE⟩ := fin2 (p := .int .i64 0) (q := .int .i64 0) hD hb hDn
    change bodyPost _ _ _ _ _ ((w2.setCell ⟨D, 0, none⟩ (.int .i64 0)).setCell ⟨D, 1, none⟩ (.int .i64 0))
    generalize (w2.setCell ⟨D, 0, none⟩ (.int .i64 0)).setCell ⟨D, 1, none⟩ (.int .i64 0) = W9 at *
    clear d0 d1
    have d0 := hE.cell (i := 0) rfl
    have d1 := hE.cell (i := 1) rfl
    exact bodyPost_ret (v := .tuple #[.agg #[.int .i64 0, .int .i64 0], .bool false]) (by simp [results, Try.results27, go_sem, d0, d1] <;> rfl) rfl ⟨by rw [HN.out], hbE⟩
  · have HN := Lib.hid (show nextC L n l = atC L (placeC L n l + 1) by rw [nextC, if_neg h])
    generalize placeC L n l = P at *
    clear d0 d1 hf
    go_wp2_with fail
    refine (cat_any (by exact hA) (by exact hv2) (P + 1)).mono ?_
    rintro en w3 ⟨rfl, b2⟩
    have hA := hA.below b2
    have hD := hD.below b2
    have hv2 := hv2.below b2
    have hb := below_step hb b2
    clear b2
    have d0 : w3.cell? ⟨D, 0, none⟩ = some (.int .i64 0) := hD.cell rfl
    have d1 : w3.cell? ⟨D, 1, none⟩ = some (.int .i64 0) := hD.cell rfl
    have hf := hD.free
    generalize hR : atC L (P + 1) = R at *
    have HR := Lib.hid hR
    clear hR
    obtain ⟨r1, r2, r3⟩ := R
    go_wp2_with fail
    obtain ⟨hE, hbE⟩ := fin2 (p := .int .i64 r1) (q := .int .i64 r2) hD hb hDn
    change bodyPost _ _ _ _ _ ((w3.setCell ⟨D, 0, none⟩ (.int .i64 r1)).setCell ⟨D, 1, none⟩ (.int .i64 r2))
    generalize (w3.setCell ⟨D, 0, none⟩ (.int .i64 r1)).setCell ⟨D, 1, none⟩ (.int .i64 r2) = W9 at *
    clear d0 d1
    have d0 := hE.cell (i := 0) rfl
    have d1 := hE.cell (i := 1) rfl
    exact bodyPost_ret (v := .tuple #[.agg #[.int .i64 r1, .int .i64 r2], .bool r3]) (by simp [results, Try.results27, go_sem, d0, d1] <;> rfl) rfl ⟨by rw [HN.out], hbE⟩

set_option maxRecDepth 100000 in
set_option maxHeartbeats 1000000 in
theorem cahead_any {w : World} {v : Value} {L : List SeatV} (hv : ChainAt w v L) (e n l : Int) :
    Calls Try.prog 28 #[.agg #[.int .i64 e, v], .agg #[.int .i64 n, .int .i64 l]] w fun en w' => en = .returned (.tuple #[.agg #[.int .i64 (aheadC L n l).1, .int .i64 (aheadC L n l).2.1], .bool (aheadC L n l).2.2]) ∧ Below w.heap.size w w' := by
  obtain ⟨a, cap, rfl, hs⟩ := hv
  have hv : ChainAt w (.slice a L.length cap) L := ⟨a, cap, rfl, hs⟩
  have hlen := hs.1
  unfold maxLen at hlen
  go_enter Try.func28, Try.ntmps28
  go_upto_region 1 with (fail)
  have hA : BlkAt (((w.alloc (.cells #[.int .i64 e, .slice a L.length cap] 24)).alloc (.cells #[.int .i64 n, .int .i64 l] 27)).alloc (.cells #[.int .i64 0, .int .i64 0] 27)) w.heap.size 24 [.int .i64 e, .slice a L.length cap] := ((BlkAt.new w 24 [.int .i64 e, .slice a L.length cap]).alloc _).alloc _
  have hM : BlkAt (((w.alloc (.cells #[.int .i64 e, .slice a L.length cap] 24)).alloc (.cells #[.int .i64 n, .int .i64 l] 27)).alloc (.cells #[.int .i64 0, .int .i64 0] 27)) (w.heap.size + 1) 27 [.int .i64 n, .int .i64 l] := (BlkAt.newAt (by simp) 27 [.int .i64 n, .int .i64 l]).alloc _
  have hD : BlkAt (((w.alloc (.cells #[.int .i64 e, .slice a L.length cap] 24)).alloc (.cells #[.int .i64 n, .int .i64 l] 27)).alloc (.cells #[.int .i64 0, .int .i64 0] 27)) (w.heap.size + 2) 27 [.int .i64 0, .int .i64 0] := BlkAt.newAt (by simp) 27 [.int .i64 0, .int .i64 0]
  have hb : Below w.heap.size w (((w.alloc (.cells #[.int .i64 e, .slice a L.length cap] 24)).alloc (.cells #[.int .i64 n, .int .i64 l] 27)).alloc (.cells #[.int .i64 0, .int .i64 0] 27)) := (((Below.refl w.heap.size w).alloc (Nat.le_refl _) _).alloc (by simp) _).alloc (by simp; omega) _
  have hv2 := hv.below hb
  change Code.wp _ _ _ _ (((w.alloc (.cells #[.int .i64 e, .slice a L.length cap] 24)).alloc (.cells #[.int .i64 n, .int .i64 l] 27)).alloc (.cells #[.int .i64 0, .int .i64 0] 27))
  generalize ((w.alloc (.cells #[.int .i64 e, .slice a L.length cap] 24)).alloc (.cells #[.int .i64 n, .int .i64 l] 27)).alloc (.cells #[.int .i64 0, .int .i64 0] 27) = W at *
  have hDn : w.heap.size ≤ w.heap.size + 2 := by omega
  generalize w.heap.size + 2 = D at *
  generalize w.heap.size + 1 = M at *
  have c1 : W.cell? ⟨w.heap.size, 1, none⟩ = some (.slice a L.length cap) := hA.cell rfl
  have c0 : W.cell? ⟨w.heap.size, 0, none⟩ = some (.int .i64 e) := hA.cell rfl
  have m0 : W.cell? ⟨M, 0, none⟩ = some (.int .i64 n) := hM.cell rfl
  have m1 : W.cell? ⟨M, 1, none⟩ = some (.int .i64 l) := hM.cell rfl
  clear hv hs
  go_wp2_with fail
  refine (cplace_any (by exact hv2) e n l).mono ?_
  rintro en w2 ⟨rfl, b2⟩
  have hA := hA.below b2
  have hD := hD.below b2
  have hv2 := hv2.below b2
  have hb := below_step hb b2
  clear b2
  clear c0 c1 m0 m1 hM
  have hpr := place_range L n l
  have HN := Lib.hid (show aheadC L n l = atC L (placeC L n l - 1) by rw [aheadC])
  generalize placeC L n l = P at *
  go_wp2_with fail
  refine (cat_any (by exact hA) (by exact hv2) (P - 1)).mono ?_
  rintro en w3 ⟨rfl, b2⟩
  have hA := hA.below b2
  have hD := hD.below b2
  have hv2 := hv2.below b2
  have hb := below_step hb b2
  clear b2
  have d0 : w3.cell? ⟨D, 0, none⟩ = some (.int .i64 0) := hD.cell rfl
  have d1 : w3.cell? ⟨D, 1, none⟩ = some (.int .i64 0) := hD.cell rfl
  have hf := hD.free
  generalize hR : atC L (P - 1) = R at *
  have HR := Lib.hid hR
  clear hR
  obtain ⟨r1, r2, r3⟩ := R
  go_wp2_with fail
  obtain ⟨hE, hbE⟩ := fin2 (p := .int .i64 r1) (q := .int .i64 r2) hD hb hDn
  change bodyPost _ _ _ _ _ ((w3.setCell ⟨D, 0, none⟩ (.int .i64 r1)).setCell ⟨D, 1, none⟩ (.int .i64 r2))
  generalize (w3.setCell ⟨D, 0, none⟩ (.int .i64 r1)).setCell ⟨D, 1, none⟩ (.int .i64 r2) = W9 at *
  clear d0 d1
  have d0 := hE.cell (i := 0) rfl
  have d1 := hE.cell (i := 1) rfl
  exact bodyPost_ret (v := .tuple #[.agg #[.int .i64 r1, .int .i64 r2], .bool r3]) (by simp [results, Try.results28, go_sem, d0, d1] <;> rfl) rfl ⟨by rw [HN.out], hbE⟩

set_option maxRecDepth 100000 in
set_option maxHeartbeats 1000000 in
theorem qcat_any {w : World} {v : Value} {L : List SeatV} (hv : ChainAt w v L) (e i : Int) :
    Calls Try.prog 29 #[.agg #[.int .i64 e, v], .int .i64 i] w fun en w' => en = .returned (.tuple #[.agg #[.int .i64 (atC L i).1, .int .i64 (atC L i).2.1], .bool (atC L i).2.2]) ∧ Below w.heap.size w w' := by
  obtain ⟨a, cap, rfl, hs⟩ := hv
  have hv : ChainAt w (.slice a L.length cap) L := ⟨a, cap, rfl, hs⟩
  have hlen := hs.1
  unfold maxLen at hlen
  go_enter Try.func29, Try.ntmps29
  go_upto_region 1 with (fail)
  have hA : BlkAt ((w.alloc (.cells #[.int .i64 e, .slice a L.length cap] 24)).alloc (.cells #[.int .i64 0, .int .i64 0] 27)) w.heap.size 24 [.int .i64 e, .slice a L.length cap] := (BlkAt.new w 24 [.int .i64 e, .slice a L.length cap]).alloc _
  have hD : BlkAt ((w.alloc (.cells #[.int .i64 e, .slice a L.length cap] 24)).alloc (.cells #[.int .i64 0, .int .i64 0] 27)) (w.heap.size + 1) 27 [.int .i64 0, .int .i64 0] := BlkAt.newAt (by simp) 27 [.int .i64 0, .int .i64 0]
  have hb : Below w.heap.size w ((w.alloc (.cells #[.int .i64 e, .slice a L.length cap] 24)).alloc (.cells #[.int .i64 0, .int .i64 0] 27)) := ((Below.refl w.heap.size w).alloc (Nat.le_refl _) _).alloc (by simp) _
  have hv2 := hv.below hb
  change Code.wp _ _ _ _ ((w.alloc (.cells #[.int .i64 e, .slice a L.length cap] 24)).alloc (.cells #[.int .i64 0, .int .i64 0] 27))
  generalize (w.alloc (.cells #[.int .i64 e, .slice a L.length cap] 24)).alloc (.cells #[.int .i64 0, .int .i64 0] 27) = W at *
  have hDn : w.heap.size ≤ w.heap.size + 1 := Nat.le_succ _
  generalize w.heap.size + 1 = D at *
  have c1 : W.cell? ⟨w.heap.size, 1, none⟩ = some (.slice a L.length cap) := hA.cell rfl
  have c0 : W.cell? ⟨w.heap.size, 0, none⟩ = some (.int .i64 e) := hA.cell rfl
  clear hv hs
  obtain ⟨a', cap', hcv, hs2⟩ := hv2
  obtain ⟨rfl, rfl⟩ : a' = a ∧ cap' = cap := by cases hcv; exact ⟨rfl, rfl⟩
  have d0 : W.cell? ⟨D, 0, none⟩ = some (.int .i64 0) := hD.cell rfl
  have d1 : W.cell? ⟨D, 1, none⟩ = some (.int .i64 0) := hD.cell rfl
  have hf := hD.free
  by_cases h1 : i < 0
  · have HA := Lib.hid (atC_lo (L := L) h1)
    go_wp2_with fail
    obtain ⟨hE, hbE⟩ := fin2 (p := .int .i64 0) (q := .int .i64 0) hD hb hDn
    change bodyPost _ _ _ _ _ ((W.setCell ⟨D, 0, none⟩ (.int .i64 0)).setCell ⟨D, 1, none⟩ (.int .i64 0))
    generalize (W.setCell ⟨D, 0, none⟩ (.int .i64 0)).setCell ⟨D, 1, none⟩ (.int .i64 0) = W9 at *
    clear d0 d1
    have d0 := hE.cell (i := 0) rfl
    have d1 := hE.cell (i := 1) rfl
    exact bodyPost_ret (v := .tuple #[.agg #[.int .i64 0, .int .i64 0], .bool false]) (by simp [results, Try.results29, go_sem, d0, d1] <;> rfl) rfl ⟨by rw [HA.out], hbE⟩
  · by_cases h2 : (L.length : Int) ≤ i
    · have HA := Lib.hid (atC_hi (L := L) h2)
      go_wp2_with fail
      obtain ⟨hE, hbE⟩ := fin2 (p := .int .i64 0) (q := .int .i64 0) hD hb hDn
      change bodyPost _ _ _ _ _ ((W.setCell ⟨D, 0, none⟩ (.int .i64 0)).setCell ⟨D, 1, none⟩ (.int .i64 0))
      generalize (W.setCell ⟨D, 0, none⟩ (.int .i64 0)).setCell ⟨D, 1, none⟩ (.int .i64 0) = W9 at *
      clear d0 d1
      have d0 := hE.cell (i := 0) rfl
      have d1 := hE.cell (i := 1) rfl
      exact bodyPost_ret (v := .tuple #[.agg #[.int .i64 0, .int .i64 0], .bool false]) (by simp [results, Try.results29, go_sem, d0, d1] <;> rfl) rfl ⟨by rw [HA.out], hbE⟩
    · obtain ⟨k, rfl⟩ : ∃ k : Nat, i = k := ⟨i.toNat, by omega⟩
      have hk : k < L.length := by omega
      obtain ⟨b, off, rfl, hab, hcell⟩ := hs2.2.2 (by omega)
      obtain ⟨s, hs'⟩ : ∃ s, L[k]? = some s := ⟨_, List.getElem?_eq_getElem hk⟩
      obtain ⟨s0, s1, _⟩ := hcell k s hs'
      have HA := Lib.hid (atC_in hs')
      clear hcell hs' hs2
      go_wp2_with fail
      obtain ⟨hE, hbE⟩ := fin2 (p := .int .i64 s.node) (q := .int .i64 s.life) hD hb hDn
      change bodyPost _ _ _ _ _ ((W.setCell ⟨D, 0, none⟩ (.int .i64 s.node)).setCell ⟨D, 1, none⟩ (.int .i64 s.life))
      generalize (W.setCell ⟨D, 0, none⟩ (.int .i64 s.node)).setCell ⟨D, 1, none⟩ (.int .i64 s.life) = W9 at *
      clear d0 d1
      have d0 := hE.cell (i := 0) rfl
      have d1 := hE.cell (i := 1) rfl
      exact bodyPost_ret (v := .tuple #[.agg #[.int .i64 s.node, .int .i64 s.life], .bool true]) (by simp [results, Try.results29, go_sem, d0, d1] <;> rfl) rfl ⟨by rw [HA.out], hbE⟩

end Go.Proofs.Ytofdmdpnobhnlaa
