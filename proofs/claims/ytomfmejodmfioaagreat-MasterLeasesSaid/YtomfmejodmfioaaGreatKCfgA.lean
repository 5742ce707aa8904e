/- The contracts of Place, at, Head, Tail, Next, Ahead. The contracts of Head, Tail, Next, Ahead, and the document's At, Place, Beside. The document's Place and Beside; later; the generic functions that look for a member, or a seat. The document's Beside; slices.Index and slices.Contains of members and of seats. later, ContainsFunc, Clone, Equal, same. -/
import Derived.Test.YtomfmejodmfioaaGreatKCfgMay
import Derived.Deep.DeepCutAuto
namespace Go.Proofs.YtomfmejodmfioaaGreat
open Go.RowKit Go.ChangeShapes Go.WideShapes Go.Joins
set_option linter.unusedVariables false

set_option maxRecDepth 100000 in
set_option maxHeartbeats 1000000 in
theorem place1_any {w : World} {c : Nat} {n l : Int} (hc : BlkAt w c 42 [.int .i64 n, .int .i64 l]) (x y : Int) (b : Bool) :
    Calls Tryz.prog 90 #[.agg #[.int .i64 x, .int .i64 y, .bool b], .pointer (some ⟨c, 0, none⟩)] w fun e w' => e = .returned (.bool (x == n && y == l)) ∧ Below w.heap.size w w' := by
  have hC := hc.alloc (.cells #[.int .i64 x, .int .i64 y, .bool b] 49)
  have hbel := (Below.refl w.heap.size w).alloc (Nat.le_refl _) (.cells #[.int .i64 x, .int .i64 y, .bool b] 49)
  have c0 : (w.alloc (.cells #[.int .i64 x, .int .i64 y, .bool b] 49)).cell? ⟨c, 0, none⟩ = some (.int .i64 n) := hC.cell rfl
  have c1 : (w.alloc (.cells #[.int .i64 x, .int .i64 y, .bool b] 49)).cell? ⟨c, 1, none⟩ = some (.int .i64 l) := hC.cell rfl
  have hq := mem_eql x y n l
  go_enter Tryz.func90, Tryz.ntmps90
  go_wp2_with fail
  go_ret
  exact ⟨rfl, hbel⟩

set_option maxRecDepth 100000 in
set_option maxHeartbeats 1000000 in
theorem cplace_any {w : World} {v : Value} {L : List SeatV} (hv : ChainAt w v L) (e n l : Int) :
    Calls Tryz.prog 67 #[.agg #[.int .i64 e, v], .agg #[.int .i64 n, .int .i64 l]] w fun en w' => en = .returned (.int .i64 (placeC L n l)) ∧ Below w.heap.size w w' := by
  obtain ⟨a, cap, rfl, hs⟩ := hv
  have hv : ChainAt w (.slice a L.length cap) L := ⟨a, cap, rfl, hs⟩
  go_enter Tryz.func67, Tryz.ntmps67
  go_upto_region 1 with (fail)
  have hA := (BlkAt.new w 35 [.int .i64 e, .slice a L.length cap]).alloc (.cells #[.int .i64 n, .int .i64 l] 42)
  have hB := BlkAt.newAt (w := w.alloc (.cells #[.int .i64 e, .slice a L.length cap] 35)) (n := w.heap.size + 1) (by simp) 42 [.int .i64 n, .int .i64 l]
  have hb := ((Below.refl w.heap.size w).alloc (Nat.le_refl _) (.cells #[.int .i64 e, .slice a L.length cap] 35)).alloc (by simp) (.cells #[.int .i64 n, .int .i64 l] 42)
  have hv2 := hv.below hb
  change Code.wp _ _ _ _ ((w.alloc (.cells #[.int .i64 e, .slice a L.length cap] 35)).alloc (.cells #[.int .i64 n, .int .i64 l] 42))
  change BlkAt ((w.alloc (.cells #[.int .i64 e, .slice a L.length cap] 35)).alloc (.cells #[.int .i64 n, .int .i64 l] 42)) _ _ _ at hA
  change BlkAt ((w.alloc (.cells #[.int .i64 e, .slice a L.length cap] 35)).alloc (.cells #[.int .i64 n, .int .i64 l] 42)) _ _ _ at hB
  generalize (w.alloc (.cells #[.int .i64 e, .slice a L.length cap] 35)).alloc (.cells #[.int .i64 n, .int .i64 l] 42) = W at *
  have c1 : W.cell? ⟨w.heap.size, 1, none⟩ = some (.slice a L.length cap) := hA.cell rfl
  clear hv hs
  go_wp2_with fail
  refine (indfunc_any (fun s => s.node == n && s.life == l) 90 #[.pointer (some ⟨w.heap.size + 1, 0, none⟩)] (fun _ _ => rfl) (by exact hv2) (fun W' x y b _ _ hb' => (place1_any (hB.below hb') x y b).mono fun _ _ ⟨h, g⟩ => ⟨h, hb'.trans (g.mono hb'.size)⟩)).mono ?_
  rintro en w' ⟨rfl, b'⟩
  have hb2 := below_step hb b'
  go_wp2_with fail
  go_ret
  exact ⟨rfl, hb2⟩

theorem fin2 {w W : World} {D : Nat} {T : TypeId} {x y p q : Value} (hD : BlkAt W D T [x, y]) (hb : Below w.heap.size w W) (hDn : w.heap.size ≤ D) :
    BlkAt ((W.setCell ⟨D, 0, none⟩ p).setCell ⟨D, 1, none⟩ q) D T [p, q] ∧ Below w.heap.size w ((W.setCell ⟨D, 0, none⟩ p).setCell ⟨D, 1, none⟩ q) :=
  ⟨(hD.set 0 p).set 1 q, grown_below (grown_below hb (grown_setCell W D 0 p) hDn) (grown_setCell _ D 1 q) hDn⟩

theorem atC_lo {L : List SeatV} {i : Int} (h : i < 0) : atC L i = (0, 0, false) := by rw [atC, if_pos h]
theorem atC_hi {L : List SeatV} {i : Int} (h : (L.length : Int) ≤ i) : atC L i = (0, 0, false) := by
  rw [atC, if_neg (by omega), List.getElem?_eq_none (by omega)]
theorem atC_in {L : List SeatV} {i : Nat} {s : SeatV} (h : L[i]? = some s) : atC L i = (s.node, s.life, true) := by
  rw [atC, if_neg (by omega), Int.toNat_natCast, h]

set_option maxRecDepth 100000 in
set_option maxHeartbeats 1000000 in
theorem cat_any {w : World} {c : Nat} {e : Int} {v : Value} {L : List SeatV} (hc : BlkAt w c 35 [.int .i64 e, v]) (hv : ChainAt w v L) (i : Int) :
    Calls Tryz.prog 68 #[.pointer (some ⟨c, 0, none⟩), .int .i64 i] w fun en w' => en = .returned (.tuple #[.agg #[.int .i64 (atC L i).1, .int .i64 (atC L i).2.1], .bool (atC L i).2.2]) ∧ Below w.heap.size w w' := by
  obtain ⟨a, cap, rfl, hs⟩ := hv
  have hlen := hs.1
  unfold maxLen at hlen
  go_enter Tryz.func68, Tryz.ntmps68
  go_upto_region 1 with (fail)
  have hD := BlkAt.new w 42 [.int .i64 0, .int .i64 0]
  have hC := hc.alloc (.cells #[.int .i64 0, .int .i64 0] 42)
  have hb := (Below.refl w.heap.size w).alloc (Nat.le_refl _) (.cells #[.int .i64 0, .int .i64 0] 42)
  have hs2 := hs.alloc (.cells #[.int .i64 0, .int .i64 0] 42)
  change Code.wp _ _ _ _ (w.alloc (.cells #[.int .i64 0, .int .i64 0] 42))
  change BlkAt (w.alloc (.cells #[.int .i64 0, .int .i64 0] 42)) _ _ _ at hD
  have hsz : w.heap.size < (w.alloc (.cells #[.int .i64 0, .int .i64 0] 42)).heap.size := by simp
  generalize w.alloc (.cells #[.int .i64 0, .int .i64 0] 42) = W at *
  have c1 : W.cell? ⟨c, 1, none⟩ = some (.slice a L.length cap) := hC.cell rfl
  have d0 : W.cell? ⟨w.heap.size, 0, none⟩ = some (.int .i64 0) := hD.cell rfl
  have d1 : W.cell? ⟨w.heap.size, 1, none⟩ = some (.int .i64 0) := hD.cell rfl
  have hf := hD.free
  have hDn : w.heap.size ≤ w.heap.size := Nat.le_refl _
  by_cases h1 : i < 0
  · have HA := Lib.hid (atC_lo (L := L) h1)
    go_wp2_with fail
    obtain ⟨hE, hbE⟩ := fin2 (p := .int .i64 0) (q := .int .i64 0) hD hb hDn
    change bodyPost _ _ _ _ _ ((W.setCell ⟨w.heap.size, 0, none⟩ (.int .i64 0)).setCell ⟨w.heap.size, 1, none⟩ (.int .i64 0))
    generalize (W.setCell ⟨w.heap.size, 0, none⟩ (.int .i64 0)).setCell ⟨w.heap.size, 1, none⟩ (.int .i64 0) = W9 at *
    clear d0 d1
    have d0 := hE.cell (i := 0) rfl
    have d1 := hE.cell (i := 1) rfl
    exact bodyPost_ret (v := .tuple #[.agg #[.int .i64 0, .int .i64 0], .bool false]) (by simp [results, Tryz.results68, go_sem, d0, d1] <;> rfl) rfl ⟨by rw [HA.out], hbE⟩
  · by_cases h2 : (L.length : Int) ≤ i
    · have HA := Lib.hid (atC_hi (L := L) h2)
      go_wp2_with fail
      obtain ⟨hE, hbE⟩ := fin2 (p := .int .i64 0) (q := .int .i64 0) hD hb hDn
      change bodyPost _ _ _ _ _ ((W.setCell ⟨w.heap.size, 0, none⟩ (.int .i64 0)).setCell ⟨w.heap.size, 1, none⟩ (.int .i64 0))
      generalize (W.setCell ⟨w.heap.size, 0, none⟩ (.int .i64 0)).setCell ⟨w.heap.size, 1, none⟩ (.int .i64 0) = W9 at *
      clear d0 d1
      have d0 := hE.cell (i := 0) rfl
      have d1 := hE.cell (i := 1) rfl
      exact bodyPost_ret (v := .tuple #[.agg #[.int .i64 0, .int .i64 0], .bool false]) (by simp [results, Tryz.results68, go_sem, d0, d1] <;> rfl) rfl ⟨by rw [HA.out], hbE⟩
    · obtain ⟨k, rfl⟩ : ∃ k : Nat, i = k := ⟨i.toNat, by omega⟩
      have hk : k < L.length := by omega
      obtain ⟨b, off, rfl, hab, hcell⟩ := hs2.2.2 (by omega)
      obtain ⟨s, hs'⟩ : ∃ s, L[k]? = some s := ⟨_, List.getElem?_eq_getElem hk⟩
      obtain ⟨s0, s1, _⟩ := hcell k s hs'
      have HA := Lib.hid (atC_in hs')
      clear hcell hs' hs hs2
      go_wp2_with fail
      obtain ⟨hE, hbE⟩ := fin2 (p := .int .i64 s.node) (q := .int .i64 s.life) hD hb hDn
      change bodyPost _ _ _ _ _ ((W.setCell ⟨w.heap.size, 0, none⟩ (.int .i64 s.node)).setCell ⟨w.heap.size, 1, none⟩ (.int .i64 s.life))
      generalize (W.setCell ⟨w.heap.size, 0, none⟩ (.int .i64 s.node)).setCell ⟨w.heap.size, 1, none⟩ (.int .i64 s.life) = W9 at *
      clear d0 d1
      have d0 := hE.cell (i := 0) rfl
      have d1 := hE.cell (i := 1) rfl
      exact bodyPost_ret (v := .tuple #[.agg #[.int .i64 s.node, .int .i64 s.life], .bool true]) (by simp [results, Tryz.results68, go_sem, d0, d1] <;> rfl) rfl ⟨by rw [HA.out], hbE⟩
end Go.Proofs.YtomfmejodmfioaaGreat
namespace Go.Proofs.YtomfmejodmfioaaGreat
open Go.RowKit Go.ChangeShapes Go.WideShapes Go.Joins
set_option linter.unusedVariables false

set_option maxRecDepth 100000 in
set_option maxHeartbeats 1000000 in
theorem ctail_any {w : World} {v : Value} {L : List SeatV} (hv : ChainAt w v L) (e : Int) :
    Calls Tryz.prog 39 #[.agg #[.int .i64 e, v]] w fun en w' => en = .returned (.tuple #[.agg #[.int .i64 (atC L ((L.length : Int) - 1)).1, .int .i64 (atC L ((L.length : Int) - 1)).2.1], .bool (atC L ((L.length : Int) - 1)).2.2]) ∧ Below w.heap.size w w' := by
  obtain ⟨a, cap, rfl, hs⟩ := hv
  have hv : ChainAt w (.slice a L.length cap) L := ⟨a, cap, rfl, hs⟩
  have hlen := hs.1
  unfold maxLen at hlen
  go_enter Tryz.func39, Tryz.ntmps39
  go_upto_region 1 with (fail)
  have hA : BlkAt ((w.alloc (.cells #[.int .i64 e, .slice a L.length cap] 35)).alloc (.cells #[.int .i64 0, .int .i64 0] 42)) w.heap.size 35 [.int .i64 e, .slice a L.length cap] := (BlkAt.new w 35 [.int .i64 e, .slice a L.length cap]).alloc _
  have hD : BlkAt ((w.alloc (.cells #[.int .i64 e, .slice a L.length cap] 35)).alloc (.cells #[.int .i64 0, .int .i64 0] 42)) (w.heap.size + 1) 42 [.int .i64 0, .int .i64 0] := BlkAt.newAt (by simp) 42 [.int .i64 0, .int .i64 0]
  have hb : Below w.heap.size w ((w.alloc (.cells #[.int .i64 e, .slice a L.length cap] 35)).alloc (.cells #[.int .i64 0, .int .i64 0] 42)) := ((Below.refl w.heap.size w).alloc (Nat.le_refl _) _).alloc (by simp) _
  have hv2 := hv.below hb
  change Code.wp _ _ _ _ ((w.alloc (.cells #[.int .i64 e, .slice a L.length cap] 35)).alloc (.cells #[.int .i64 0, .int .i64 0] 42))
  generalize (w.alloc (.cells #[.int .i64 e, .slice a L.length cap] 35)).alloc (.cells #[.int .i64 0, .int .i64 0] 42) = W at *
  have hDn : w.heap.size ≤ w.heap.size + 1 := Nat.le_succ _
  generalize w.heap.size + 1 = D at *
  have c1 : W.cell? ⟨w.heap.size, 1, none⟩ = some (.slice a L.length cap) := hA.cell rfl
  have c0 : W.cell? ⟨w.heap.size, 0, none⟩ = some (.int .i64 e) := hA.cell rfl
  clear hv hs
  go_wp2_with fail
  refine (cat_any (by exact hA) (by exact hv2) ((L.length : Int) - 1)).mono ?_
  rintro en w2 ⟨rfl, b2⟩
  have hA := hA.below b2
  have hD := hD.below b2
  have hv2 := hv2.below b2
  have hb := below_step hb b2
  clear b2
  clear c0 c1
  have d0 : w2.cell? ⟨D, 0, none⟩ = some (.int .i64 0) := hD.cell rfl
  have d1 : w2.cell? ⟨D, 1, none⟩ = some (.int .i64 0) := hD.cell rfl
  have hf := hD.free
  generalize hR : atC L ((L.length : Int) - 1) = R at *
  have HR := Lib.hid hR
  clear hR
  obtain ⟨r1, r2, r3⟩ := R
  go_wp2_with fail
  obtain ⟨hE, hbE⟩ := fin2 (p := .int .i64 r1) (q := .int .i64 r2) hD hb hDn
  change bodyPost _ _ _ _ _ ((w2.setCell ⟨D, 0, none⟩ (.int .i64 r1)).setCell ⟨D, 1, none⟩ (.int .i64 r2))
  generalize (w2.setCell ⟨D, 0, none⟩ (.int .i64 r1)).setCell ⟨D, 1, none⟩ (.int .i64 r2) = W9 at *
  clear d0 d1
  have d0 := hE.cell (i := 0) rfl
  have d1 := hE.cell (i := 1) rfl
  exact bodyPost_ret (v := .tuple #[.agg #[.int .i64 r1, .int .i64 r2], .bool r3]) (by simp [results, Tryz.results39, go_sem, d0, d1] <;> rfl) rfl ⟨by rw [HR.out], hbE⟩

/-- The one behind a member; the one ahead. -/
def nextC (L : List SeatV) (n l : Int) : Int × Int × Bool := if placeC L n l < 0 then (0, 0, false) else atC L (placeC L n l + 1)
def aheadC (L : List SeatV) (n l : Int) : Int × Int × Bool := atC L (placeC L n l - 1)
theorem place_range (L : List SeatV) (n l : Int) : -1 ≤ placeC L n l ∧ placeC L n l < L.length := by
  rcases placeBy_facts (fun s => s.node == n && s.life == l) L with ⟨h, _⟩ | ⟨k, s, h, hk, _⟩
  · rw [placeC, h]
    omega
  · have := (List.getElem?_eq_some_iff.1 hk).1
    rw [placeC, h]
    omega

end Go.Proofs.YtomfmejodmfioaaGreat
namespace Go.Proofs.YtomfmejodmfioaaGreat
open Go.RowKit Go.ChangeShapes Go.WideShapes Go.Joins
set_option linter.unusedVariables false

set_option maxRecDepth 100000 in
set_option maxHeartbeats 2000000 in
theorem qcplace_any {w : World} {v : Value} {L : List SeatV} (hv : ChainAt w v L) (e n l : Int) :
    Calls Tryz.prog 15 #[.agg #[.int .i64 e, v], .agg #[.int .i64 n, .int .i64 l]] w fun en w' => en = .returned (.int .i64 (placeC L n l)) ∧ Below w.heap.size w w' := by
  obtain ⟨a, cap, rfl, hs⟩ := hv
  have hlen := hs.1
  unfold maxLen at hlen
  go_enter Tryz.func15, Tryz.ntmps15
  go_upto_region 1 with (fail)
  have hA : BlkAt ((w.alloc (.cells #[.int .i64 e, .slice a L.length cap] 35)).alloc (.cells #[.int .i64 n, .int .i64 l] 42)) w.heap.size 35 [.int .i64 e, .slice a L.length cap] := (BlkAt.new w 35 [.int .i64 e, .slice a L.length cap]).alloc _
  have hM : BlkAt ((w.alloc (.cells #[.int .i64 e, .slice a L.length cap] 35)).alloc (.cells #[.int .i64 n, .int .i64 l] 42)) (w.heap.size + 1) 42 [.int .i64 n, .int .i64 l] := BlkAt.newAt (by simp) 42 [.int .i64 n, .int .i64 l]
  have hb : Below w.heap.size w ((w.alloc (.cells #[.int .i64 e, .slice a L.length cap] 35)).alloc (.cells #[.int .i64 n, .int .i64 l] 42)) := ((Below.refl w.heap.size w).alloc (Nat.le_refl _) _).alloc (by simp) _
  have hs2 := hs.below hb rfl
  change Code.wp _ _ _ _ ((w.alloc (.cells #[.int .i64 e, .slice a L.length cap] 35)).alloc (.cells #[.int .i64 n, .int .i64 l] 42))
  generalize (w.alloc (.cells #[.int .i64 e, .slice a L.length cap] 35)).alloc (.cells #[.int .i64 n, .int .i64 l] 42) = W at *
  generalize w.heap.size + 1 = M at *
  have hAlt := hA.lt
  have hMlt := hM.lt
  have c1 : W.cell? ⟨w.heap.size, 1, none⟩ = some (.slice a L.length cap) := hA.cell rfl
  have m0 : W.cell? ⟨M, 0, none⟩ = some (.int .i64 n) := hM.cell rfl
  have m1 : W.cell? ⟨M, 1, none⟩ = some (.int .i64 l) := hM.cell rfl
  have hq := fun x y => mem_eql x y n l
  clear hs hA hM
  go_wp2_with fail
  go_loopw [5] (fun i wr => ∃ k : Nat, k ≤ L.length ∧ i = .int .i64 k ∧ Below W.heap.size W wr ∧ Aside (∀ j t, j < k → L[j]? = some t → (t.node == n && t.life == l) = false)) (fun i _ => L.length - (intOf i).toNat)
  case atStart => exact ⟨0, Nat.zero_le _, rfl, Below.refl _ _, fun j t hj => absurd hj (Nat.not_lt_zero _)⟩
  case round =>
    obtain ⟨k, hk, rfl, hbk, A⟩ := hrel
    have hb2 := below_step hb hbk
    have c1 := (hbk.cell (p := ⟨w.heap.size, 1, none⟩) hAlt).trans c1
    have m0 := (hbk.cell (p := ⟨M, 0, none⟩) hMlt).trans m0
    have m1 := (hbk.cell (p := ⟨M, 1, none⟩) hMlt).trans m1
    by_cases hlt : k < L.length
    · obtain ⟨b, off, rfl, hab, hc⟩ := hs2.2.2 (by omega)
      obtain ⟨s, hs⟩ : ∃ s, L[k]? = some s := ⟨_, List.getElem?_eq_getElem hlt⟩
      obtain ⟨s0, s1, s2⟩ := (hc k s hs).of (w' := wr) fun j => hbk.cell (p := ⟨b, j, none⟩) hab
      obtain ⟨x, y, z⟩ := s
      have HS := Lib.hid hs
      have hq := hq x y
      have HS2 := Lib.hid hs2
      clear hs hs2 hc
      simp only at s0 s1 s2
      cases hp : (x == n && y == l) with
      | true =>
        have HE := Lib.hid (placeBy_hit (p := fun s => s.node == n && s.life == l) HS.out hp A.out)
        rw [hp] at hq
        go_wp2_with fail
        go_quiet (fail)
        go_wp2_with fail
        go_ret
        exact ⟨by rw [placeC, HE.out]; rfl, below_drewN hb2 _⟩
      | false =>
        rw [hp] at hq
        go_wp2_with fail
        go_quiet (fail)
        go_wp2_with fail
        go_roundw
        case rel => exact ⟨k + 1, by omega, by go_num, below_drewN hbk _, fun j t hj ht => by
          rcases Nat.lt_or_ge j k with h | h
          · exact A.out j t h ht
          · obtain rfl : j = k := by omega
            rw [HS.out] at ht
            obtain rfl := Option.some.inj ht
            exact hp⟩
        case measure => simp [intOf]; omega
    · have HE := Lib.hid (placeBy_miss (p := fun s => s.node == n && s.life == l) (L := L) (fun j t hj => A.out j t (by omega)))
      go_wp2_with fail
      go_ret
      exact ⟨by rw [placeC, HE.out]; rfl, hb2⟩

end Go.Proofs.YtomfmejodmfioaaGreat
namespace Go.Proofs.YtomfmejodmfioaaGreat
open Go.RowKit Go.ChangeShapes Go.WideShapes Go.Joins
set_option linter.unusedVariables false

/-- Members in memory: G. -/
def MemsAt (w : World) (a : Option Addr) (G : List (Int × Int)) : Prop :=
  G.length ≤ maxLen ∧ (0 < G.length → ∃ b off, a = some ⟨b, off, none⟩ ∧ b < w.heap.size ∧ ∀ i g, G[i]? = some g → w.cell? ⟨b, off + i * 2, none⟩ = some (.int .i64 g.1) ∧ w.cell? ⟨b, off + i * 2 + 1, none⟩ = some (.int .i64 g.2))
/-- A slice that is the members G. -/
def MemsV (w : World) (v : Value) (G : List (Int × Int)) : Prop := ∃ a cap, v = .slice a G.length cap ∧ MemsAt w a G
theorem MemsAt.below {w w' : World} {a : Option Addr} {G : List (Int × Int)} {n : Nat} (h : MemsAt w a G) (hb : Below n w w') (hn : n = w.heap.size) : MemsAt w' a G := by
  subst hn
  refine ⟨h.1, fun hp => ?_⟩
  obtain ⟨b, off, ha, hlt, hc⟩ := h.2 hp
  exact ⟨b, off, ha, Nat.lt_of_lt_of_le hlt hb.size, fun i g hi => ⟨(hb.cell (p := ⟨b, _, none⟩) hlt).trans (hc i g hi).1, (hb.cell (p := ⟨b, _, none⟩) hlt).trans (hc i g hi).2⟩⟩
theorem MemsV.below {w w' : World} {v : Value} {G : List (Int × Int)} (h : MemsV w v G) (hb : Below w.heap.size w w') : MemsV w' v G := by
  obtain ⟨a, cap, rfl, hs⟩ := h
  exact ⟨a, cap, rfl, hs.below hb rfl⟩
theorem MemsV.nil (w : World) : MemsV w (.slice none 0 0) [] := ⟨none, 0, rfl, Nat.zero_le _, by simp⟩

/-- The one so many behind a member. -/
def besideC (L : List SeatV) (n l d : Int) : Int × Int × Bool := if placeC L n l < 0 then (0, 0, false) else atC L (placeC L n l + d)
theorem beside_next (L : List SeatV) (n l : Int) : besideC L n l 1 = nextC L n l := rfl
theorem beside_ahead (L : List SeatV) (n l : Int) : besideC L n l (-1) = aheadC L n l := by
  have := place_range L n l
  rw [besideC, aheadC]
  split
  · rw [atC_lo (by omega)]
  · rfl

set_option maxRecDepth 100000 in
set_option maxHeartbeats 2000000 in
theorem indmem_any {w : World} {v : Value} {G : List (Int × Int)} (hv : MemsV w v G) (n l : Int) :
    Calls Tryz.prog 91 #[v, .agg #[.int .i64 n, .int .i64 l]] w fun en w' => ∃ i : Int, en = .returned (.int .i64 i) ∧ decide (0 ≤ i) = G.contains (n, l) ∧ -1 ≤ i ∧ Below w.heap.size w w' := by
  obtain ⟨a, cap, rfl, hlen, hcell⟩ := hv
  unfold maxLen at hlen
  go_enter Tryz.func91, Tryz.ntmps91
  go_upto_region 1 with (fail)
  have hM : BlkAt (w.alloc (.cells #[.int .i64 n, .int .i64 l] 42)) w.heap.size 42 [.int .i64 n, .int .i64 l] := BlkAt.new w 42 [.int .i64 n, .int .i64 l]
  have hb : Below w.heap.size w (w.alloc (.cells #[.int .i64 n, .int .i64 l] 42)) := (Below.refl w.heap.size w).alloc (Nat.le_refl _) _
  change Code.wp _ _ _ _ (w.alloc (.cells #[.int .i64 n, .int .i64 l] 42))
  generalize w.alloc (.cells #[.int .i64 n, .int .i64 l] 42) = W at *
  have hMlt := hM.lt
  have m0 : W.cell? ⟨w.heap.size, 0, none⟩ = some (.int .i64 n) := hM.cell rfl
  have m1 : W.cell? ⟨w.heap.size, 1, none⟩ = some (.int .i64 l) := hM.cell rfl
  clear hM
  go_wp2_with fail
  go_loopw [5, 8] (fun _ i wr => ∃ k : Nat, k ≤ G.length ∧ i = .int .i64 k ∧ Below W.heap.size W wr ∧ Aside (∀ j t, j < k → G[j]? = some t → ((n, l) == t) = false)) (fun _ i _ => G.length - (intOf i).toNat)
  case atStart => exact ⟨0, Nat.zero_le _, rfl, Below.refl _ _, fun j t hj => absurd hj (Nat.not_lt_zero _)⟩
  case round =>
    obtain ⟨k, hk, rfl, hbk', A⟩ := hrel
    have hb2 := below_step hb hbk'
    have hbk : Below w.heap.size w wr := hb2
    have m0 := (hbk'.cell (p := ⟨w.heap.size, 0, none⟩) hMlt).trans m0
    have m1 := (hbk'.cell (p := ⟨w.heap.size, 1, none⟩) hMlt).trans m1
    by_cases hlt : k < G.length
    · obtain ⟨b, off, rfl, hab, hc⟩ := hcell (by omega)
      obtain ⟨g, hg⟩ : ∃ g, G[k]? = some g := ⟨_, List.getElem?_eq_getElem hlt⟩
      obtain ⟨s0, s1⟩ := hc k g hg
      obtain ⟨x, y⟩ := g
      have s0 := (hbk.cell (p := ⟨b, off + k * 2, none⟩) hab).trans s0
      have s1 := (hbk.cell (p := ⟨b, off + k * 2 + 1, none⟩) hab).trans s1
      have hq := fun w => (mem_eql n l x y w)
      have hpe : (n == x && l == y) = ((n, l) == (x, y)) := rfl
      have HS := Lib.hid hg
      have HP := Lib.hid hpe
      clear hg hc hcell hpe
      cases hp : (n == x && l == y) with
      | true =>
        rw [hp] at hq
        have HE := Lib.hid (show G.contains (n, l) = true by
          rw [List.contains_iff_exists_mem_beq]
          exact ⟨_, List.mem_of_getElem? HS.out, by rw [← HP.out]; exact hp⟩)
        go_wp2_with fail
        go_quiet (fail)
        go_wp2_with fail
        go_ret
        exact ⟨k, rfl, by rw [HE.out]; simp, by omega, below_drewN hb2 _⟩
      | false =>
        rw [hp] at hq
        go_wp2_with fail
        go_quiet (fail)
        go_wp2_with fail
        go_roundw
        case rel => exact ⟨k + 1, by omega, by go_num, below_drewN hbk' _, fun j t hj ht => by
          rcases Nat.lt_or_ge j k with h | h
          · exact A.out j t h ht
          · obtain rfl : j = k := by omega
            rw [HS.out] at ht
            obtain rfl := Option.some.inj ht
            rw [← HP.out]
            exact hp⟩
        case measure => simp [intOf]; omega
    · have HE := Lib.hid (show G.contains (n, l) = false by
        rw [Bool.eq_false_iff]
        intro h
        rw [List.contains_iff_exists_mem_beq] at h
        obtain ⟨t, ht, h⟩ := h
        obtain ⟨j, hj⟩ := List.getElem?_of_mem ht
        have := A.out j t (by have := (List.getElem?_eq_some_iff.1 hj).1; omega) hj
        rw [this] at h
        cases h)
      go_wp2_with fail
      go_ret
      exact ⟨-1, rfl, by rw [HE.out]; simp, by omega, hb2⟩

set_option maxRecDepth 100000 in
set_option maxHeartbeats 2000000 in
theorem indseat_any {w : World} {v : Value} {L : List SeatV} (hv : ChainAt w v L) (n l : Int) (z : Bool) :
    Calls Tryz.prog 71 #[v, .agg #[.int .i64 n, .int .i64 l, .bool z]] w fun en w' => ∃ i : Int, en = .returned (.int .i64 i) ∧ decide (0 ≤ i) = L.contains (⟨n, l, z⟩ : SeatV) ∧ -1 ≤ i ∧ Below w.heap.size w w' := by
  obtain ⟨a, cap, rfl, hlen, hok, hcell⟩ := hv
  unfold maxLen at hlen
  go_enter Tryz.func71, Tryz.ntmps71
  go_upto_region 1 with (fail)
  have hM : BlkAt (w.alloc (.cells #[.int .i64 n, .int .i64 l, .bool z] 49)) w.heap.size 49 [.int .i64 n, .int .i64 l, .bool z] := BlkAt.new w 49 [.int .i64 n, .int .i64 l, .bool z]
  have hb : Below w.heap.size w (w.alloc (.cells #[.int .i64 n, .int .i64 l, .bool z] 49)) := (Below.refl w.heap.size w).alloc (Nat.le_refl _) _
  change Code.wp _ _ _ _ (w.alloc (.cells #[.int .i64 n, .int .i64 l, .bool z] 49))
  generalize w.alloc (.cells #[.int .i64 n, .int .i64 l, .bool z] 49) = W at *
  have hMlt := hM.lt
  have m0 : W.cell? ⟨w.heap.size, 0, none⟩ = some (.int .i64 n) := hM.cell rfl
  have m1 : W.cell? ⟨w.heap.size, 1, none⟩ = some (.int .i64 l) := hM.cell rfl
  have m2 : W.cell? ⟨w.heap.size, 2, none⟩ = some (.bool z) := hM.cell rfl
  clear hM
  go_wp2_with fail
  go_loopw [5, 8] (fun _ i wr => ∃ k : Nat, k ≤ L.length ∧ i = .int .i64 k ∧ Below W.heap.size W wr ∧ Aside (∀ j t, j < k → L[j]? = some t → ((⟨n, l, z⟩ : SeatV) == t) = false)) (fun _ i _ => L.length - (intOf i).toNat)
  case atStart => exact ⟨0, Nat.zero_le _, rfl, Below.refl _ _, fun j t hj => absurd hj (Nat.not_lt_zero _)⟩
  case round =>
    obtain ⟨k, hk, rfl, hbk', A⟩ := hrel
    have hb2 := below_step hb hbk'
    have hbk : Below w.heap.size w wr := hb2
    have m0 := (hbk'.cell (p := ⟨w.heap.size, 0, none⟩) hMlt).trans m0
    have m1 := (hbk'.cell (p := ⟨w.heap.size, 1, none⟩) hMlt).trans m1
    have m2 := (hbk'.cell (p := ⟨w.heap.size, 2, none⟩) hMlt).trans m2
    by_cases hlt : k < L.length
    · obtain ⟨b, off, rfl, hab, hc⟩ := hcell (by omega)
      obtain ⟨g, hg⟩ : ∃ g, L[k]? = some g := ⟨_, List.getElem?_eq_getElem hlt⟩
      obtain ⟨s0, s1, s2⟩ := (hc k g hg).of (w' := wr) fun j => hbk.cell (p := ⟨b, j, none⟩) hab
      obtain ⟨x, y, z'⟩ := g
      simp only at s0 s1 s2
      have hq := fun w => (seat_eql n l x y z z' w)
      have hpe : decide ((⟨n, l, z⟩ : SeatV) = ⟨x, y, z'⟩) = ((⟨n, l, z⟩ : SeatV) == ⟨x, y, z'⟩) := rfl
      have HS := Lib.hid hg
      have HP := Lib.hid hpe
      clear hg hc hcell hpe
      cases hp : (decide ((⟨n, l, z⟩ : SeatV) = ⟨x, y, z'⟩)) with
      | true =>
        rw [hp] at hq
        have HE := Lib.hid (show L.contains (⟨n, l, z⟩ : SeatV) = true by
          rw [List.contains_iff_exists_mem_beq]
          exact ⟨_, List.mem_of_getElem? HS.out, by rw [← HP.out]; exact hp⟩)
        go_wp2_with fail
        go_quiet (fail)
        go_wp2_with fail
        go_ret
        exact ⟨k, rfl, by rw [HE.out]; simp, by omega, below_drewN hb2 _⟩
      | false =>
        rw [hp] at hq
        go_wp2_with fail
        go_quiet (fail)
        go_wp2_with fail
        go_roundw
        case rel => exact ⟨k + 1, by omega, by go_num, below_drewN hbk' _, fun j t hj ht => by
          rcases Nat.lt_or_ge j k with h | h
          · exact A.out j t h ht
          · obtain rfl : j = k := by omega
            rw [HS.out] at ht
            obtain rfl := Option.some.inj ht
            rw [← HP.out]
            exact hp⟩
        case measure => simp [intOf]; omega
    · have HE := Lib.hid (show L.contains (⟨n, l, z⟩ : SeatV) = false by
        rw [Bool.eq_false_iff]
        intro h
        rw [List.contains_iff_exists_mem_beq] at h
        obtain ⟨t, ht, h⟩ := h
        obtain ⟨j, hj⟩ := List.getElem?_of_mem ht
        have := A.out j t (by have := (List.getElem?_eq_some_iff.1 hj).1; omega) hj
        rw [this] at h
        cases h)
      go_wp2_with fail
      go_ret
      exact ⟨-1, rfl, by rw [HE.out]; simp, by omega, hb2⟩

set_option maxRecDepth 100000 in
set_option maxHeartbeats 2000000 in
theorem contmem_any {w : World} {v : Value} {G : List (Int × Int)} (hv : MemsV w v G) (n l : Int) :
    Calls Tryz.prog 72 #[v, .agg #[.int .i64 n, .int .i64 l]] w fun en w' => en = .returned (.bool (G.contains (n, l))) ∧ Below w.heap.size w w' := by
  go_enter Tryz.func72, Tryz.ntmps72
  go_upto_region 1 with (fail)
  have hM : BlkAt (w.alloc (.cells #[.int .i64 n, .int .i64 l] 42)) w.heap.size 42 [.int .i64 n, .int .i64 l] := BlkAt.new w 42 [.int .i64 n, .int .i64 l]
  have hb : Below w.heap.size w (w.alloc (.cells #[.int .i64 n, .int .i64 l] 42)) := (Below.refl w.heap.size w).alloc (Nat.le_refl _) _
  have hv2 := hv.below hb
  change Code.wp _ _ _ _ (w.alloc (.cells #[.int .i64 n, .int .i64 l] 42))
  generalize w.alloc (.cells #[.int .i64 n, .int .i64 l] 42) = W at *
  have m0 : W.cell? ⟨w.heap.size, 0, none⟩ = some (.int .i64 n) := hM.cell rfl
  have m1 : W.cell? ⟨w.heap.size, 1, none⟩ = some (.int .i64 l) := hM.cell rfl
  go_wp2_with fail
  refine (indmem_any (by exact hv2) n l).mono ?_
  rintro en w2 ⟨i, rfl, hi, hi2, b2⟩
  have hb2 := below_step hb b2
  have HI := Lib.hid hi
  clear hi
  go_wp2_with fail
  go_ret
  exact ⟨by rw [← HI.out]; rfl, hb2⟩

set_option maxRecDepth 100000 in
set_option maxHeartbeats 2000000 in
theorem contseat_any {w : World} {v : Value} {L : List SeatV} (hv : ChainAt w v L) (n l : Int) (z : Bool) :
    Calls Tryz.prog 41 #[v, .agg #[.int .i64 n, .int .i64 l, .bool z]] w fun en w' => en = .returned (.bool (L.contains (⟨n, l, z⟩ : SeatV))) ∧ Below w.heap.size w w' := by
  go_enter Tryz.func41, Tryz.ntmps41
  go_upto_region 1 with (fail)
  have hM : BlkAt (w.alloc (.cells #[.int .i64 n, .int .i64 l, .bool z] 49)) w.heap.size 49 [.int .i64 n, .int .i64 l, .bool z] := BlkAt.new w 49 [.int .i64 n, .int .i64 l, .bool z]
  have hb : Below w.heap.size w (w.alloc (.cells #[.int .i64 n, .int .i64 l, .bool z] 49)) := (Below.refl w.heap.size w).alloc (Nat.le_refl _) _
  have hv2 := hv.below hb
  change Code.wp _ _ _ _ (w.alloc (.cells #[.int .i64 n, .int .i64 l, .bool z] 49))
  generalize w.alloc (.cells #[.int .i64 n, .int .i64 l, .bool z] 49) = W at *
  have m0 : W.cell? ⟨w.heap.size, 0, none⟩ = some (.int .i64 n) := hM.cell rfl
  have m1 : W.cell? ⟨w.heap.size, 1, none⟩ = some (.int .i64 l) := hM.cell rfl
  have m2 : W.cell? ⟨w.heap.size, 2, none⟩ = some (.bool z) := hM.cell rfl
  go_wp2_with fail
  refine (indseat_any (by exact hv2) n l z).mono ?_
  rintro en w2 ⟨i, rfl, hi, hi2, b2⟩
  have hb2 := below_step hb b2
  have HI := Lib.hid hi
  clear hi
  go_wp2_with fail
  go_ret
  exact ⟨by rw [← HI.out]; rfl, hb2⟩

end Go.Proofs.YtomfmejodmfioaaGreat
namespace Go.Proofs.YtomfmejodmfioaaGreat
open Go.RowKit Go.ChangeShapes Go.WideShapes Go.Joins
set_option linter.unusedVariables false

set_option maxRecDepth 100000 in
set_option maxHeartbeats 2000000 in
theorem later_full {w : World} {c : Nat} {e : Int} {vc : Value} {a : Option Addr} {n cap : Nat} (hc : BlkAt w c 35 [.int .i64 e, vc]) (h : 1099511627776 ≤ e) :
    Calls Tryz.prog 70 #[.pointer (some ⟨c, 0, none⟩), .slice a n cap] w fun en w' => en = .returned (.tuple #[.agg #[.int .i64 0, .slice none 0 0], .int .i64 5]) ∧ Below w.heap.size w w' := by
  have hce := hc.alloc (.cells #[.int .i64 0, .slice none 0 0] 35)
  go_enter Tryz.func70, Tryz.ntmps70
  go_upto_region 1 with (fail)
  have hD : BlkAt (w.alloc (.cells #[.int .i64 0, .slice none 0 0] 35)) w.heap.size 35 [.int .i64 0, .slice none 0 0] := BlkAt.new w 35 [.int .i64 0, .slice none 0 0]
  have hb : Below w.heap.size w (w.alloc (.cells #[.int .i64 0, .slice none 0 0] 35)) := (Below.refl w.heap.size w).alloc (Nat.le_refl _) _
  change Code.wp _ _ _ _ (w.alloc (.cells #[.int .i64 0, .slice none 0 0] 35))
  generalize w.alloc (.cells #[.int .i64 0, .slice none 0 0] 35) = W at *
  have hDn : w.heap.size ≤ w.heap.size := Nat.le_refl _
  have c0 : W.cell? ⟨c, 0, none⟩ = some (.int .i64 e) := hce.cell rfl
  have d0 : W.cell? ⟨w.heap.size, 0, none⟩ = some (.int .i64 0) := hD.cell rfl
  have d1 : W.cell? ⟨w.heap.size, 1, none⟩ = some (.slice none 0 0) := hD.cell rfl
  have hf := hD.free
  clear hc hce
  go_wp2_with fail
  obtain ⟨hE, hbE⟩ := fin2 (p := .int .i64 0) (q := .slice none 0 0) hD hb hDn
  change bodyPost _ _ _ _ _ ((W.setCell ⟨w.heap.size, 0, none⟩ (.int .i64 0)).setCell ⟨w.heap.size, 1, none⟩ (.slice none 0 0))
  generalize (W.setCell ⟨w.heap.size, 0, none⟩ (.int .i64 0)).setCell ⟨w.heap.size, 1, none⟩ (.slice none 0 0) = W9 at *
  clear d0 d1
  have d0 := hE.cell (i := 0) rfl
  have d1 := hE.cell (i := 1) rfl
  exact bodyPost_ret (v := .tuple #[.agg #[.int .i64 0, .slice none 0 0], .int .i64 5]) (by simp [results, Tryz.results70, go_sem, d0, d1] <;> rfl) rfl ⟨rfl, hbE⟩

set_option maxRecDepth 100000 in
set_option maxHeartbeats 2000000 in
theorem later_ok {w : World} {c : Nat} {e : Int} {vc : Value} {a : Option Addr} {n cap : Nat} (hc : BlkAt w c 35 [.int .i64 e, vc]) (h : e < 1099511627776) (hw : 0 ≤ e) :
    Calls Tryz.prog 70 #[.pointer (some ⟨c, 0, none⟩), .slice a n cap] w fun en w' => en = .returned (.tuple #[.agg #[.int .i64 (e + 1), .slice a n cap], .int .i64 0]) ∧ Below w.heap.size w w' := by
  have hce := hc.alloc (.cells #[.int .i64 0, .slice none 0 0] 35)
  go_enter Tryz.func70, Tryz.ntmps70
  go_upto_region 1 with (fail)
  have hD : BlkAt (w.alloc (.cells #[.int .i64 0, .slice none 0 0] 35)) w.heap.size 35 [.int .i64 0, .slice none 0 0] := BlkAt.new w 35 [.int .i64 0, .slice none 0 0]
  have hb : Below w.heap.size w (w.alloc (.cells #[.int .i64 0, .slice none 0 0] 35)) := (Below.refl w.heap.size w).alloc (Nat.le_refl _) _
  change Code.wp _ _ _ _ (w.alloc (.cells #[.int .i64 0, .slice none 0 0] 35))
  generalize w.alloc (.cells #[.int .i64 0, .slice none 0 0] 35) = W at *
  have hDn : w.heap.size ≤ w.heap.size := Nat.le_refl _
  have c0 : W.cell? ⟨c, 0, none⟩ = some (.int .i64 e) := hce.cell rfl
  have d0 : W.cell? ⟨w.heap.size, 0, none⟩ = some (.int .i64 0) := hD.cell rfl
  have d1 : W.cell? ⟨w.heap.size, 1, none⟩ = some (.slice none 0 0) := hD.cell rfl
  have hf := hD.free
  clear hc hce
  go_wp2_with fail
  obtain ⟨hE, hbE⟩ := fin2 (p := .int .i64 (e + 1)) (q := .slice a n cap) hD hb hDn
  change bodyPost _ _ _ _ _ ((W.setCell ⟨w.heap.size, 0, none⟩ (.int .i64 (e + 1))).setCell ⟨w.heap.size, 1, none⟩ (.slice a n cap))
  generalize (W.setCell ⟨w.heap.size, 0, none⟩ (.int .i64 (e + 1))).setCell ⟨w.heap.size, 1, none⟩ (.slice a n cap) = W9 at *
  clear d0 d1
  have d0 := hE.cell (i := 0) rfl
  have d1 := hE.cell (i := 1) rfl
  exact bodyPost_ret (v := .tuple #[.agg #[.int .i64 (e + 1), .slice a n cap], .int .i64 0]) (by simp [results, Tryz.results70, go_sem, d0, d1] <;> rfl) rfl ⟨rfl, hbE⟩

set_option maxRecDepth 100000 in
set_option maxHeartbeats 2000000 in
theorem contfunc_any (p : SeatV → Bool) (g : Nat) (lb : Array Value) (eg : ∀ args w, (callFunc g args).run Tryz.prog w = .ok (.enter g args) w) {w : World} {v : Value} {L : List SeatV} (hv : ChainAt w v L) (hp : PredB g lb p w) :
    Calls Tryz.prog 36 #[v, .func (.func g) #[] lb] w fun e w' => e = .returned (.bool (L.any p)) ∧ Below w.heap.size w w' := by
  have HA := Lib.hid (placeBy_any p L)
  go_enter Tryz.func36, Tryz.ntmps36
  go_wp2_with fail
  refine (indfunc_any p g lb eg (by exact hv) hp).mono ?_
  rintro en w2 ⟨rfl, b2⟩
  generalize placeBy p L = P at *
  go_wp2_with fail
  go_ret
  exact ⟨by rw [← HA.out]; rfl, b2⟩

set_option maxRecDepth 100000 in
set_option maxHeartbeats 2000000 in
theorem join1_any {w : World} {c : Nat} {n l : Int} (hc : BlkAt w c 42 [.int .i64 n, .int .i64 l]) (x y : Int) (b : Bool) :
    Calls Tryz.prog 69 #[.agg #[.int .i64 x, .int .i64 y, .bool b], .pointer (some ⟨c, 0, none⟩)] w fun e w' => e = .returned (.bool (x == n)) ∧ Below w.heap.size w w' := by
  have hC := hc.alloc (.cells #[.int .i64 x, .int .i64 y, .bool b] 49)
  have hbel := (Below.refl w.heap.size w).alloc (Nat.le_refl _) (.cells #[.int .i64 x, .int .i64 y, .bool b] 49)
  have c0 : (w.alloc (.cells #[.int .i64 x, .int .i64 y, .bool b] 49)).cell? ⟨c, 0, none⟩ = some (.int .i64 n) := hC.cell rfl
  go_enter Tryz.func69, Tryz.ntmps69
  go_wp2_with fail
  go_ret
  exact ⟨rfl, hbel⟩

set_option maxRecDepth 100000 in
set_option maxHeartbeats 2000000 in
theorem clone_any {w : World} {v : Value} {L : List SeatV} (hv : ChainAt w v L) (h0 : 0 < L.length) (h1 : L.length ≤ 1000) :
    Calls Tryz.prog 32 #[v] w fun en w' => ∃ g cap, en = .returned (.slice (some ⟨g, 0, none⟩) L.length cap) ∧ w'.ownsRow w.heap.size 49 3 (.slice (some ⟨g, 0, none⟩) L.length cap) L.length (seatsCells L) ∧ Below w.heap.size w w' := by
  obtain ⟨a, cap, rfl, hlen, hok, hcell⟩ := hv
  obtain ⟨b, off, rfl, hab, hc⟩ := hcell h0
  have hcs := SeatsAt.cells hc
  obtain ⟨i0, hi0, hz0, hz1, hz2⟩ := info_parts seat_full
  have q22 : ∀ (w : World) (a : Option Addr) (n c n' c' : Nat), (binOp .eql 33 (.slice a n c) (.slice none n' c')).run Tryz.prog w = .ok (.bool a.isNone) w := fun w a n c n' c' => Lib.run_eql_slice_nil w _ _ a n c n' c' Tryz.underlying33
  clear hcell hc
  go_enter Tryz.func32, Tryz.ntmps32
  go_wp2_with (at_builtin; refine wpList_append_lies _ rfl (.tmp 5) (.tmp 6) 33 rfl w.heap.size 49 i0 _ 3 24 Tryz.underlying33 hi0 hz0 hz1 hz2 rfl (by omega) _ _ _ rfl (World.ownsRow_made w #[] 0 (Nat.le_refl _) (Nat.zero_le _) rfl) ⟨b, off, none⟩ L.length cap (seatsCells L) rfl (seatsCells_len L) ?c1 seatsCells_one h0 ?c3 ?c4 ?c5 (w.heap.size + 1) ?c6 ?_)
  case c1 =>
    intro j u hj
    rw [Addr.add_lit]
    refine (World.cell?_alloc_lt w _ ⟨b, off + j, none⟩ hab).trans (hcs j u hj)
  case c3 => unfold maxLen; omega
  case c4 => omega
  case c5 => simp
  case c6 => simp
  intro g' cap' w' hown' hg' hat' hlt'
  have hb : Below w.heap.size w w' := ((Below.refl _ w).alloc (Nat.le_refl _) _).grown hg' (by simp) (by intro k hk; simp [Value.ownBlock] at hk; omega)
  have hown : w'.ownsRow w.heap.size 49 3 (.slice (some ⟨g', 0, none⟩) L.length cap') L.length (seatsCells L) := by simpa using hown'
  clear hg' hat' hown' hcs
  go_wp2_with fail
  go_ret
  exact ⟨g', cap', by simp <;> rfl, hown, hb⟩

end Go.Proofs.YtomfmejodmfioaaGreat
