/- The document's Beside; slices.Index and slices.Contains of members and of seats. -/
import Derived.Test.YtofdmdpnobhnlaaCfgScan
namespace Go.Proofs.Ytofdmdpnobhnlaa
open Go.RowKit Go.ChangeShapes Go.WideShapes Go.Joins
set_option linter.unusedVariables false

/-- Members in memory: G. -/
def MemsAt (w : World) (a : Option Addr) (G : List (Int × Int)) : Prop :=
  G.length ≤ maxLen ∧ (0 < G.length → ∃ b off, a = some ⟨b, off, none⟩ ∧ b < w.heap.size ∧ ∀ i g, G[i]? = some g → w.cell? ⟨b, off + i * 2, none⟩ = some (.int .i64 g.1) ∧ w.cell? ⟨b, off + i * 2 + 1, none⟩ = some (.int .i64 g.2))
/-- A slice that is the members G. -/
def MemsV (w : World) (v : Value) (G : List (Int × Int)) : Prop := ∃ a cap, v = .slice a G.length cap ∧ MemsAt w a G
theorem MemsAt.below {w w' : World} {a : Option Addr} {G : List (Int × Int)} {n : Nat} (h : MemsAt w a G) (hb : Below n w w') (hn : n = w.heap.size) : MemsAt w' a G := by
  subst hn
  refine ⟨h.1, fun hp => ?_⟩
  obtain ⟨b, off, ha, hlt, hc⟩ := h.2 hp
  exact ⟨b, off, ha, Nat.lt_of_lt_of_le hlt hb.size, fun i g hi => ⟨(hb.cell (p := ⟨b, _, none⟩) hlt).trans (hc i g hi).1, (hb.cell (p := ⟨b, _, none⟩) hlt).trans (hc i g hi).2⟩⟩
theorem MemsV.below {w w' : World} {v : Value} {G : List (Int × Int)} (h : MemsV w v G) (hb : Below w.heap.size w w') : MemsV w' v G := by
  obtain ⟨a, cap, rfl, hs⟩ := h
  exact ⟨a, cap, rfl, hs.below hb rfl⟩
theorem MemsV.nil (w : World) : MemsV w (.slice none 0 0) [] := ⟨none, 0, rfl, Nat.zero_le _, by simp⟩

/-- The one so many behind a member. -/
def besideC (L : List SeatV) (n l d : Int) : Int × Int × Bool := if placeC L n l < 0 then (0, 0, false) else atC L (placeC L n l + d)
theorem beside_next (L : List SeatV) (n l : Int) : besideC L n l 1 = nextC L n l := rfl
theorem beside_ahead (L : List SeatV) (n l : Int) : besideC L n l (-1) = aheadC L n l := by
  have := place_range L n l
  rw [besideC, aheadC]
  split
  · rw [atC_lo (by omega)]
  · rfl

set_option maxRecDepth 100000 in
set_option maxHeartbeats 2000000 in
theorem qcbeside_any {w : World} {v : Value} {L : List SeatV} (hv : ChainAt w v L) (e n l d : Int) (hd1 : -1 ≤ d) (hd2 : d ≤ 1) :
    Calls Try.prog 30 #[.agg #[.int .i64 e, v], .agg #[.int .i64 n, .int .i64 l], .int .i64 d] w fun en w' => en = .returned (.tuple #[.agg #[.int .i64 (besideC L n l d).1, .int .i64 (besideC L n l d).2.1], .bool (besideC L n l d).2.2]) ∧ Below w.heap.size w w' := by
  obtain ⟨a, cap, rfl, hs⟩ := hv
  have hv : ChainAt w (.slice a L.length cap) L := ⟨a, cap, rfl, hs⟩
  have hlen := hs.1
  unfold maxLen at hlen
  go_enter Try.func30, Try.ntmps30
  go_upto_region 1 with (fail)
  have hA : BlkAt (((w.alloc (.cells #[.int .i64 e, .slice a L.length cap] 24)).alloc (.cells #[.int .i64 n, .int .i64 l] 27)).alloc (.cells #[.int .i64 0, .int .i64 0] 27)) w.heap.size 24 [.int .i64 e, .slice a L.length cap] := ((BlkAt.new w 24 [.int .i64 e, .slice a L.length cap]).alloc _).alloc _
  have hM : BlkAt (((w.alloc (.cells #[.int .i64 e, .slice a L.length cap] 24)).alloc (.cells #[.int .i64 n, .int .i64 l] 27)).alloc (.cells #[.int .i64 0, .int .i64 0] 27)) (w.heap.size + 1) 27 [.int .i64 n, .int .i64 l] := (BlkAt.newAt (by simp) 27 [.int .i64 n, .int .i64 l]).alloc _
  have hD : BlkAt (((w.alloc (.cells #[.int .i64 e, .slice a L.length cap] 24)).alloc (.cells #[.int .i64 n, .int .i64 l] 27)).alloc (.cells #[.int .i64 0, .int .i64 0] 27)) (w.heap.size + 2) 27 [.int .i64 0, .int .i64 0] := BlkAt.newAt (by simp) 27 [.int .i64 0, .int .i64 0]
  have hb : Below w.heap.size w (((w.alloc (.cells #[.int .i64 e, .slice a L.length cap] 24)).alloc (.cells #[.int .i64 n, .int .i64 l] 27)).alloc (.cells #[.int .i64 0, .int .i64 0] 27)) := (((Below.refl w.heap.size w).alloc (Nat.le_refl _) _).alloc (by simp) _).alloc (by simp; omega) _
  have hv2 := hv.below hb
  change Code.wp _ _ _ _ (((w.alloc (.cells #[.int .i64 e, .slice a L.length cap] 24)).alloc (.cells #[.int .i64 n, .int .i64 l] 27)).alloc (.cells #[.int .i64 0, .int .i64 0] 27))
  generalize ((w.alloc (.cells #[.int .i64 e, .slice a L.length cap] 24)).alloc (.cells #[.int .i64 n, .int .i64 l] 27)).alloc (.cells #[.int .i64 0, .int .i64 0] 27) = W at *
  have hDn : w.heap.size ≤ w.heap.size + 2 := by omega
  generalize w.heap.size + 2 = D at *
  generalize w.heap.size + 1 = M at *
  have c1 : W.cell? ⟨w.heap.size, 1, none⟩ = some (.slice a L.length cap) := hA.cell rfl
  have c0 : W.cell? ⟨w.heap.size, 0, none⟩ = some (.int .i64 e) := hA.cell rfl
  have m0 : W.cell? ⟨M, 0, none⟩ = some (.int .i64 n) := hM.cell rfl
  have m1 : W.cell? ⟨M, 1, none⟩ = some (.int .i64 l) := hM.cell rfl
  clear hv hs
  have hW : W.cell? ⟨M, 1, none⟩ = some (.int .i64 l) := m1
  go_wp2_with fail
  refine (qcplace_any (by exact hv2) e n l).mono ?_
  rintro en w2 ⟨rfl, b2⟩
  have hA := hA.below b2
  have hD := hD.below b2
  have hv2 := hv2.below b2
  have hb := below_step hb b2
  clear b2
  have k0 : w2.cell? ⟨w.heap.size, 0, none⟩ = some (.int .i64 e) := hA.cell rfl
  have k1 : w2.cell? ⟨w.heap.size, 1, none⟩ = some (.slice a L.length cap) := hA.cell rfl
  clear c0 c1 m0 m1 hM hW
  have d0 : w2.cell? ⟨D, 0, none⟩ = some (.int .i64 0) := hD.cell rfl
  have d1 : w2.cell? ⟨D, 1, none⟩ = some (.int .i64 0) := hD.cell rfl
  have hf := hD.free
  have hpr := place_range L n l
  by_cases h : placeC L n l < 0
  · have HN := Lib.hid (show besideC L n l d = (0, 0, false) by rw [besideC, if_pos h])
    generalize placeC L n l = P at *
    go_wp2_with fail
    obtain ⟨hE, hbE⟩ := fin2 (p := .int .i64 0) (q := .int .i64 0) hD hb hDn
    change bodyPost _ _ _ _ _ ((w2.setCell ⟨D, 0, none⟩ (.int .i64 0)).setCell ⟨D, 1, none⟩ (.int .i64 0))
    generalize (w2.setCell ⟨D, 0, none⟩ (.int .i64 0)).setCell ⟨D, 1, none⟩ (.int .i64 0) = W9 at *
    clear d0 d1
    have d0 := hE.cell (i := 0) rfl
    have d1 := hE.cell (i := 1) rfl
    exact bodyPost_ret (v := .tuple #[.agg #[.int .i64 0, .int .i64 0], .bool false]) (by simp [results, Try.results30, go_sem, d0, d1] <;> rfl) rfl ⟨by rw [HN.out], hbE⟩
  · have HN := Lib.hid (show besideC L n l d = atC L (placeC L n l + d) by rw [besideC, if_neg h])
    generalize placeC L n l = P at *
    clear d0 d1 hf
    go_wp2_with fail
    refine (qcat_any (by exact hv2) e (P + d)).mono ?_
    rintro en w3 ⟨rfl, b2⟩
    have hD := hD.below b2
    have hv2 := hv2.below b2
    have hb := below_step hb b2
    clear b2
    have d0 : w3.cell? ⟨D, 0, none⟩ = some (.int .i64 0) := hD.cell rfl
    have d1 : w3.cell? ⟨D, 1, none⟩ = some (.int .i64 0) := hD.cell rfl
    have hf := hD.free
    generalize hR : atC L (P + d) = R at *
    have HR := Lib.hid hR
    clear hR
    obtain ⟨r1, r2, r3⟩ := R
    go_wp2_with fail
    obtain ⟨hE, hbE⟩ := fin2 (p := .int .i64 r1) (q := .int .i64 r2) hD hb hDn
    change bodyPost _ _ _ _ _ ((w3.setCell ⟨D, 0, none⟩ (.int .i64 r1)).setCell ⟨D, 1, none⟩ (.int .i64 r2))
    generalize (w3.setCell ⟨D, 0, none⟩ (.int .i64 r1)).setCell ⟨D, 1, none⟩ (.int .i64 r2) = W9 at *
    clear d0 d1
    have d0 := hE.cell (i := 0) rfl
    have d1 := hE.cell (i := 1) rfl
    exact bodyPost_ret (v := .tuple #[.agg #[.int .i64 r1, .int .i64 r2], .bool r3]) (by simp [results, Try.results30, go_sem, d0, d1] <;> rfl) rfl ⟨by rw [HN.out], hbE⟩

set_option maxRecDepth 100000 in
set_option maxHeartbeats 2000000 in
theorem indmem_any {w : World} {v : Value} {G : List (Int × Int)} (hv : MemsV w v G) (n l : Int) :
    Calls Try.prog 67 #[v, .agg #[.int .i64 n, .int .i64 l]] w fun en w' => ∃ i : Int, en = .returned (.int .i64 i) ∧ decide (0 ≤ i) = G.contains (n, l) ∧ -1 ≤ i ∧ Below w.heap.size w w' := by
  obtain ⟨a, cap, rfl, hlen, hcell⟩ := hv
  unfold maxLen at hlen
  go_enter Try.func67, Try.ntmps67
  go_upto_region 1 with (fail)
  have hM : BlkAt (w.alloc (.cells #[.int .i64 n, .int .i64 l] 27)) w.heap.size 27 [.int .i64 n, .int .i64 l] := BlkAt.new w 27 [.int .i64 n, .int .i64 l]
  have hb : Below w.heap.size w (w.alloc (.cells #[.int .i64 n, .int .i64 l] 27)) := (Below.refl w.heap.size w).alloc (Nat.le_refl _) _
  change Code.wp _ _ _ _ (w.alloc (.cells #[.int .i64 n, .int .i64 l] 27))
  generalize w.alloc (.cells #[.int .i64 n, .int .i64 l] 27) = W at *
  have hMlt := hM.lt
  have m0 : W.cell? ⟨w.heap.size, 0, none⟩ = some (.int .i64 n) := hM.cell rfl
  have m1 : W.cell? ⟨w.heap.size, 1, none⟩ = some (.int .i64 l) := hM.cell rfl
  clear hM
  go_wp2_with fail
  go_loopw [5, 8] (fun _ i wr => ∃ k : Nat, k ≤ G.length ∧ i = .int .i64 k ∧ Below W.heap.size W wr ∧ Aside (∀ j t, j < k → G[j]? = some t → ((n, l) == t) = false)) (fun _ i _ => G.length - (intOf i).toNat)
  case atStart => exact ⟨0, Nat.zero_le _, rfl, Below.refl _ _, fun j t hj => absurd hj (Nat.not_lt_zero _)⟩
  case round =>
    obtain ⟨k, hk, rfl, hbk', A⟩ := hrel
    have hb2 := below_step hb hbk'
    have hbk : Below w.heap.size w wr := hb2
    have m0 := (hbk'.cell (p := ⟨w.heap.size, 0, none⟩) hMlt).trans m0
    have m1 := (hbk'.cell (p := ⟨w.heap.size, 1, none⟩) hMlt).trans m1
    by_cases hlt : k < G.length
    · obtain ⟨b, off, rfl, hab, hc⟩ := hcell (by omega)
      obtain ⟨g, hg⟩ : ∃ g, G[k]? = some g := ⟨_, List.getElem?_eq_getElem hlt⟩
      obtain ⟨s0, s1⟩ := hc k g hg
      obtain ⟨x, y⟩ := g
      have s0 := (hbk.cell (p := ⟨b, off + k * 2, none⟩) hab).trans s0
      have s1 := (hbk.cell (p := ⟨b, off + k * 2 + 1, none⟩) hab).trans s1
      have hq := fun w => (mem_eql n l x y w)
      have hpe : (n == x && l == y) = ((n, l) == (x, y)) := rfl
      have HS := Lib.hid hg
      have HP := Lib.hid hpe
      clear hg hc hcell hpe
      cases hp : (n == x && l == y) with
      | true =>
        rw [hp] at hq
        have HE := Lib.hid (show G.contains (n, l) = true by
          rw [List.contains_iff_exists_mem_beq]
          exact ⟨_, List.mem_of_getElem? HS.out, by rw [← HP.out]; exact hp⟩)
        go_wp2_with fail
        go_quiet (fail)
        go_wp2_with fail
        go_ret
        exact ⟨k, rfl, by rw [HE.out]; simp, by omega, below_drewN hb2 _⟩
      | false =>
        rw [hp] at hq
        go_wp2_with fail
        go_quiet (fail)
        go_wp2_with fail
        go_roundw
        case rel => exact ⟨k + 1, by omega, by go_num, below_drewN hbk' _, fun j t hj ht => by
          rcases Nat.lt_or_ge j k with h | h
          · exact A.out j t h ht
          · obtain rfl : j = k := by omega
            rw [HS.out] at ht
            obtain rfl := Option.some.inj ht
            rw [← HP.out]
            exact hp⟩
        case measure => simp [intOf]; omega
    · have HE := Lib.hid (show G.contains (n, l) = false by
        rw [Bool.eq_false_iff]
        intro h
        rw [List.contains_iff_exists_mem_beq] at h
        obtain ⟨t, ht, h⟩ := h
        obtain ⟨j, hj⟩ := List.getElem?_of_mem ht
        have := A.out j t (by have := (List.getElem?_eq_some_iff.1 hj).1; omega) hj
        rw [this] at h
        cases h)
      go_wp2_with fail
      go_ret
      exact ⟨-1, rfl, by rw [HE.out]; simp, by omega, hb2⟩

set_option maxRecDepth 100000 in
set_option maxHeartbeats 2000000 in
theorem indseat_any {w : World} {v : Value} {L : List SeatV} (hv : ChainAt w v L) (n l : Int) (z : Bool) :
    Calls Try.prog 68 #[v, .agg #[.int .i64 n, .int .i64 l, .bool z]] w fun en w' => ∃ i : Int, en = .returned (.int .i64 i) ∧ decide (0 ≤ i) = L.contains (⟨n, l, z⟩ : SeatV) ∧ -1 ≤ i ∧ Below w.heap.size w w' := by
  obtain ⟨a, cap, rfl, hlen, hok, hcell⟩ := hv
  unfold maxLen at hlen
  go_enter Try.func68, Try.ntmps68
  go_upto_region 1 with (fail)
  have hM : BlkAt (w.alloc (.cells #[.int .i64 n, .int .i64 l, .bool z] 50)) w.heap.size 50 [.int .i64 n, .int .i64 l, .bool z] := BlkAt.new w 50 [.int .i64 n, .int .i64 l, .bool z]
  have hb : Below w.heap.size w (w.alloc (.cells #[.int .i64 n, .int .i64 l, .bool z] 50)) := (Below.refl w.heap.size w).alloc (Nat.le_refl _) _
  change Code.wp _ _ _ _ (w.alloc (.cells #[.int .i64 n, .int .i64 l, .bool z] 50))
  generalize w.alloc (.cells #[.int .i64 n, .int .i64 l, .bool z] 50) = W at *
  have hMlt := hM.lt
  have m0 : W.cell? ⟨w.heap.size, 0, none⟩ = some (.int .i64 n) := hM.cell rfl
  have m1 : W.cell? ⟨w.heap.size, 1, none⟩ = some (.int .i64 l) := hM.cell rfl
  have m2 : W.cell? ⟨w.heap.size, 2, none⟩ = some (.bool z) := hM.cell rfl
  clear hM
  go_wp2_with fail
  go_loopw [5, 8] (fun _ i wr => ∃ k : Nat, k ≤ L.length ∧ i = .int .i64 k ∧ Below W.heap.size W wr ∧ Aside (∀ j t, j < k → L[j]? = some t → ((⟨n, l, z⟩ : SeatV) == t) = false)) (fun _ i _ => L.length - (intOf i).toNat)
  case atStart => exact ⟨0, Nat.zero_le _, rfl, Below.refl _ _, fun j t hj => absurd hj (Nat.not_lt_zero _)⟩
  case round =>
    obtain ⟨k, hk, rfl, hbk', A⟩ := hrel
    have hb2 := below_step hb hbk'
    have hbk : Below w.heap.size w wr := hb2
    have m0 := (hbk'.cell (p := ⟨w.heap.size, 0, none⟩) hMlt).trans m0
    have m1 := (hbk'.cell (p := ⟨w.heap.size, 1, none⟩) hMlt).trans m1
    have m2 := (hbk'.cell (p := ⟨w.heap.size, 2, none⟩) hMlt).trans m2
    by_cases hlt : k < L.length
    · obtain ⟨b, off, rfl, hab, hc⟩ := hcell (by omega)
      obtain ⟨g, hg⟩ : ∃ g, L[k]? = some g := ⟨_, List.getElem?_eq_getElem hlt⟩
      obtain ⟨s0, s1, s2⟩ := (hc k g hg).of (w' := wr) fun j => hbk.cell (p := ⟨b, j, none⟩) hab
      obtain ⟨x, y, z'⟩ := g
      simp only at s0 s1 s2
      have hq := fun w => (seat_eql n l x y z z' w)
      have hpe : decide ((⟨n, l, z⟩ : SeatV) = ⟨x, y, z'⟩) = ((⟨n, l, z⟩ : SeatV) == ⟨x, y, z'⟩) := rfl
      have HS := Lib.hid hg
      have HP := Lib.hid hpe
      clear hg hc hcell hpe
      cases hp : (decide ((⟨n, l, z⟩ : SeatV) = ⟨x, y, z'⟩)) with
      | true =>
        rw [hp] at hq
        have HE := Lib.hid (show L.contains (⟨n, l, z⟩ : SeatV) = true by
          rw [List.contains_iff_exists_mem_beq]
          exact ⟨_, List.mem_of_getElem? HS.out, by rw [← HP.out]; exact hp⟩)
        go_wp2_with fail
        go_quiet (fail)
        go_wp2_with fail
        go_ret
        exact ⟨k, rfl, by rw [HE.out]; simp, by omega, below_drewN hb2 _⟩
      | false =>
        rw [hp] at hq
        go_wp2_with fail
        go_quiet (fail)
        go_wp2_with fail
        go_roundw
        case rel => exact ⟨k + 1, by omega, by go_num, below_drewN hbk' _, fun j t hj ht => by
          rcases Nat.lt_or_ge j k with h | h
          · exact A.out j t h ht
          · obtain rfl : j = k := by omega
            rw [HS.out] at ht
            obtain rfl := Option.some.inj ht
            rw [← HP.out]
            exact hp⟩
        case measure => simp [intOf]; omega
    · have HE := Lib.hid (show L.contains (⟨n, l, z⟩ : SeatV) = false by
        rw [Bool.eq_false_iff]
        intro h
        rw [List.contains_iff_exists_mem_beq] at h
        obtain ⟨t, ht, h⟩ := h
        obtain ⟨j, hj⟩ := List.getElem?_of_mem ht
        have := A.out j t (by have := (List.getElem?_eq_some_iff.1 hj).1; omega) hj
        rw [this] at h
        cases h)
      go_wp2_with fail
      go_ret
      exact ⟨-1, rfl, by rw [HE.out]; simp, by omega, hb2⟩

set_option maxRecDepth 100000 in
set_option maxHeartbeats 2000000 in
theorem contmem_any {w : World} {v : Value} {G : List (Int × Int)} (hv : MemsV w v G) (n l : Int) :
    Calls Try.prog 42 #[v, .agg #[.int .i64 n, .int .i64 l]] w fun en w' => en = .returned (.bool (G.contains (n, l))) ∧ Below w.heap.size w w' := by
  go_enter Try.func42, Try.ntmps42
  go_upto_region 1 with (fail)
  have hM : BlkAt (w.alloc (.cells #[.int .i64 n, .int .i64 l] 27)) w.heap.size 27 [.int .i64 n, .int .i64 l] := BlkAt.new w 27 [.int .i64 n, .int .i64 l]
  have hb : Below w.heap.size w (w.alloc (.cells #[.int .i64 n, .int .i64 l] 27)) := (Below.refl w.heap.size w).alloc (Nat.le_refl _) _
  have hv2 := hv.below hb
  change Code.wp _ _ _ _ (w.alloc (.cells #[.int .i64 n, .int .i64 l] 27))
  generalize w.alloc (.cells #[.int .i64 n, .int .i64 l] 27) = W at *
  have m0 : W.cell? ⟨w.heap.size, 0, none⟩ = some (.int .i64 n) := hM.cell rfl
  have m1 : W.cell? ⟨w.heap.size, 1, none⟩ = some (.int .i64 l) := hM.cell rfl
  go_wp2_with fail
  refine (indmem_any (by exact hv2) n l).mono ?_
  rintro en w2 ⟨i, rfl, hi, hi2, b2⟩
  have hb2 := below_step hb b2
  have HI := Lib.hid hi
  clear hi
  go_wp2_with fail
  go_ret
  exact ⟨by rw [← HI.out]; rfl, hb2⟩

set_option maxRecDepth 100000 in
set_option maxHeartbeats 2000000 in
theorem contseat_any {w : World} {v : Value} {L : List SeatV} (hv : ChainAt w v L) (n l : Int) (z : Bool) :
    Calls Try.prog 51 #[v, .agg #[.int .i64 n, .int .i64 l, .bool z]] w fun en w' => en = .returned (.bool (L.contains (⟨n, l, z⟩ : SeatV))) ∧ Below w.heap.size w w' := by
  go_enter Try.func51, Try.ntmps51
  go_upto_region 1 with (fail)
  have hM : BlkAt (w.alloc (.cells #[.int .i64 n, .int .i64 l, .bool z] 50)) w.heap.size 50 [.int .i64 n, .int .i64 l, .bool z] := BlkAt.new w 50 [.int .i64 n, .int .i64 l, .bool z]
  have hb : Below w.heap.size w (w.alloc (.cells #[.int .i64 n, .int .i64 l, .bool z] 50)) := (Below.refl w.heap.size w).alloc (Nat.le_refl _) _
  have hv2 := hv.below hb
  change Code.wp _ _ _ _ (w.alloc (.cells #[.int .i64 n, .int .i64 l, .bool z] 50))
  generalize w.alloc (.cells #[.int .i64 n, .int .i64 l, .bool z] 50) = W at *
  have m0 : W.cell? ⟨w.heap.size, 0, none⟩ = some (.int .i64 n) := hM.cell rfl
  have m1 : W.cell? ⟨w.heap.size, 1, none⟩ = some (.int .i64 l) := hM.cell rfl
  have m2 : W.cell? ⟨w.heap.size, 2, none⟩ = some (.bool z) := hM.cell rfl
  go_wp2_with fail
  refine (indseat_any (by exact hv2) n l z).mono ?_
  rintro en w2 ⟨i, rfl, hi, hi2, b2⟩
  have hb2 := below_step hb b2
  have HI := Lib.hid hi
  clear hi
  go_wp2_with fail
  go_ret
  exact ⟨by rw [← HI.out]; rfl, hb2⟩

end Go.Proofs.Ytofdmdpnobhnlaa
