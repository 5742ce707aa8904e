/- Right, and the document's Right. -/
import Derived.Test.YtomfmejodmfioaaGreatCfgSame
namespace Go.Proofs.YtomfmejodmfioaaGreat
open Go.RowKit Go.ChangeShapes Go.WideShapes Go.Joins
set_option linter.unusedVariables false

/-- Which nodes were seen. -/
def seen (P : List SeatV) (j : Nat) : Bool := P.any fun t => t.node == (j : Int)
def seenCells (P : List SeatV) : List Value := (List.range 8).map fun j => .bool (seen P j)
theorem seenCells_at (P : List SeatV) {j : Nat} (h : j < 8) : (seenCells P)[j]? = some (.bool (seen P j)) := by
  rw [seenCells, List.getElem?_map, List.getElem?_range h]
  rfl
theorem seenCells_snoc (P : List SeatV) (s : SeatV) {j : Nat} (hj : j < 8) (h : s.node = (j : Int)) : (seenCells P).set j (.bool true) = seenCells (P ++ [s]) := by
  apply List.ext_getElem? fun i => ?_
  rw [List.getElem?_set]
  have hlen : (seenCells P).length = 8 := by simp [seenCells]
  split
  · next e =>
    subst e
    rw [if_pos (by omega), seenCells_at _ hj]
    simp [seen, h]
  · next e =>
    rcases Nat.lt_or_ge i 8 with hi | hi
    · rw [seenCells_at _ hi, seenCells_at _ hi]
      have : (s.node == (i : Int)) = false := by
        rw [h, beq_eq_false_iff_ne]
        omega
      simp [seen, this]
    · rw [List.getElem?_eq_none (by omega), List.getElem?_eq_none (by simp [seenCells]; omega)]
theorem all_seen (P : List SeatV) {n : Int} {j : Nat} (h : n = j) : (P.all fun t => t.node != n) = !seen P j := by
  subst h
  induction P with
  | nil => rfl
  | cons x P ih =>
    simp only [List.all_cons, ih, seen, List.any_cons, Bool.not_or]
    rfl
theorem take_snoc {L : List SeatV} {k : Nat} {s : SeatV} (h : L[k]? = some s) : L.take (k + 1) = L.take k ++ [s] := by
  obtain ⟨hk, e⟩ := List.getElem?_eq_some_iff.1 h
  rw [List.take_succ_eq_append_getElem hk, e]
theorem seatsOk_stop {L : List SeatV} {k : Nat} {s : SeatV} (h : L[k]? = some s) (hf : (mayM s.node s.life && (L.take k).all (fun t => t.node != s.node)) = false) : seatsOk L = false := by
  rw [← List.take_append_drop (k + 1) L]
  refine seatsOk_pre ?_
  rw [take_snoc h, seatsOk_snoc, hf, Bool.and_false]
theorem seatsOk_more {L : List SeatV} {k : Nat} {s : SeatV} (h : L[k]? = some s) (ho : seatsOk (L.take k) = true) (hm : mayM s.node s.life = true) (hf : (L.take k).all (fun t => t.node != s.node) = true) : seatsOk (L.take (k + 1)) = true := by
  rw [take_snoc h, seatsOk_snoc, ho, hm, hf]
  rfl
theorem right_false {e : Int} {L : List SeatV} (h : ¬ (1 ≤ e ∧ e ≤ 1099511627776 ∧ 1 ≤ L.length ∧ L.length ≤ 8 ∧ L[0]?.map SeatV.sync = some true ∧ seatsOk L = true)) : rightC ⟨e, L⟩ = false := by
  rw [Bool.eq_false_iff]
  intro h'
  exact h (rightC_iff.1 h')
theorem all_of {L : List SeatV} {k : Nat} {n : Int} (hk : k ≤ L.length) (h : ∀ j t, j < k → L[j]? = some t → (t.node == n) = false) : (L.take k).all (fun t => t.node != n) = true := by
  rw [List.all_eq_true]
  intro t ht
  obtain ⟨j, hj⟩ := List.getElem?_of_mem ht
  have hjk : j < k := by
    have := (List.getElem?_eq_some_iff.1 hj).1
    rw [List.length_take] at this
    omega
  rw [List.getElem?_take_of_lt hjk] at hj
  have := h j t hjk hj
  simpa [bne] using this
theorem all_hit {L : List SeatV} {k j : Nat} {n : Int} {t : SeatV} (hj : j < k) (ht : L[j]? = some t) (h : (t.node == n) = true) : (L.take k).all (fun t => t.node != n) = false := by
  rw [Bool.eq_false_iff]
  intro ha
  rw [List.all_eq_true] at ha
  have := ha t (List.mem_of_getElem? (i := j) (by rw [List.getElem?_take_of_lt hj]; exact ht))
  rw [bne, h] at this
  cases this

set_option maxRecDepth 100000 in
set_option maxHeartbeats 4000000 in
theorem cright_any {w : World} {v : Value} {L : List SeatV} (hv : ChainAt w v L) (e : Int) :
    Calls Tryz.prog 34 #[.agg #[.int .i64 e, v]] w fun en w' => en = .returned (.bool (rightC ⟨e, L⟩)) ∧ Below w.heap.size w w' := by
  obtain ⟨a, cap, rfl, hs⟩ := hv
  have hlen := hs.1
  unfold maxLen at hlen
  go_enter Tryz.func34, Tryz.ntmps34
  go_upto_region 1 with (fail)
  have hA : BlkAt (w.alloc (.cells #[.int .i64 e, .slice a L.length cap] 35)) w.heap.size 35 [.int .i64 e, .slice a L.length cap] := BlkAt.new w 35 [.int .i64 e, .slice a L.length cap]
  have hb : Below w.heap.size w (w.alloc (.cells #[.int .i64 e, .slice a L.length cap] 35)) := (Below.refl w.heap.size w).alloc (Nat.le_refl _) _
  have hs := hs.below hb rfl
  change Code.wp _ _ _ _ (w.alloc (.cells #[.int .i64 e, .slice a L.length cap] 35))
  generalize w.alloc (.cells #[.int .i64 e, .slice a L.length cap] 35) = W at *
  have hAlt := hA.lt
  have c0 : W.cell? ⟨w.heap.size, 0, none⟩ = some (.int .i64 e) := hA.cell rfl
  have c1 : W.cell? ⟨w.heap.size, 1, none⟩ = some (.slice a L.length cap) := hA.cell rfl
  have hcell := hs.2.2
  have hoks := hs.2.1
  clear hs hA
  by_cases t1 : e < 1
  · have HE := Lib.hid (right_false (e := e) (L := L) (by omega))
    (go_wp2_with fail; go_ret; exact ⟨by rw [HE.out]; rfl, hb⟩)
  · by_cases t2 : 1099511627776 < e
    · have HE := Lib.hid (right_false (e := e) (L := L) (by omega))
      (go_wp2_with fail; go_ret; exact ⟨by rw [HE.out]; rfl, hb⟩)
    · by_cases t3 : (L.length : Int) < 1
      · have HE := Lib.hid (right_false (e := e) (L := L) (by omega))
        (go_wp2_with fail; go_ret; exact ⟨by rw [HE.out]; rfl, hb⟩)
      · by_cases t4 : 8 < (L.length : Int)
        · have HE := Lib.hid (right_false (e := e) (L := L) (by omega))
          (go_wp2_with fail; go_ret; exact ⟨by rw [HE.out]; rfl, hb⟩)
        · obtain ⟨b, off, rfl, hab, hc⟩ := hcell (by omega)
          obtain ⟨s0, hs0⟩ : ∃ s, L[0]? = some s := ⟨_, List.getElem?_eq_getElem (by omega)⟩
          have hz0 := (hc 0 s0 hs0).2.2
          rw [show off + 0 * 3 = off by omega] at hz0
          cases t5 : s0.sync with
          | false =>
            have HE := Lib.hid (right_false (e := e) (L := L) (fun h => by rw [hs0] at h; simp [t5] at h))
            rw [t5] at hz0
            clear hcell hc hs0
            (go_wp2_with fail; go_ret; exact ⟨by rw [HE.out]; rfl, hb⟩)
          | true =>
            rw [t5] at hz0
            have HR := Lib.hid (show ∀ b, seatsOk L = b → rightC ⟨e, L⟩ = b from fun b hb => by
              cases b with
              | true => exact rightC_iff.2 ⟨by show 1 ≤ e; omega, by show e ≤ 1099511627776; omega, by show 1 ≤ L.length; omega, by show L.length ≤ 8; omega, by show L[0]?.map SeatV.sync = some true; rw [hs0]; simp [t5], hb⟩
              | false => exact right_false (fun h => by rw [hb] at h; simp at h))
            clear hcell hs0
            go_upto_region 4 with (fail)
            have hS0 : BlkAt (W.alloc (.cells (seenCells []).toArray 124)) W.heap.size 124 (seenCells []) := BlkAt.new W 124 (seenCells [])
            go_upto_region 5 with (fail)
            have hb1 := hb.alloc hb.size (.cells (seenCells []).toArray 124)
            have hbW := (Below.refl W.heap.size W).alloc (Nat.le_refl _) (.cells (seenCells []).toArray 124)
            change Code.wp _ _ _ _ (W.alloc (.cells (seenCells []).toArray 124))
            generalize W.alloc (.cells (seenCells []).toArray 124) = W1 at *
            have hWS : W.heap.size ≤ W.heap.size := Nat.le_refl _
            generalize hSd : W.heap.size = S at hS0
            rw [hSd] at hbW
            have hWw : w.heap.size ≤ S := by rw [← hSd]; exact hb.size
            have c1 := (hbW.cell (p := ⟨w.heap.size, 1, none⟩) (by rw [← hSd]; exact hAlt)).trans c1
            have hc0 := hc
            have hc : ∀ i s, L[i]? = some s → SeatAt W1 b (off + i * 3) s := fun i s hi => (hc i s hi).of fun j => hbW.cell (p := ⟨b, j, none⟩) (by rw [← hSd]; exact hab)
            clear c0 hz0
            go_wp2_with fail
            go_loopw [37] (fun i wr => ∃ k : Nat, k ≤ L.length ∧ i = .int .i64 k ∧ seatsOk (L.take k) = true ∧ BlkAt wr S 124 (seenCells (L.take k)) ∧ Below S W wr) (fun i _ => L.length - (intOf i).toNat)
            case atStart => exact ⟨0, Nat.zero_le _, rfl, rfl, hS0, hbW⟩
            case round =>
              obtain ⟨k, hk, rfl, hok, hS, hbk⟩ := hrel
              have hb2 : Below w.heap.size w wr := hb.trans (hbk.mono hWw)
              have c1 := ()
              by_cases hlt : k < L.length
              · obtain ⟨s, hs⟩ : ∃ s, L[k]? = some s := ⟨_, List.getElem?_eq_getElem hlt⟩
                have habS : b < S := by rw [← hSd]; exact hab
                obtain ⟨s0, s1, s2⟩ := (hc0 k s hs).of (w' := wr) fun j => hbk.cell (p := ⟨b, j, none⟩) habS
                have hsk := hoks s (List.mem_of_getElem? hs)
                obtain ⟨x, y, z⟩ := s
                simp only at s0 s1 s2
                go_upto_region 8 with (fail)
                have hP := BlkAt.new wr 49 [.int .i64 x, .int .i64 y, .bool z]
                have hS1 := hS.alloc (.cells #[.int .i64 x, .int .i64 y, .bool z] 49)
                have hb3 := hb2.alloc hb2.size (.cells #[.int .i64 x, .int .i64 y, .bool z] 49)
                have hbk3 := hbk.alloc (by have := hbk.size; omega) (.cells #[.int .i64 x, .int .i64 y, .bool z] 49)
                change Code.wp _ _ _ _ (wr.alloc (.cells #[.int .i64 x, .int .i64 y, .bool z] 49))
                change BlkAt (wr.alloc (.cells #[.int .i64 x, .int .i64 y, .bool z] 49)) _ _ _ at hP
                generalize wr.alloc (.cells #[.int .i64 x, .int .i64 y, .bool z] 49) = w3 at *
                have hXS : wr.heap.size ≠ S := by have := hS.lt; omega
                generalize wr.heap.size = X at *
                have p0 : w3.cell? ⟨X, 0, none⟩ = some (.int .i64 x) := hP.cell rfl
                have p1 : w3.cell? ⟨X, 1, none⟩ = some (.int .i64 y) := hP.cell rfl
                clear s0 s1 s2 hS hb2 hbk
                have HS := Lib.hid hs
                have HOK := Lib.hid hok
                clear hs hok
                by_cases hm : mayM x y = true
                · obtain ⟨j, rfl⟩ : ∃ j : Nat, x = j := ⟨x.toNat, by have := (mayM_iff.1 hm).1; omega⟩
                  have hj : j < 8 := by have := (mayM_iff.1 hm).2.1; omega
                  have HM := Lib.hid hm
                  clear hm
                  go_wp2_with fail
                  refine (cmay_any (j : Int) y _).mono ?_
                  rintro en w4 ⟨rfl, b4⟩
                  rw [HM.out]
                  have hP := hP.below b4
                  have hS := hS1.below b4
                  have hb4 := below_step hb3 b4
                  have hbk4 := hbk3.trans (b4.mono (by have := hbk3.size; omega))
                  clear p0 p1 hS1 hb3 hbk3 b4
                  have p0 : w4.cell? ⟨X, 0, none⟩ = some (.int .i64 j) := hP.cell rfl
                  have q0 : w4.cell? ⟨S, j, none⟩ = some (.bool (seen (L.take k) j)) := hS.cell (seenCells_at _ hj)
                  cases hz : seen (L.take k) j with
                  | true =>
                    rw [hz] at q0
                    have HE := Lib.hid (HR.out false (seatsOk_stop HS.out (by rw [all_seen (L.take k) (j := j) rfl, hz]; simp)))
                    go_wp2_with fail
                    go_ret
                    exact ⟨by rw [HE.out]; rfl, hb4⟩
                  | false =>
                    rw [hz] at q0
                    have HN := Lib.hid (seatsOk_more HS.out HOK.out HM.out (by rw [all_seen (L.take k) (j := j) rfl, hz]; rfl))
                    have HT := Lib.hid (take_snoc HS.out)
                    have hfz := hS.free j
                    go_wp2_with fail
                    go_roundw
                    case rel => exact ⟨k + 1, by omega, by go_num, HN.out, by rw [HT.out, ← seenCells_snoc (L.take k) _ hj rfl]; exact hS.set j (.bool true), hbk4.grown (grown_setCell w4 S j (.bool true)) (by have := hbk4.size; omega) (fun i hi => by cases hi; exact Nat.le_refl _)⟩
                    case measure => simp [intOf]; omega
                · have hm : mayM x y = false := by simpa using hm
                  have HE := Lib.hid (HR.out false (seatsOk_stop HS.out (by rw [hm]; rfl)))
                  have HM := Lib.hid hm
                  clear hm
                  go_wp2_with fail
                  refine (cmay_any x y _).mono ?_
                  rintro en w4 ⟨rfl, b4⟩
                  rw [HM.out]
                  have hb4 := below_step hb3 b4
                  clear p0 p1
                  go_wp2_with fail
                  go_ret
                  exact ⟨by rw [HE.out]; rfl, hb4⟩
              · have HE := Lib.hid (HR.out true (by rw [List.take_of_length_le (by omega)] at hok; exact hok))
                go_wp2_with fail
                go_ret
                exact ⟨by rw [HE.out]; rfl, hb2⟩

set_option maxRecDepth 100000 in
set_option maxHeartbeats 4000000 in
theorem qcright_any {w : World} {v : Value} {L : List SeatV} (hv : ChainAt w v L) (e : Int) :
    Calls Tryz.prog 16 #[.agg #[.int .i64 e, v]] w fun en w' => en = .returned (.bool (rightC ⟨e, L⟩)) ∧ Below w.heap.size w w' := by
  obtain ⟨a, cap, rfl, hs⟩ := hv
  have hlen := hs.1
  unfold maxLen at hlen
  go_enter Tryz.func16, Tryz.ntmps16
  go_upto_region 1 with (fail)
  have hA : BlkAt (w.alloc (.cells #[.int .i64 e, .slice a L.length cap] 35)) w.heap.size 35 [.int .i64 e, .slice a L.length cap] := BlkAt.new w 35 [.int .i64 e, .slice a L.length cap]
  have hb : Below w.heap.size w (w.alloc (.cells #[.int .i64 e, .slice a L.length cap] 35)) := (Below.refl w.heap.size w).alloc (Nat.le_refl _) _
  have hs := hs.below hb rfl
  change Code.wp _ _ _ _ (w.alloc (.cells #[.int .i64 e, .slice a L.length cap] 35))
  generalize w.alloc (.cells #[.int .i64 e, .slice a L.length cap] 35) = W at *
  have hAlt := hA.lt
  have c0 : W.cell? ⟨w.heap.size, 0, none⟩ = some (.int .i64 e) := hA.cell rfl
  have c1 : W.cell? ⟨w.heap.size, 1, none⟩ = some (.slice a L.length cap) := hA.cell rfl
  have hcell := hs.2.2
  have hoks := hs.2.1
  clear hs hA
  by_cases t1 : e < 1
  · have HE := Lib.hid (right_false (e := e) (L := L) (by omega))
    (go_wp2_with fail; go_ret; exact ⟨by rw [HE.out]; rfl, hb⟩)
  · by_cases t2 : 1099511627776 < e
    · have HE := Lib.hid (right_false (e := e) (L := L) (by omega))
      (go_wp2_with fail; go_ret; exact ⟨by rw [HE.out]; rfl, hb⟩)
    · by_cases t3 : (L.length : Int) < 1
      · have HE := Lib.hid (right_false (e := e) (L := L) (by omega))
        (go_wp2_with fail; go_ret; exact ⟨by rw [HE.out]; rfl, hb⟩)
      · by_cases t4 : 8 < (L.length : Int)
        · have HE := Lib.hid (right_false (e := e) (L := L) (by omega))
          (go_wp2_with fail; go_ret; exact ⟨by rw [HE.out]; rfl, hb⟩)
        · obtain ⟨b, off, rfl, hab, hc⟩ := hcell (by omega)
          obtain ⟨s0, hs0⟩ : ∃ s, L[0]? = some s := ⟨_, List.getElem?_eq_getElem (by omega)⟩
          have hz0 := (hc 0 s0 hs0).2.2
          rw [show off + 0 * 3 = off by omega] at hz0
          cases t5 : s0.sync with
          | false =>
            have HE := Lib.hid (right_false (e := e) (L := L) (fun h => by rw [hs0] at h; simp [t5] at h))
            rw [t5] at hz0
            clear hcell hc hs0
            (go_wp2_with fail; go_ret; exact ⟨by rw [HE.out]; rfl, hb⟩)
          | true =>
            rw [t5] at hz0
            have HR := Lib.hid (show ∀ b, seatsOk L = b → rightC ⟨e, L⟩ = b from fun b hb => by
              cases b with
              | true => exact rightC_iff.2 ⟨by show 1 ≤ e; omega, by show e ≤ 1099511627776; omega, by show 1 ≤ L.length; omega, by show L.length ≤ 8; omega, by show L[0]?.map SeatV.sync = some true; rw [hs0]; simp [t5], hb⟩
              | false => exact right_false (fun h => by rw [hb] at h; simp at h))
            clear hcell hs0
            go_wp2_with fail
            clear c0 hz0
            go_loopw [3] (fun i wr => ∃ k : Nat, k ≤ L.length ∧ i = .int .i64 k ∧ seatsOk (L.take k) = true ∧ Below W.heap.size W wr) (fun i _ => L.length - (intOf i).toNat)
            case atStart => exact ⟨0, Nat.zero_le _, rfl, rfl, Below.refl _ _⟩
            case round =>
              obtain ⟨k, hk, rfl, hok, hbk⟩ := hrel
              have hb2 := below_step hb hbk
              have c2 := (hbk.cell (p := ⟨w.heap.size, 1, none⟩) hAlt).trans c1
              by_cases hlt : k < L.length
              · obtain ⟨s, hs⟩ : ∃ s, L[k]? = some s := ⟨_, List.getElem?_eq_getElem hlt⟩
                obtain ⟨s0, s1, s2⟩ := (hc k s hs).of (w' := wr) fun j => hbk.cell (p := ⟨b, j, none⟩) hab
                obtain ⟨x, y, z⟩ := s
                simp only at s0 s1 s2
                have HS := Lib.hid hs
                have HOK := Lib.hid hok
                clear hs hok
                by_cases hm : mayM x y = true
                · have HM := Lib.hid hm
                  clear hm
                  go_wp2_with fail
                  refine (qcmay_any x y _).mono ?_
                  rintro en w4 ⟨rfl, b4⟩
                  rw [HM.out]
                  have hbk4 := below_step hbk b4
                  clear s0 s1 s2 b4 hbk hb2 c2
                  go_wp2_with fail
                  go_loopw [4] (fun i wr => ∃ m : Nat, m ≤ k ∧ i = .int .i64 m ∧ Below W.heap.size W wr ∧ Aside (∀ j t, j < m → L[j]? = some t → (t.node == x) = false)) (fun i _ => k - (intOf i).toNat)
                  case atStart => exact ⟨0, Nat.zero_le _, rfl, hbk4, fun j t hj => absurd hj (Nat.not_lt_zero _)⟩
                  case round =>
                    obtain ⟨m, hmk, rfl, hbk, A⟩ := hrel
                    clear hbk4
                    have hb2 := below_step hb hbk
                    have c2 := (hbk.cell (p := ⟨w.heap.size, 1, none⟩) hAlt).trans c1
                    by_cases hltm : m < k
                    · obtain ⟨t, ht⟩ : ∃ t, L[m]? = some t := ⟨_, List.getElem?_eq_getElem (by omega)⟩
                      obtain ⟨s0, _, _⟩ := (hc k ⟨x, y, z⟩ HS.out).of (w' := wr) fun j => hbk.cell (p := ⟨b, j, none⟩) hab
                      obtain ⟨r0, _, _⟩ := (hc m t ht).of (w' := wr) fun j => hbk.cell (p := ⟨b, j, none⟩) hab
                      obtain ⟨x', y', z'⟩ := t
                      simp only at s0 r0
                      have HT := Lib.hid ht
                      have HC := Lib.hid hc
                      clear ht hc
                      have hltm2 : m < L.length := by omega
                      cases hp : (x' == x) with
                      | true =>
                        have HE := Lib.hid (HR.out false (seatsOk_stop HS.out (by rw [all_hit hltm HT.out hp, Bool.and_false])))
                        go_wp2_with fail
                        go_quiet (fail)
                        go_wp2_with fail
                        go_ret
                        exact ⟨by rw [HE.out]; rfl, below_drewN hb2 _⟩
                      | false =>
                        go_wp2_with fail
                        go_quiet (fail)
                        go_wp2_with fail
                        go_roundw
                        case rel => exact ⟨m + 1, by omega, by go_num, below_drewN hbk _, fun j t hj hjt => by
                          rcases Nat.lt_or_ge j m with h | h
                          · exact A.out j t h hjt
                          · obtain rfl : j = m := by omega
                            rw [HT.out] at hjt
                            obtain rfl := Option.some.inj hjt
                            exact hp⟩
                        case measure => simp [intOf]; omega
                    · have HN := Lib.hid (seatsOk_more HS.out HOK.out HM.out (all_of (by omega) (fun j t hj => A.out j t (by omega))))
                      go_wp2_with fail
                      go_roundw
                      case rel => exact ⟨k + 1, by omega, by go_num, HN.out, hbk⟩
                      case measure => simp [intOf]; omega
                · have hm : mayM x y = false := by simpa using hm
                  have HE := Lib.hid (HR.out false (seatsOk_stop HS.out (by rw [hm]; rfl)))
                  have HM := Lib.hid hm
                  clear hm
                  go_wp2_with fail
                  refine (qcmay_any x y _).mono ?_
                  rintro en w4 ⟨rfl, b4⟩
                  rw [HM.out]
                  have hb4 := below_step hb2 b4
                  clear s0 s1 s2
                  go_wp2_with fail
                  go_ret
                  exact ⟨by rw [HE.out]; rfl, hb4⟩
              · have HE := Lib.hid (HR.out true (by rw [List.take_of_length_le (by omega)] at hok; exact hok))
                go_wp2_with fail
                go_ret
                exact ⟨by rw [HE.out]; rfl, hb2⟩

end Go.Proofs.YtomfmejodmfioaaGreat
