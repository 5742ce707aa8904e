/- The contracts of may and of the generic functions over seats. Whether members, and seats, are the same. -/
import Derived.Test.YtomfmejodmfioaaGreatKCfg
import Derived.Shelf.Abstract
import Derived.Lib.LazyBuf
namespace Go.Proofs.YtomfmejodmfioaaGreat
open Go.RowKit Go.ChangeShapes Go.WideShapes Go.Joins
set_option linter.unusedVariables false


set_option maxRecDepth 100000 in
set_option maxHeartbeats 1000000 in
theorem cmay_any (n l : Int) (w : World) : Calls Tryz.prog 65 #[.agg #[.int .i64 n, .int .i64 l]] w fun e w' => e = .returned (.bool (mayM n l)) ∧ Below w.heap.size w w' := by
  have hbel := (Below.refl w.heap.size w).alloc (Nat.le_refl _) (.cells #[.int .i64 n, .int .i64 l] 42)
  go_enter Tryz.func65, Tryz.ntmps65
  by_cases h1 : 0 ≤ n
  · by_cases h2 : n ≤ 7
    · by_cases h3 : 1 ≤ l
      · by_cases h4 : l ≤ 1099511627776
        · have HM := Lib.hid (show mayM n l = true by simp [mayM, h1, h2, h3, h4])
          go_wp2_with fail
          go_ret
          exact ⟨by rw [HM.out]; rfl, hbel⟩
        · have HM := Lib.hid (show mayM n l = false by simp [mayM, h4])
          go_wp2_with fail
          go_ret
          exact ⟨by rw [HM.out]; rfl, hbel⟩
      · have HM := Lib.hid (show mayM n l = false by simp [mayM, h3])
        go_wp2_with fail
        go_ret
        exact ⟨by rw [HM.out]; rfl, hbel⟩
    · have HM := Lib.hid (show mayM n l = false by simp [mayM, h2])
      go_wp2_with fail
      go_ret
      exact ⟨by rw [HM.out]; rfl, hbel⟩
  · have HM := Lib.hid (show mayM n l = false by simp [mayM, h1])
    go_wp2_with fail
    go_ret
    exact ⟨by rw [HM.out]; rfl, hbel⟩

set_option maxRecDepth 100000 in
set_option maxHeartbeats 1000000 in
theorem qcmay_any (n l : Int) (w : World) : Calls Tryz.prog 33 #[.agg #[.int .i64 n, .int .i64 l]] w fun e w' => e = .returned (.bool (mayM n l)) ∧ Below w.heap.size w w' := by
  have hbel := (Below.refl w.heap.size w).alloc (Nat.le_refl _) (.cells #[.int .i64 n, .int .i64 l] 42)
  go_enter Tryz.func33, Tryz.ntmps33
  by_cases h1 : 0 ≤ n
  · by_cases h2 : n ≤ 7
    · by_cases h3 : 1 ≤ l
      · by_cases h4 : l ≤ 1099511627776
        · have HM := Lib.hid (show mayM n l = true by simp [mayM, h1, h2, h3, h4])
          go_wp2_with fail
          go_ret
          exact ⟨by rw [HM.out]; rfl, hbel⟩
        · have HM := Lib.hid (show mayM n l = false by simp [mayM, h4])
          go_wp2_with fail
          go_ret
          exact ⟨by rw [HM.out]; rfl, hbel⟩
      · have HM := Lib.hid (show mayM n l = false by simp [mayM, h3])
        go_wp2_with fail
        go_ret
        exact ⟨by rw [HM.out]; rfl, hbel⟩
    · have HM := Lib.hid (show mayM n l = false by simp [mayM, h2])
      go_wp2_with fail
      go_ret
      exact ⟨by rw [HM.out]; rfl, hbel⟩
  · have HM := Lib.hid (show mayM n l = false by simp [mayM, h1])
    go_wp2_with fail
    go_ret
    exact ⟨by rw [HM.out]; rfl, hbel⟩

/-- What is asked of a predicate. -/
def PredB (g : Nat) (lb : Array Value) (p : SeatV → Bool) (w : World) : Prop :=
  ∀ (W : World) (n l : Int) (b : Bool), W64 n → W64 l → Below w.heap.size w W → Calls Tryz.prog g (#[.agg #[.int .i64 n, .int .i64 l, .bool b]] ++ lb) W fun e w' => e = .returned (.bool (p ⟨n, l, b⟩)) ∧ Below w.heap.size w w'

set_option maxRecDepth 100000 in
set_option maxHeartbeats 2000000 in
theorem indfunc_any (p : SeatV → Bool) (g : Nat) (lb : Array Value) (eg : ∀ args w, (callFunc g args).run Tryz.prog w = .ok (.enter g args) w) {w : World} {v : Value} {L : List SeatV} (hv : ChainAt w v L) (hp : PredB g lb p w) :
    Calls Tryz.prog 66 #[v, .func (.func g) #[] lb] w fun e w' => e = .returned (.int .i64 (placeBy p L)) ∧ Below w.heap.size w w' := by
  obtain ⟨a, cap, rfl, hlen, hok, hcell⟩ := hv
  unfold maxLen at hlen
  go_enter Tryz.func66, Tryz.ntmps66
  go_wp2_with fail
  go_loopw [5, 8] (fun _ i wr => ∃ k : Nat, k ≤ L.length ∧ i = .int .i64 k ∧ Below w.heap.size w wr ∧ Aside (∀ j t, j < k → L[j]? = some t → p t = false)) (fun _ i _ => L.length - (intOf i).toNat)
  case atStart => exact ⟨0, Nat.zero_le _, rfl, Below.refl _ _, fun j t hj => absurd hj (Nat.not_lt_zero _)⟩
  case round =>
    obtain ⟨k, hk, rfl, hb, A⟩ := hrel
    by_cases hlt : k < L.length
    · obtain ⟨b, off, rfl, hab, hc⟩ := hcell (by omega)
      obtain ⟨s, hs⟩ : ∃ s, L[k]? = some s := ⟨_, List.getElem?_eq_getElem hlt⟩
      have hsk := hok s (List.mem_of_getElem? hs)
      obtain ⟨c0, c1, c2⟩ := (hc k s hs).of (w' := wr) fun j => hb.cell (p := ⟨b, j, none⟩) hab
      obtain ⟨n, l, y⟩ := s
      have hcall := hp wr n l y hsk.1 hsk.2 hb
      have HS := Lib.hid hs
      clear hs hp hcell hc
      cases hq : p ⟨n, l, y⟩ with
      | true =>
        rw [hq] at hcall
        have HE := Lib.hid (placeBy_hit HS.out hq A.out)
        go_wp2_with (go_at_fn g; refine hcall.mono ?_; rintro e w' ⟨rfl, hb'⟩)
        go_ret
        exact ⟨by rw [HE.out]; rfl, hb'⟩
      | false =>
        rw [hq] at hcall
        go_wp2_with (go_at_fn g; refine hcall.mono ?_; rintro e w' ⟨rfl, hb'⟩)
        go_roundw
        case rel => exact ⟨k + 1, by omega, by go_num, hb', fun j t hj ht => by
          rcases Nat.lt_or_ge j k with h | h
          · exact A.out j t h ht
          · obtain rfl : j = k := by omega
            rw [HS.out] at ht
            obtain rfl := Option.some.inj ht
            exact hq⟩
        case measure => simp [intOf]; omega
    · have HE := Lib.hid (placeBy_miss (p := p) (L := L) (fun j t hj => A.out j t (by omega)))
      go_wp2_with fail
      go_ret
      exact ⟨by rw [HE.out]; rfl, hb⟩
end Go.Proofs.YtomfmejodmfioaaGreat
namespace Go.Proofs.YtomfmejodmfioaaGreat
open Go.RowKit Go.ChangeShapes Go.WideShapes Go.Joins
set_option linter.unusedVariables false

set_option maxRecDepth 100000 in
set_option maxHeartbeats 1000000 in
theorem mem_eql (a b c d : Int) (w : World) : (Go.binOp .eql 42 (.agg #[.int .i64 a, .int .i64 b]) (.agg #[.int .i64 c, .int .i64 d])).run Tryz.prog w = .ok (.bool (a == c && b == d)) w := by
  by_cases e1 : a = c
  · subst e1
    by_cases e2 : b = d
    · subst e2
      rw [show (a == a && b == b) = true by simp]
      go_simp
    · have h : (b == d) = false := by simpa using e2
      rw [show (a == a && b == d) = false by simp [h]]
      go_simp
  · have h : (a == c) = false := by simpa using e1
    rw [show (a == c && b == d) = false by simp [h]]
    go_simp
set_option maxRecDepth 100000 in
set_option maxHeartbeats 1000000 in
theorem mem_neq (a b c d : Int) (w : World) : (Go.binOp .neq 42 (.agg #[.int .i64 a, .int .i64 b]) (.agg #[.int .i64 c, .int .i64 d])).run Tryz.prog w = .ok (.bool (!(a == c && b == d))) w := by
  by_cases e1 : a = c
  · subst e1
    by_cases e2 : b = d
    · subst e2
      rw [show (a == a && b == b) = true by simp]
      go_simp
    · have h : (b == d) = false := by simpa using e2
      rw [show (a == a && b == d) = false by simp [h]]
      go_simp
  · have h : (a == c) = false := by simpa using e1
    rw [show (a == c && b == d) = false by simp [h]]
    go_simp
set_option maxRecDepth 100000 in
set_option maxHeartbeats 1000000 in
theorem seat_eql (a b c d : Int) (x y : Bool) (w : World) : (Go.binOp .eql 49 (.agg #[.int .i64 a, .int .i64 b, .bool x]) (.agg #[.int .i64 c, .int .i64 d, .bool y])).run Tryz.prog w = .ok (.bool (decide ((⟨a, b, x⟩ : SeatV) = ⟨c, d, y⟩))) w := by
  by_cases e1 : a = c
  · subst e1
    by_cases e2 : b = d
    · subst e2
      by_cases e3 : x = y
      · subst e3
        rw [decide_eq_true rfl]
        go_simp
      · rw [decide_eq_false (by simp [e3])]
        have h : (x == y) = false := by simpa using e3
        go_simp
    · have h : (b == d) = false := by simpa using e2
      rw [decide_eq_false (by simp [e2])]
      go_simp
  · have h : (a == c) = false := by simpa using e1
    rw [decide_eq_false (by simp [e1])]
    go_simp
set_option maxRecDepth 100000 in
set_option maxHeartbeats 1000000 in
theorem seat_neq (a b c d : Int) (x y : Bool) (w : World) : (Go.binOp .neq 49 (.agg #[.int .i64 a, .int .i64 b, .bool x]) (.agg #[.int .i64 c, .int .i64 d, .bool y])).run Tryz.prog w = .ok (.bool (!(decide ((⟨a, b, x⟩ : SeatV) = ⟨c, d, y⟩)))) w := by
  by_cases e1 : a = c
  · subst e1
    by_cases e2 : b = d
    · subst e2
      by_cases e3 : x = y
      · subst e3
        rw [decide_eq_true rfl]
        go_simp
      · rw [decide_eq_false (by simp [e3])]
        have h : (x == y) = false := by simpa using e3
        go_simp
    · have h : (b == d) = false := by simpa using e2
      rw [decide_eq_false (by simp [e2])]
      go_simp
  · have h : (a == c) = false := by simpa using e1
    rw [decide_eq_false (by simp [e1])]
    go_simp
end Go.Proofs.YtomfmejodmfioaaGreat
