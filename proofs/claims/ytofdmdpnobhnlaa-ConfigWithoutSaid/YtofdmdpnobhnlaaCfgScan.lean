/- The document's Place and Beside; later; the generic functions that look for a member, or a seat. -/
import Derived.Test.YtofdmdpnobhnlaaCfgEnds
namespace Go.Proofs.Ytofdmdpnobhnlaa
open Go.RowKit Go.ChangeShapes Go.WideShapes Go.Joins
set_option linter.unusedVariables false

set_option maxRecDepth 100000 in
set_option maxHeartbeats 2000000 in
theorem qcplace_any {w : World} {v : Value} {L : List SeatV} (hv : ChainAt w v L) (e n l : Int) :
    Calls Try.prog 32 #[.agg #[.int .i64 e, v], .agg #[.int .i64 n, .int .i64 l]] w fun en w' => en = .returned (.int .i64 (placeC L n l)) ∧ Below w.heap.size w w' := by
  obtain ⟨a, cap, rfl, hs⟩ := hv
  have hlen := hs.1
  unfold maxLen at hlen
  go_enter Try.func32, Try.ntmps32
  go_upto_region 1 with (fail)
  have hA : BlkAt ((w.alloc (.cells #[.int .i64 e, .slice a L.length cap] 24)).alloc (.cells #[.int .i64 n, .int .i64 l] 27)) w.heap.size 24 [.int .i64 e, .slice a L.length cap] := (BlkAt.new w 24 [.int .i64 e, .slice a L.length cap]).alloc _
  have hM : BlkAt ((w.alloc (.cells #[.int .i64 e, .slice a L.length cap] 24)).alloc (.cells #[.int .i64 n, .int .i64 l] 27)) (w.heap.size + 1) 27 [.int .i64 n, .int .i64 l] := BlkAt.newAt (by simp) 27 [.int .i64 n, .int .i64 l]
  have hb : Below w.heap.size w ((w.alloc (.cells #[.int .i64 e, .slice a L.length cap] 24)).alloc (.cells #[.int .i64 n, .int .i64 l] 27)) := ((Below.refl w.heap.size w).alloc (Nat.le_refl _) _).alloc (by simp) _
  have hs2 := hs.below hb rfl
  change Code.wp _ _ _ _ ((w.alloc (.cells #[.int .i64 e, .slice a L.length cap] 24)).alloc (.cells #[.int .i64 n, .int .i64 l] 27))
  generalize (w.alloc (.cells #[.int .i64 e, .slice a L.length cap] 24)).alloc (.cells #[.int .i64 n, .int .i64 l] 27) = W at *
  generalize w.heap.size + 1 = M at *
  have hAlt := hA.lt
  have hMlt := hM.lt
  have c1 : W.cell? ⟨w.heap.size, 1, none⟩ = some (.slice a L.length cap) := hA.cell rfl
  have m0 : W.cell? ⟨M, 0, none⟩ = some (.int .i64 n) := hM.cell rfl
  have m1 : W.cell? ⟨M, 1, none⟩ = some (.int .i64 l) := hM.cell rfl
  have hq := fun x y => mem_eql x y n l
  clear hs hA hM
  go_wp2_with fail
  go_loopw [5] (fun i wr => ∃ k : Nat, k ≤ L.length ∧ i = .int .i64 k ∧ Below W.heap.size W wr ∧ Aside (∀ j t, j < k → L[j]? = some t → (t.node == n && t.life == l) = false)) (fun i _ => L.length - (intOf i).toNat)
  case atStart => exact ⟨0, Nat.zero_le _, rfl, Below.refl _ _, fun j t hj => absurd hj (Nat.not_lt_zero _)⟩
  case round =>
    obtain ⟨k, hk, rfl, hbk, A⟩ := hrel
    have hb2 := below_step hb hbk
    have c1 := (hbk.cell (p := ⟨w.heap.size, 1, none⟩) hAlt).trans c1
    have m0 := (hbk.cell (p := ⟨M, 0, none⟩) hMlt).trans m0
    have m1 := (hbk.cell (p := ⟨M, 1, none⟩) hMlt).trans m1
    by_cases hlt : k < L.length
    · obtain ⟨b, off, rfl, hab, hc⟩ := hs2.2.2 (by omega)
      obtain ⟨s, hs⟩ : ∃ s, L[k]? = some s := ⟨_, List.getElem?_eq_getElem hlt⟩
      obtain ⟨s0, s1, s2⟩ := (hc k s hs).of (w' := wr) fun j => hbk.cell (p := ⟨b, j, none⟩) hab
      obtain ⟨x, y, z⟩ := s
      have HS := Lib.hid hs
      have hq := hq x y
      have HS2 := Lib.hid hs2
      clear hs hs2 hc
      simp only at s0 s1 s2
      cases hp : (x == n && y == l) with
      | true =>
        have HE := Lib.hid (placeBy_hit (p := fun s => s.node == n && s.life == l) HS.out hp A.out)
        rw [hp] at hq
        go_wp2_with fail
        go_quiet (fail)
        go_wp2_with fail
        go_ret
        exact ⟨by rw [placeC, HE.out]; rfl, below_drewN hb2 _⟩
      | false =>
        rw [hp] at hq
        go_wp2_with fail
        go_quiet (fail)
        go_wp2_with fail
        go_roundw
        case rel => exact ⟨k + 1, by omega, by go_num, below_drewN hbk _, fun j t hj ht => by
          rcases Nat.lt_or_ge j k with h | h
          · exact A.out j t h ht
          · obtain rfl : j = k := by omega
            rw [HS.out] at ht
            obtain rfl := Option.some.inj ht
            exact hp⟩
        case measure => simp [intOf]; omega
    · have HE := Lib.hid (placeBy_miss (p := fun s => s.node == n && s.life == l) (L := L) (fun j t hj => A.out j t (by omega)))
      go_wp2_with fail
      go_ret
      exact ⟨by rw [placeC, HE.out]; rfl, hb2⟩

end Go.Proofs.Ytofdmdpnobhnlaa
