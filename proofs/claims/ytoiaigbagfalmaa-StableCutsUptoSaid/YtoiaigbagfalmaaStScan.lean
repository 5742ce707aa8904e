/- Scan: the records of bytes. -/
import Derived.Test.YtoiaigbagfalmaaStOne
namespace Go.Proofs.Ytoiaigbagfalmaa
open Go.RowKit Go.ChangeShapes Go.WideShapes Go.Joins Go.Deep
set_option linter.unusedVariables false

theorem own_form' {w : World} {base : Nat} {e : TypeId} {size : Nat} {v : Value} {n : Nat} {xs : List Value} (h : w.ownsRow base e size v n xs) : ∃ A cap, v = .slice A n cap := by
  rcases h.2 with ⟨rfl, rfl⟩ | ⟨g, cap, cur, rfl, _⟩
  · exact ⟨none, 0, rfl⟩
  · exact ⟨_, cap, rfl⟩
theorem scan_go {s : List UInt8} {g : Nat} {L : List (List UInt8)} (h : scanS s = (L ++ (scanS (s.drop g)).1, g + (scanS (s.drop g)).2)) (ho : (oneS (s.drop g)).2.2 = true) :
    scanS s = ((L ++ [(oneS (s.drop g)).1]) ++ (scanS (s.drop (g + (oneS (s.drop g)).2.1))).1, (g + (oneS (s.drop g)).2.1) + (scanS (s.drop (g + (oneS (s.drop g)).2.1))).2) := by
  rw [h, scanS_ok ho, List.drop_drop]
  simp only [List.append_assoc, List.singleton_append, Nat.add_assoc]
theorem scan_end {s : List UInt8} {g : Nat} {L : List (List UInt8)} (h : scanS s = (L ++ (scanS (s.drop g)).1, g + (scanS (s.drop g)).2)) (ho : (oneS (s.drop g)).2.2 = false) : scanS s = (L, g) := by
  rw [h, scanS_no ho]
  simp

set_option maxRecDepth 100000 in
set_option maxHeartbeats 4000000 in
theorem scan_any (s : List UInt8) (hl : s.length ≤ 1000000) (w : World) :
    Calls Try.prog 9 #[.string ⟨s.toArray⟩] w fun e w' => ∃ a cap, e = .returned (.tuple #[.slice a (scanS s).1.length cap, .int .i64 ((scanS s).2 : Nat)]) ∧ StrsO w.heap.size w' (.slice a (scanS s).1.length cap) (scanS s).1 ∧ Below w.heap.size w w' := by
  obtain ⟨i0, hi0, hz0, hz1, hz2⟩ := strs_info
  go_enter Try.func9, Try.ntmps9
  go_wp2_with fail
  go_loopw [2, 3] (fun v i wr => ∃ (L : List (List UInt8)) (g : Nat), g ≤ s.length ∧ L.length ≤ g ∧ i = .int .i64 g ∧ wr.ownsRow w.heap.size 9 1 v L.length (strsCells L) ∧ Below w.heap.size w wr ∧ Aside (scanS s = (L ++ (scanS (s.drop g)).1, g + (scanS (s.drop g)).2))) (fun _ i _ => s.length - (intOf i).toNat)
  case atStart => exact ⟨[], 0, Nat.zero_le _, Nat.zero_le _, rfl, World.ownsRow_nil _ _ _ _, Below.refl _ _, by show scanS s = _; simp⟩
  case round =>
    obtain ⟨L, g, hg, hLg, rfl, hown, hb, HS⟩ := hrel
    obtain ⟨av, cv, rfl⟩ := own_form' hown
    have hx := extract_drop s hg
    have hdl : (s.drop g).length ≤ 1000000 := by rw [List.length_drop]; omega
    have g0 : (0 : Int) ≤ (g : Int) := by omega
    have g1 : (g : Int) ≤ (s.length : Int) := by omega
    have hsz := hb.size
    go_wp2_with fail
    refine (one_any (s.drop g) hdl _).mono ?_
    rintro e w1 ⟨rfl, b1⟩
    have hown := own_below' hown b1
    have hb := below_step hb b1
    have hsz := hb.size
    clear b1 hx
    cases ho : (oneS (s.drop g)).2.2 with
    | false =>
      have HE := Lib.hid (scan_end HS.out ho)
      have hv : StrsO w.heap.size _ (.slice av L.length cv) L := hown
      go_wp2_with fail
      go_ret2
      refine ⟨av, cv, ?_, ?_, hb⟩
      · rw [HE.out]; rfl
      · rw [HE.out]; exact hv
    | true =>
      have HE := Lib.hid (scan_go HS.out ho)
      have hlong := one_long ho
      rw [List.length_drop] at hlong
      generalize (oneS (s.drop g)).1 = t at *
      generalize (oneS (s.drop g)).2.1 = n at *
      have hl1 : (L.length : Int) ≤ 1000000 := by omega
      have hn1 : wrap64 ((g : Int) + (n : Int)) = ((g + n : Nat) : Int) := (IntWalk.wrap64_in _ ⟨by omega, by omega⟩).trans (by omega)
      go_wp2_with (at_builtin; refine wpList_append_lies _ rfl (.tmp 19) (.tmp 21) 23 rfl w.heap.size 9 i0 _ 1 16 Try.underlying23 hi0 hz0 hz1 hz2 rfl (by omega) _ _ _ rfl (hown.alloc _) ⟨w1.heap.size, 0, none⟩ 1 1 [.string ⟨t.toArray⟩] rfl rfl ?c1 ?c2 (by omega) ?c3 ?c4 ?c5 (w1.heap.size + 1) (by simp) ?_)
      case c1 => first | exact World.news_of_block (heap_alloc_new _ _) | exact fun _ _ h => h
      case c2 => intro u hu; simp at hu; rcases hu with rfl; rfl
      case c3 => unfold maxLen; omega
      case c4 => omega
      case c5 => first | omega | (simp; omega)
      intro g' cap' w' hown' hg' hat' hlt'
      have hb2 : Below w.heap.size w w' := (hb.alloc hb.size _).grown hg' (by simp; omega) (fun j hj => by have := (hown.lt j hj).1; omega)
      clear hg' hat' hown hb
      have HO := Lib.hid hown'
      have HB := Lib.hid hb2
      have HN := Lib.hid hn1
      have HG := Lib.hid hlong
      clear hown' hb2 hlt' hn1 hlong hdl hl1 hsz
      go_wp2_with fail
      go_roundw
      have hlong := HG.out
      case rel => exact ⟨L ++ [t], g + n, by omega, by simp; omega, by rw [HN.out], by rw [strsCells_snoc, List.length_append]; exact HO.out, HB.out, HE.out⟩
      case measure => have hlong := HG.out; rw [HN.out]; simp [intOf]; omega
end Go.Proofs.Ytoiaigbagfalmaa
