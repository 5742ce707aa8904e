/- A record's bytes, and the first record of bytes: the program's and the document's. -/
import Derived.Test.YtoiaigbagfalmaaStRow
import Derived.Test.YtoiaigbagfalmaaStPlain
import Derived.Test.YtoiaigbagfalmaaGrown
import Derived.Test.YtoiaigbagfalmaaCodecUint
import Derived.Test.YtoiaigbagfalmaaCodecRefEnd
namespace Go.Proofs.Ytoiaigbagfalmaa
open Go.RowKit Go.ChangeShapes Go.WideShapes Go.Joins Go.Deep
set_option linter.unusedVariables false

theorem encS_small {t : List UInt8} (h : t.length ≤ 900000) : (encS t).length ≤ 1000000 := by
  have := encS_len t
  omega
set_option maxRecDepth 100000 in
set_option maxHeartbeats 1000000 in
theorem bytes_any (t : List UInt8) (h : t.length ≤ 900000) (w : World) :
    Calls Try.prog 11 #[.string ⟨t.toArray⟩] w fun e w' => e = .returned (.string ⟨(bytesS t).toArray⟩) ∧ Below w.heap.size w w' := by
  go_enter Try.func11, Try.ntmps11
  go_wp2_with fail
  refine (cstr_any t (by omega) _).mono ?_
  rintro e w1 ⟨rfl, b1⟩
  go_wp2_with fail
  refine (frame_any (encS t) (encS_small h) _).mono ?_
  rintro e w2 ⟨rfl, b2⟩
  go_wp2_with fail
  go_ret
  exact ⟨rfl, below_step b1 b2⟩
set_option maxRecDepth 100000 in
set_option maxHeartbeats 1000000 in
theorem qbytes_any (t : List UInt8) (h : t.length ≤ 900000) (w : World) :
    Calls Try.prog 25 #[.string ⟨t.toArray⟩] w fun e w' => e = .returned (.string ⟨(bytesS t).toArray⟩) ∧ Below w.heap.size w w' := by
  go_enter Try.func25, Try.ntmps25
  go_wp2_with fail
  refine (qstr_any t (by omega) _).mono ?_
  rintro e w1 ⟨rfl, b1⟩
  go_wp2_with fail
  refine (qframe_any (encS t) (encS_small h) _).mono ?_
  rintro e w2 ⟨rfl, b2⟩
  go_wp2_with fail
  go_ret
  exact ⟨rfl, below_step b1 b2⟩

set_option maxRecDepth 100000 in
set_option maxHeartbeats 2000000 in
theorem one_any (l : List UInt8) (hl : l.length ≤ 1000000) (w : World) :
    Calls Try.prog 23 #[.string ⟨l.toArray⟩] w fun e w' => e = .returned (.tuple #[.string ⟨(oneS l).1.toArray⟩, .int .i64 ((oneS l).2.1 : Nat), .bool (oneS l).2.2]) ∧ Below w.heap.size w w' := by
  obtain ⟨t, rest, er, hr⟩ : ∃ t rest er, rdS l 0 l.length = (t, rest, er) := ⟨_, _, _, rfl⟩
  have hlen := (rdS_len l 0 l.length).1
  rw [hr] at hlen
  simp only at hlen
  have HO := Lib.hid (show oneS l = if er = 0 ∧ l.length - rest.length + 4 ≤ l.length then (t, l.length - rest.length + 4, whole (l.take (l.length - rest.length + 4))) else ([], 0, false) by rw [oneS, hr])
  have HR := Lib.hid hr
  clear hr
  go_enter Try.func23, Try.ntmps23
  go_wp2_with fail
  refine (read_any l _).mono ?_
  rintro e w1 ⟨b, rfl, hR, hwb, b1⟩
  go_wp2_with fail
  refine (rstr_any (by exact hR) hl (W64.mk (by omega) (by omega))).mono ?_
  rintro e w2 ⟨rfl, hR, hg⟩
  rw [HR.out] at hR ⊢
  have hb := grown_below b1 hg hwb
  clear hg b1
  simp only at hR ⊢
  go_wp2_with fail
  refine (left_any (by exact hR)).mono ?_
  rintro e w3 ⟨rfl, rfl⟩
  by_cases h0 : er = 0
  · subst h0
    have hlo : leftOf rest 0 = (rest.length : Nat) := rfl
    rw [hlo]
    by_cases hg : l.length - rest.length + 4 ≤ l.length
    · have HE := Lib.hid (HO.out.trans (if_pos ⟨rfl, hg⟩))
      have hnat : (l.length : Int) - (rest.length : Int) + 4 = ((l.length - rest.length + 4 : Nat) : Int) := by omega
      have hng : ¬ (l.length : Int) < ((l.length - rest.length + 4 : Nat) : Int) := by omega
      have hT := Lib.hid (take_eq l (l.length - rest.length + 4))
      have ht : (l.take (l.length - rest.length + 4)).length ≤ 1000000 := by rw [List.length_take]; omega
      have hw1 : wrap64 ((l.length : Int) - (rest.length : Int)) = (l.length : Int) - (rest.length : Int) := IntWalk.wrap64_in _ ⟨by omega, by omega⟩
      have hw2 : wrap64 ((l.length : Int) - (rest.length : Int) + 4) = ((l.length - rest.length + 4 : Nat) : Int) := (IntWalk.wrap64_in _ ⟨by omega, by omega⟩).trans hnat
      generalize hn : l.length - rest.length + 4 = n at *
      go_wp2_with fail
      refine (err_any (by exact hR)).mono ?_
      rintro e w4 ⟨rfl, rfl⟩
      go_wp2_with fail
      rw [hT.out]
      refine (whole_any _ ht _).mono ?_
      rintro e w5 ⟨rfl, b5⟩
      have hb := below_step hb b5
      go_wp2_with fail
      go_ret3
      exact ⟨by rw [HE.out]; rfl, hb⟩
    · have HE := Lib.hid (HO.out.trans (if_neg (fun h => hg h.2)))
      have hgt : (l.length : Int) < (l.length : Int) - (rest.length : Int) + 4 := by omega
      have hw1 : wrap64 ((l.length : Int) - (rest.length : Int)) = (l.length : Int) - (rest.length : Int) := IntWalk.wrap64_in _ ⟨by omega, by omega⟩
      have hw2 : wrap64 ((l.length : Int) - (rest.length : Int) + 4) = (l.length : Int) - (rest.length : Int) + 4 := IntWalk.wrap64_in _ ⟨by omega, by omega⟩
      go_wp2_with fail
      refine (err_any (by exact hR)).mono ?_
      rintro e w4 ⟨rfl, rfl⟩
      go_wp2_with fail
      go_ret3
      exact ⟨by rw [HE.out]; rfl, hb⟩
  · have HE := Lib.hid (HO.out.trans (if_neg (fun h => h0 h.1)))
    have hlo : leftOf rest er = 0 := by rw [leftOf, if_neg h0]
    rw [hlo]
    have h0' : (er != 0) = true := by simpa using h0
    go_wp2_with fail
    refine (err_any (by exact hR)).mono ?_
    rintro e w4 ⟨rfl, rfl⟩
    go_wp2_with fail
    go_ret3
    exact ⟨by rw [HE.out]; rfl, hb⟩
end Go.Proofs.Ytoiaigbagfalmaa
