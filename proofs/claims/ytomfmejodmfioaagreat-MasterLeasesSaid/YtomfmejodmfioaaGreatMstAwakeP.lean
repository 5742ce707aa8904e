/- The law's wakening, in plain Lean: what nine rounds come to. -/
import Derived.Test.YtomfmejodmfioaaGreatMstInv
namespace Go.Proofs.YtomfmejodmfioaaGreat
set_option linter.unusedVariables false

def turnV (V : MstV) (now : Int) : MstV := if (wantsM V now).2 = true then { noteM V now with cf := (wantsM V now).1, sat := seatF V.sat (wantsM V now).1.chain } else noteM V now
theorem turn_small {s : SetV} {V : MstV} {l : List UInt8} {cs : List ConfV} (h : Inv s V l cs) (hl : l.length ≤ 65000) (now : Int) : (turnM V l now).1 = turnV V now ∧ (turnM V l now).2.length ≤ l.length + 210 := by
  unfold turnV
  rcases turn_cases h now with ⟨h1, h2⟩ | ⟨c, h1, h2, h3⟩ | ⟨c, h1, h2, h3⟩
  · rw [h2, h1]
    exact ⟨rfl, by simp only; omega⟩
  · rw [h2, h1]
    have := (conf_small (wants_right h1)).2
    exact ⟨rfl, by simp only [List.length_append]; omega⟩
  · omega
def bt15 (now : Int) : BeatV := ⟨now, 1, true, now + 2⟩
def take15 (V : MstV) (n now : Int) : MstV := if heardB V n 1 = true then turnV (hearM V n 1 (bt15 now)) now else V
def round15 (V : MstV) (now : Int) : MstV := annM (turnV (take15 (take15 V 0 now) 2 now) now) now
def at15 : Nat → MstV
  | 0 => beginM set3 (firstC 3).1 0
  | n + 1 => round15 (at15 n) ((n : Int) + 1)
theorem at15_low : ∀ k : Fin 7, (at15 k).cf = ⟨1, firstSeats 3⟩ := by decide +kernel
theorem at15_nine : (at15 9).cf = ⟨2, [⟨0, 1, true⟩, ⟨2, 1, true⟩]⟩ := by decide +kernel
end Go.Proofs.YtomfmejodmfioaaGreat
