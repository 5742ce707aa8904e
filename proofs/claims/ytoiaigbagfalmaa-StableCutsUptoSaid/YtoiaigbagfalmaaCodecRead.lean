/- The contracts of the reading half of package codec. -/
import Derived.Test.YtoiaigbagfalmaaCodecInt
import Derived.Laws.LoneSync
namespace Go.Proofs.Ytoiaigbagfalmaa
open Go.RowKit Go.ChangeShapes Go.WideShapes Go.Joins
set_option linter.unusedVariables false

theorem load_law {a : Addr} {x : Int} {w : World} (hc : w.cell? a = some (.int .i64 x)) : (callFunc 49 #[.pointer (some a)]).run Try.prog w = .ok (.value (.int .i64 x)) w :=
  run_call_load Try.func49 (by kernel_rfl) (by kernel_rfl) (by kernel_rfl) .i64 (by kernel_rfl) hc
theorem cas_hit {a : Addr} {x y : Int} {w : World} (hc : w.cell? a = some (.int .i64 x)) (hz : w.frozen? a = false) :
    (callFunc 53 #[.pointer (some a), .int .i64 x, .int .i64 y]).run Try.prog w = .ok (.value (.bool true)) (w.setCell a (.int .i64 y)) :=
  run_call_cas_hit Try.func53 (by kernel_rfl) (by kernel_rfl) (by kernel_rfl) .i64 (by kernel_rfl) hc hz
theorem cas_miss {a : Addr} {x o y : Int} {w : World} (hc : w.cell? a = some (.int .i64 x)) (hz : w.frozen? a = false) (hne : ¬ x = o) :
    (callFunc 53 #[.pointer (some a), .int .i64 o, .int .i64 y]).run Try.prog w = .ok (.value (.bool false)) w :=
  run_call_cas_miss Try.func53 (by kernel_rfl) (by kernel_rfl) (by kernel_rfl) .i64 (by kernel_rfl) hc hz hne

/-- Block b is a reader with the bytes l ahead of it, and the error e. -/
def RdAt (w : World) (b : Nat) (l : List UInt8) (e : Int) : Prop := w.heap[b]? = some (.cells #[.string ⟨l.toArray⟩, .int .i64 e] 78 (0, 0))

section
variable {w w' : World} {b : Nat} {l : List UInt8} {e : Int}
theorem RdAt.lt (h : RdAt w b l e) : b < w.heap.size := (Array.getElem?_eq_some_iff.1 h).1
theorem RdAt.cell0 (h : RdAt w b l e) : w.cell? ⟨b, 0, none⟩ = some (.string ⟨l.toArray⟩) := cell_of_row _ _ 0 _ _ _ h
theorem RdAt.cell1 (h : RdAt w b l e) : w.cell? ⟨b, 1, none⟩ = some (.int .i64 e) := cell_of_row _ _ 1 _ _ _ h
theorem RdAt.free (h : RdAt w b l e) (i : Nat) : w.frozen? ⟨b, i, none⟩ = false := by unfold RdAt at h; simp [World.frozen?, h]
theorem RdAt.below (h : RdAt w b l e) (hb : Below w.heap.size w w') : RdAt w' b l e := (hb.block b h.lt).trans h
theorem RdAt.set0 (h : RdAt w b l e) (l' : List UInt8) : RdAt (w.setCell ⟨b, 0, none⟩ (.string ⟨l'.toArray⟩)) b l' e := by
  unfold RdAt at h ⊢
  simp [World.setCell, Array.getElem?_modify, h]
theorem RdAt.set1 (h : RdAt w b l e) (e' : Int) : RdAt (w.setCell ⟨b, 1, none⟩ (.int .i64 e')) b l e' := by
  unfold RdAt at h ⊢
  simp [World.setCell, Array.getElem?_modify, h]
end

theorem RdAt.drew {w : World} {b : Nat} {l : List UInt8} {e : Int} (h : RdAt w b l e) : RdAt w.drew b l e := h
theorem RdAt.drewN {w : World} {b : Nat} {l : List UInt8} {e : Int} (h : RdAt w b l e) (n : Nat) : RdAt (w.drewN n) b l e := h
theorem RdAt.grown {w w' : World} {b c : Nat} {l : List UInt8} {e : Int} (h : RdAt w b l e) (hg : w.grownBy w' (some c)) (hne : b ≠ c) : RdAt w' b l e := (hg.block _ h.lt (by simpa using hne)).trans h

set_option maxHeartbeats 400000 in
theorem read_any (l : List UInt8) (w : World) : Calls Try.prog 29 #[.string ⟨l.toArray⟩] w fun e w' => ∃ b, e = .returned (.pointer (some ⟨b, 0, none⟩)) ∧ RdAt w' b l 0 ∧ w.heap.size ≤ b ∧ Below w.heap.size w w' := by
  go_enter Try.func29, Try.ntmps29
  go_wp2
  go_ret
  exact ⟨w.heap.size, rfl, heap_alloc_new _ _, Nat.le_refl _, (Below.refl _ _).alloc (Nat.le_refl _) _⟩

set_option maxHeartbeats 400000 in
theorem err_any {w : World} {b : Nat} {l : List UInt8} {e : Int} (h : RdAt w b l e) : Calls Try.prog 32 #[.pointer (some ⟨b, 0, none⟩)] w fun en w' => en = .returned (.int .i64 e) ∧ w = w' := by
  have hl := load_law h.cell1
  have hc := h.cell1
  clear h
  go_enter Try.func32, Try.ntmps32
  go_wp2
  go_ret
  exact ⟨rfl, rfl⟩

set_option maxHeartbeats 400000 in
theorem err_nil (w : World) : Calls Try.prog 32 #[.pointer none] w fun en w' => en = .returned (.int .i64 12) ∧ w = w' := by
  go_enter Try.func32, Try.ntmps32
  go_wp2
  go_ret
  exact ⟨rfl, rfl⟩

/-- The first error stands. -/
def fst_ (e x : Int) : Int := if e = 0 then x else e

set_option maxHeartbeats 400000 in
theorem fail_any {w : World} {b : Nat} {l : List UInt8} {e x : Int} (h : RdAt w b l e) : Calls Try.prog 42 #[.pointer (some ⟨b, 0, none⟩), .int .i64 x] w fun en w' => en = .returned (.tuple #[]) ∧ RdAt w' b l (fst_ e x) ∧ w.grownBy w' (some b) := by
  have hc := h.cell1
  by_cases h0 : e = 0
  · subst h0
    have hl := fun y => cas_hit (y := y) h.cell1 (h.free 1)
    go_enter Try.func42, Try.ntmps42
    go_wp2
    go_end0
    exact ⟨rfl, by rw [fst_, if_pos rfl]; exact h.set1 x, grown_setCell _ _ _ _⟩
  · have hl := fun y => cas_miss (y := y) h.cell1 (h.free 1) h0
    go_enter Try.func42, Try.ntmps42
    go_wp2
    go_end0
    exact ⟨rfl, by rw [fst_, if_neg h0]; exact h, World.grownBy.refl _ _⟩

set_option maxHeartbeats 400000 in
theorem fail_nil (x : Int) (w : World) : Calls Try.prog 42 #[.pointer none, .int .i64 x] w fun en w' => en = .returned (.tuple #[]) ∧ w = w' := by
  go_enter Try.func42, Try.ntmps42
  go_wp2
  go_end0
  exact ⟨rfl, rfl⟩

/-- How many bytes are left. -/
def leftOf (l : List UInt8) (e : Int) : Int := if e = 0 then l.length else 0

set_option maxHeartbeats 400000 in
theorem left_any {w : World} {b : Nat} {l : List UInt8} {e : Int} (h : RdAt w b l e) : Calls Try.prog 31 #[.pointer (some ⟨b, 0, none⟩)] w fun en w' => en = .returned (.int .i64 (leftOf l e)) ∧ w = w' := by
  have hc := h.cell0
  by_cases h0 : e = 0
  · subst h0
    go_enter Try.func31, Try.ntmps31
    go_wp2_with fail
    refine (err_any (by exact h)).mono ?_
    rintro en w' ⟨rfl, rfl⟩
    go_wp2_with fail
    go_ret
    exact ⟨by rw [leftOf, if_pos rfl]; rfl, rfl⟩
  · have HE := Lib.hid (show leftOf l e = 0 by rw [leftOf, if_neg h0])
    have h0 : (e == 0) = false := by simpa using h0
    go_enter Try.func31, Try.ntmps31
    go_wp2_with fail
    refine (err_any (by exact h)).mono ?_
    rintro en w' ⟨rfl, rfl⟩
    go_wp2_with fail
    go_ret
    exact ⟨by rw [HE.out]; rfl, rfl⟩

set_option maxHeartbeats 400000 in
theorem left_nil (w : World) : Calls Try.prog 31 #[.pointer none] w fun en w' => en = .returned (.int .i64 0) ∧ w = w' := by
  go_enter Try.func31, Try.ntmps31
  go_wp2_with fail
  refine (err_nil _).mono ?_
  rintro en w' ⟨rfl, rfl⟩
  go_wp2_with fail
  go_ret
  exact ⟨rfl, rfl⟩
end Go.Proofs.Ytoiaigbagfalmaa
