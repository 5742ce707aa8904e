/- The contract of sync.Once's Do at a table: made at the first asking, and never again. -/
import Derived.Test.YtoiaigbagfalmaaCrcTable
namespace Go.Proofs.Ytoiaigbagfalmaa
open Go.RowKit Go.ChangeShapes Go.WideShapes Go.Joins
set_option linter.unusedVariables false

theorem disable (w : World) : (callFunc 63 #[]).run Try.prog w = .ok (.value (.tuple #[])) w := run_call_mark0 Try.func63 (by kernel_rfl) (by kernel_rfl) (by kernel_rfl) .disable (by kernel_rfl) w
theorem enable (w : World) : (callFunc 65 #[]).run Try.prog w = .ok (.value (.tuple #[])) w := run_call_mark0 Try.func65 (by kernel_rfl) (by kernel_rfl) (by kernel_rfl) .enable (by kernel_rfl) w
theorem acquire (a : Addr) (w : World) : (callFunc 66 #[.pointer (some a)]).run Try.prog w = .ok (.value (.tuple #[])) w := run_call_marked Try.func66 (by kernel_rfl) (by kernel_rfl) (by kernel_rfl) .acquire (by kernel_rfl) a w
theorem releaseMerge (a : Addr) (w : World) : (callFunc 68 #[.pointer (some a)]).run Try.prog w = .ok (.value (.tuple #[])) w := run_call_marked Try.func68 (by kernel_rfl) (by kernel_rfl) (by kernel_rfl) .releaseMerge (by kernel_rfl) a w

set_option maxHeartbeats 1000000 in
theorem store_deferred (a : Addr) (x : Value) (u : FrameMode) (w : World) (hc : w.cell? a = some x) (hz : w.frozen? a = false) :
    CallsD Try.prog 57 #[.pointer (some a), .bool true] u w fun e u' w' => u' = u ∧ (e = .returned (.tuple #[]) ∧ w' = w.drew.setCell a (.int .u32 1)) := by
  have hc' : w.drew.cell? a = some x := by go_simp
  have hz' : w.drew.frozen? a = false := by go_simp
  have hst := run_call_store (P := Try.prog) Try.func61 (by kernel_rfl) (by kernel_rfl) (by kernel_rfl) (by kernel_rfl) (k := .u32) (y := 1) hc' hz'
  go_enter_d Try.func57, Try.ntmps57
  go_wp2
  go_region_calls
  all_goals (go_end0; exact ⟨rfl, rfl⟩)

set_option maxRecDepth 100000 in
set_option maxHeartbeats 1000000 in
theorem unlock_deferred (a : Addr) (u : FrameMode) (w : World) (hc : w.cell? a = some (.int .i32 1)) (hz : w.frozen? a = false) :
    CallsD Try.prog 56 #[.pointer (some a)] u w fun e u' w' => u' = u ∧ (e = .returned (.tuple #[]) ∧ w' = w.setCell a (.int .i32 0)) := by
  have hd := disable
  have he := enable
  have hr := releaseMerge
  have hadd := run_call_add (P := Try.prog) Try.func69 (by kernel_rfl) (by kernel_rfl) (by kernel_rfl) .i32 (by kernel_rfl) (y := -1) (s := 0) hc hz (by simp [go_sem]; rfl)
  have hcv := run_convert_to_unsafe (P := Try.prog) (src := 112) (dst := 116) Try.underlying112 Try.underlying116 (by kernel_rfl) hc
  go_enter_d Try.func56, Try.ntmps56
  go_wp2
  go_end0
  go_wp2
  go_end0
  exact ⟨rfl, rfl⟩

set_option maxRecDepth 100000 in
set_option maxHeartbeats 1000000 in
theorem lock_free (a : Addr) (w : World) (hc : w.cell? a = some (.int .i32 0)) (hz : w.frozen? a = false) :
    Calls Try.prog 55 #[.pointer (some a)] w fun e w' => e = .returned (.tuple #[]) ∧ w' = w.setCell a (.int .i32 1) := by
  have hd := disable
  have he := enable
  have ha := acquire
  have hcas := run_call_cas_hit (P := Try.prog) Try.func64 (by kernel_rfl) (by kernel_rfl) (by kernel_rfl) .i32 (by kernel_rfl) (y := 1) hc hz
  have hc' : (w.setCell a (.int .i32 1)).cell? a = some (.int .i32 1) := World.cell?_setCell_same w a _ hc
  have hcv := run_convert_to_unsafe (P := Try.prog) (src := 112) (dst := 116) Try.underlying112 Try.underlying116 (by kernel_rfl) hc'
  go_enter Try.func55, Try.ntmps55
  go_wp2
  first | go_end0 | (simp only [Exit.inBlock, Exit.then]; refine bodyPost_ret (results_none rfl _ _ _) rfl ?_) | refine bodyPost_ret (results_none rfl _ _ _) rfl ?_
  go_wp2
  go_end0
  exact ⟨rfl, rfl⟩

/-- A table that is new, or made. -/
def TabOk (w : World) (b : Nat) (m : Int) : Prop := (m = 0 ∧ ∃ f, TabAt w b 0 0 0 f) ∨ (m = 1 ∧ TabAt w b 1 0 1 (stn 8))

set_option maxRecDepth 100000 in
set_option maxHeartbeats 1600000 in
theorem slow_any {w : World} {b : Nat} {f : Nat → Nat} (h : TabAt w b 0 0 0 f) :
    Calls Try.prog 51 #[.pointer (some ⟨b, 0, none⟩), .func (.func 47) #[.pointer (some ⟨b, 0, none⟩)] #[]] w fun e w' => e = .returned (.tuple #[]) ∧ TabAt w' b 1 0 1 (stn 8) ∧ w.grownBy w' (some b) := by
  have h1 := h.set1 1
  have hc1 := h.c1
  have hf1 := h.free 1
  have hl := run_call_load (P := Try.prog) Try.func54 (by kernel_rfl) (by kernel_rfl) (by kernel_rfl) .u32 (by kernel_rfl) h1.c0
  have H1 := Lib.hid h1
  clear h1 h
  have hnot : ∀ (x : Bool) (w : World), (Op.unary .not (.bool x)).run Try.prog w = .ok (.bool (!x)) w := fun _ _ => rfl
  go_enter_defers Try.func51, Try.ntmps51
  go_wp2_with (first
    | (go_at_call 55; refine (lock_free ⟨b, 1, none⟩ _ (by assumption) (by assumption)).mono ?_; rintro e w' ⟨rfl, rfl⟩)
    | (go_at_call 50; go_in))
  refine (make_any (by exact H1.out)).mono ?_
  rintro e w2 ⟨rfl, hT, hg⟩
  have hg := (grown_setCell w b 1 (.int .i32 1)).trans hg
  clear hl hc1 hf1 H1
  go_wp2_with fail
  refine leaves_cons (f := 57) (args := #[.pointer (some ⟨b, 0, none⟩), .bool true]) (by simp) (by simp [go_sem]) ?_
  refine (store_deferred ⟨b, 0, none⟩ (.int .u32 0) .returning _ hT.c0 (hT.free 0)).mono ?_
  rintro e u' w'' ⟨rfl, rfl, rfl⟩
  have hT1 := hT.drew.set0 1
  have hg1 := (drewN_grown (n := 1) (grown_setCell w2.drew b 0 (.int .u32 1)))
  refine leaves_cons (f := 56) (args := #[.pointer (some ⟨b, 1, none⟩)]) (by simp [settle]) (by simp [go_sem]) ?_
  refine (unlock_deferred ⟨b, 1, none⟩ _ _ hT1.c1 (hT1.free 1)).mono ?_
  rintro e u' w'' ⟨rfl, rfl, rfl⟩
  have fin := And.intro (hT1.set1 0) ((hg.trans hg1).trans (grown_setCell _ b 1 (.int .i32 0)))
  simpa [Leaves, settle, results, Try.results51] using fin

set_option maxRecDepth 100000 in
set_option maxHeartbeats 1600000 in
/-- Do, at a table: it is made, once. -/
theorem do_any {w : World} {b : Nat} {m : Int} (h : TabOk w b m) :
    Calls Try.prog 46 #[.pointer (some ⟨b, 0, none⟩), .func (.func 47) #[.pointer (some ⟨b, 0, none⟩)] #[]] w fun e w' => e = .returned (.tuple #[]) ∧ TabAt w' b 1 0 1 (stn 8) ∧ w.grownBy w' (some b) := by
  have hnot : ∀ (x : Bool) (w : World), (Op.unary .not (.bool x)).run Try.prog w = .ok (.bool (!x)) w := fun _ _ => rfl
  rcases h with ⟨_, f, h⟩ | ⟨_, h⟩
  · have hl := run_call_load (P := Try.prog) Try.func54 (by kernel_rfl) (by kernel_rfl) (by kernel_rfl) .u32 (by kernel_rfl) h.c0
    go_enter Try.func46, Try.ntmps46
    go_wp2_with (go_at_call 50; go_in)
    refine (slow_any (by exact h)).mono ?_
    rintro e w1 ⟨rfl, hT, hg⟩
    go_wp2_with fail
    go_end0
    exact ⟨rfl, hT, hg⟩
  · have hl := run_call_load (P := Try.prog) Try.func54 (by kernel_rfl) (by kernel_rfl) (by kernel_rfl) .u32 (by kernel_rfl) h.c0
    go_enter Try.func46, Try.ntmps46
    go_wp2
    go_end0
    exact ⟨rfl, h, World.grownBy.refl _ _⟩
end Go.Proofs.Ytoiaigbagfalmaa
