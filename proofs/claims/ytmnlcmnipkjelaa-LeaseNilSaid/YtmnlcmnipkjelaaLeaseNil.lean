/- LeaseNil: for every member and number the law answers true: a book that is none has no leases. No condition. -/
import Derived.Test.YtmnlcmnipkjelaaLeaseAwake
namespace Go.Proofs.Ytmnlcmnipkjelaa
open Go.RowKit Go.Maps Go.ChangeShapes Go.WideShapes Go.Joins
open Go.ChangeMaps (open_string shut_string)
set_option linter.unusedVariables false

set_option maxHeartbeats 1000000 in
theorem LeaseNil_walk (x y v : Int) (w : World) (hx : W64 x) (hy : W64 y) (hv : W64 v) :
    Calls Try.prog 7 #[.agg #[.int .i64 x, .int .i64 y], .int .i64 v] w fun e w' => e = .returned (.bool true) ∧ Below w.heap.size w w' := by
  have e0 : (w.alloc (.cells #[.int .i64 x, .int .i64 y] 23)).cell? ⟨w.heap.size, 0, none⟩ = some (.int .i64 x) := by simp
  have e1 : (w.alloc (.cells #[.int .i64 x, .int .i64 y] 23)).cell? ⟨w.heap.size, 1, none⟩ = some (.int .i64 y) := by simp
  have hb0 : Below w.heap.size w (w.alloc (.cells #[.int .i64 x, .int .i64 y] 23)) := (Below.refl _ _).alloc (Nat.le_refl _) _
  go_enter Try.func7, Try.ntmps7
  go_wp2_with fail
  generalize w.alloc (.cells #[.int .i64 x, .int .i64 y] 23) = W0 at *
  refine (hold_nil _ _).mono ?_
  rintro e w1 ⟨rfl, b1⟩
  have h0 := (b1.cell (p := ⟨w.heap.size, 0, none⟩) (World.block_lt_of_cell? _ _ e0)).trans e0
  have h1 := (b1.cell (p := ⟨w.heap.size, 1, none⟩) (World.block_lt_of_cell? _ _ e1)).trans e1
  have hb1 := hb0.trans (b1.mono hb0.size)
  clear e0 e1 hb0 b1
  go_wp2_with fail
  refine (forget_nil _ _ _).mono ?_
  rintro e w2 ⟨rfl, b2⟩
  have e0 := (b2.cell (p := ⟨w.heap.size, 0, none⟩) (World.block_lt_of_cell? _ _ h0)).trans h0
  have e1 := (b2.cell (p := ⟨w.heap.size, 1, none⟩) (World.block_lt_of_cell? _ _ h1)).trans h1
  have hb2 := hb1.trans (b2.mono hb1.size)
  clear h0 h1 hb1 b2
  go_wp2_with fail
  refine (awake_any _).mono ?_
  rintro e w3 ⟨rfl, b3⟩
  have h0 := (b3.cell (p := ⟨w.heap.size, 0, none⟩) (World.block_lt_of_cell? _ _ e0)).trans e0
  have h1 := (b3.cell (p := ⟨w.heap.size, 1, none⟩) (World.block_lt_of_cell? _ _ e1)).trans e1
  have hb3 := hb2.trans (b3.mono hb2.size)
  clear e0 e1 hb2 b3
  go_wp2_with fail
  refine (grant_nil _ _ _ _).mono ?_
  rintro e w4 ⟨rfl, b4⟩
  have e0 := (b4.cell (p := ⟨w.heap.size, 0, none⟩) (World.block_lt_of_cell? _ _ h0)).trans h0
  have e1 := (b4.cell (p := ⟨w.heap.size, 1, none⟩) (World.block_lt_of_cell? _ _ h1)).trans h1
  have hb4 := hb3.trans (b4.mono hb3.size)
  clear h0 h1 hb3 b4
  go_wp2_with fail
  refine (until_nil _ _ _).mono ?_
  rintro e w5 ⟨rfl, b5⟩
  have h0 := (b5.cell (p := ⟨w.heap.size, 0, none⟩) (World.block_lt_of_cell? _ _ e0)).trans e0
  have h1 := (b5.cell (p := ⟨w.heap.size, 1, none⟩) (World.block_lt_of_cell? _ _ e1)).trans e1
  have hb5 := hb4.trans (b5.mono hb4.size)
  clear e0 e1 hb4 b5
  go_wp2_with fail
  refine (free_nil _ _ _ _).mono ?_
  rintro e w6 ⟨rfl, b6⟩
  have hb6 := hb5.trans (b6.mono hb5.size)
  clear h0 h1 hb5 b6
  go_wp2_with fail
  go_ret
  exact ⟨rfl, hb6⟩


theorem LeaseNil_calls (H : Type) (enc : TypeId × Value → H) (W : World) (base : Nat) (args : Array Value) (ds gs : List (DataW H)) (before : List MemPlace)
    (hval : ∀ (j : Nat) t v, Try.f7.params[j]? = some t → args[j]? = some v → Value.okWide Try.prog W .any base t v)
    (hW : DataW.Whole enc Try.prog Try.f7.params.toList Rows.leaseNilSpec.vars false W args.toList ds gs before) :
    Calls Try.prog 7 args W fun e W' => e = .returned (.bool true) ∧ Below W.heap.size W W' := by
  obtain ⟨p, q, hA, hV, rfl, hfz, hnd⟩ := hW
  rw [Try.params7] at hA hval
  obtain ⟨v0, vs0, d0, ds0, p0, q0, hargs, rfl, rfl, h0, r0⟩ := trodAll_cons hA
  obtain ⟨v1, vs1, d1, ds1, p1, q1, rfl, rfl, rfl, h1, r1⟩ := trodAll_cons r0
  obtain ⟨rfl, rfl, rfl⟩ := trodAll_nil r1
  obtain rfl : args = #[v0, v1] := by cases args; simp_all
  obtain ⟨c0, e0, z0, z0_, m0, rfl, rfl, rfl, hz0, hz0_⟩ := Joins.open_agg2 Try.underlying23 (by kernel_rfl) (by kernel_rfl) (hval 0 23 v0 rfl rfl) h0
  obtain ⟨x0, g0, rfl, w0⟩ := DataW.trod_int Try.underlying3 hz0
  obtain ⟨y0, g0_, rfl, w0_⟩ := DataW.trod_int Try.underlying3 hz0_
  simp at g0 g0_; subst g0 g0_
  obtain ⟨x1, rfl, rfl, rfl, w1⟩ := open_int Try.underlying3 (hval 1 3 v1 rfl rfl) h1
  exact LeaseNil_walk x0 y0 x1 W w0 w0_ w1

set_option maxRecDepth 100000 in
theorem LeaseNil_lifted (os : Os) (started : os.Started) (H : Type) (enc : TypeId × Value → H) :
    ReturnsInHanded {} Try.checked os 7 .any (Rows.leaseNilSpec.pre6 enc Try.prog Try.f7 Rows.leaseNilRow.domain false) (Rows.leaseNilSpec.post enc Try.prog Try.f7 false true false false) := by
  refine returnsInHanded_of_change (C := Try.checked) own started (by kernel_rfl) Try.func7
    (ChangeSpec.witness6 (enc := enc) (C := Try.checked) false ⟨#[], #[.agg #[.int .i64 0, .int .i64 0], .int .i64 0], []⟩ 8 (by kernel_rfl) (by kernel_rfl) (by kernel_rfl) (by kernel_rfl)) ?_
  intro W base args ds gs before hval0 hW hcnd _
  have hval : ∀ (j : Nat) t v, Try.f7.params[j]? = some t → args[j]? = some v → Value.okWide Try.prog W .any base t v := hval0
  refine (LeaseNil_calls H enc W base args ds gs before hval hW).mono fun e W' ⟨he, bel⟩ => ?_
  exact ⟨_, he, law_post (ts := [23, 3]) (by rw [Try.params7]) (by intro t ht; simp only [List.mem_cons, List.not_mem_nil, or_false] at ht; rcases ht with rfl | rfl <;> exact ⟨by kernel_rfl, of_decide_eq_true (by kernel_rfl)⟩) hW rfl
    (fun ds h => by match ds, h with | [_, _], _ => rfl) (by kernel_rfl) bel⟩

theorem LeaseNil_over : Rows.leaseNilRow.holds Try.pinned (OpenSpec.ofChange Rows.leaseNilSpec) :=
  OpenClaim.holds_of_wide 7 Try.f7 rfl rfl rfl rfl rfl rfl rfl ⟨rfl, rfl, rfl, rfl, rfl⟩ rfl rfl rfl rfl rfl (by kernel_rfl) Try.func7 (by kernel_rfl)
    (of_decide_eq_true (by kernel_rfl)) (by unfold Func.isWrapper; first | (rw [if_pos (by decide +kernel)]; kernel_rfl) | (rw [if_neg (by decide +kernel)]; exact ⟨rfl, rfl⟩))
    (fun os started H enc _ => LeaseNil_lifted os started H enc)

/-- The statement. -/
theorem LeaseNil_proved : Rows.LeaseNilSaid := LeaseNil_over

end Go.Proofs.Ytmnlcmnipkjelaa
