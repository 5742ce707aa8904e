/- LeaseValid: for every clock, lease, skew and span the law answers true. No condition. -/
import Derived.Test.YtmnlcmnipkjelaaLeaseAwake
namespace Go.Proofs.Ytmnlcmnipkjelaa
open Go.RowKit Go.Maps Go.ChangeShapes Go.WideShapes Go.Joins
open Go.ChangeMaps (open_string shut_string)
set_option linter.unusedVariables false

set_option maxHeartbeats 400000 in
theorem rvalid_any (clock till skew : Int) (w : World) : Calls Try.prog 13 #[.int .i64 clock, .int .i64 till, .int .i64 skew] w fun e w' => e = .returned (.bool (validB clock till skew)) ∧ w = w' := by
  by_cases h1 : 0 ≤ clock
  · by_cases h2 : clock ≤ 1099511627776
    · by_cases h3 : 0 ≤ skew
      · by_cases h4 : skew ≤ 1099511627776
        · by_cases h5 : clock + skew < till
          · go_enter Try.func13, Try.ntmps13
            (go_wp2; go_ret; exact ⟨by first | (rw [validB_no (by omega)]; rfl) | (rw [validB_yes (by omega)]; rfl), rfl⟩)
          · go_enter Try.func13, Try.ntmps13
            (go_wp2; go_ret; exact ⟨by first | (rw [validB_no (by omega)]; rfl) | (rw [validB_yes (by omega)]; rfl), rfl⟩)
        · go_enter Try.func13, Try.ntmps13
          (go_wp2; go_ret; exact ⟨by first | (rw [validB_no (by omega)]; rfl) | (rw [validB_yes (by omega)]; rfl), rfl⟩)
      · go_enter Try.func13, Try.ntmps13
        (go_wp2; go_ret; exact ⟨by first | (rw [validB_no (by omega)]; rfl) | (rw [validB_yes (by omega)]; rfl), rfl⟩)
    · go_enter Try.func13, Try.ntmps13
      (go_wp2; go_ret; exact ⟨by first | (rw [validB_no (by omega)]; rfl) | (rw [validB_yes (by omega)]; rfl), rfl⟩)
  · go_enter Try.func13, Try.ntmps13
    (go_wp2; go_ret; exact ⟨by first | (rw [validB_no (by omega)]; rfl) | (rw [validB_yes (by omega)]; rfl), rfl⟩)

theorem more_mod (more : Int) : ∃ r : Int, wrap64 ((IntKind.u64.wrap more).tmod 1099511627776) = r ∧ 0 ≤ r ∧ r < 1099511627776 := by
  have h : 0 ≤ IntKind.u64.wrap more := by
    simp only [IntKind.wrap_u64]
    omega
  refine ⟨_, rfl, ?_⟩
  rw [Int.tmod_eq_emod_of_nonneg h]
  have h1 := Int.emod_nonneg (IntKind.u64.wrap more) (show (1099511627776 : Int) ≠ 0 by omega)
  have h2 := Int.emod_lt_of_pos (IntKind.u64.wrap more) (show (0 : Int) < 1099511627776 by omega)
  rw [IntWalk.wrap64_in _ ⟨by omega, by omega⟩]
  exact ⟨h1, h2⟩

set_option maxHeartbeats 1000000 in
theorem LeaseValid_walk (clock till skew more : Int) (w : World) (hc : W64 clock) (ht : W64 till) (hs : W64 skew) (hm : W64 more) :
    Calls Try.prog 4 #[.int .i64 clock, .int .i64 till, .int .i64 skew, .int .i64 more] w fun e w' => e = .returned (.bool true) ∧ Below w.heap.size w w' := by
  obtain ⟨r, hr, r0, r1⟩ := more_mod more
  go_enter Try.func4, Try.ntmps4
  go_wp2_with fail
  refine (awake_any _).mono ?_
  rintro e w1 ⟨rfl, hb1⟩
  go_wp2_with fail
  refine (valid_any _ _ _ _).mono ?_
  rintro e w' ⟨rfl, rfl⟩
  go_wp2_with fail
  refine (rvalid_any _ _ _ _).mono ?_
  rintro e w' ⟨rfl, rfl⟩
  by_cases g1 : 0 ≤ clock
  · by_cases g2 : clock ≤ 1099511627776 - r
    · go_wp2_with fail
      refine (valid_any _ _ _ _).mono ?_
      rintro e w' ⟨rfl, rfl⟩
      by_cases v : 0 ≤ skew ∧ skew ≤ 1099511627776 ∧ clock + skew < till
      · have e1 : validB clock till skew = true := validB_yes (by omega)
        simp only [e1]
        clear e1
        go_wp2_with fail
        go_ret
        exact ⟨rfl, hb1⟩
      · have e1 : validB clock till skew = false := validB_no (by omega)
        simp only [e1]
        clear e1
        go_wp2_with fail
        refine (valid_any _ _ _ _).mono ?_
        rintro e w' ⟨rfl, rfl⟩
        have e1 : validB (clock + r) till skew = false := validB_no (by omega)
        simp only [e1]
        clear e1
        go_wp2_with fail
        go_ret
        exact ⟨rfl, hb1⟩
    · go_wp2_with fail
      go_ret
      exact ⟨rfl, hb1⟩
  · go_wp2_with fail
    go_ret
    exact ⟨rfl, hb1⟩


theorem LeaseValid_calls (H : Type) (enc : TypeId × Value → H) (W : World) (base : Nat) (args : Array Value) (ds gs : List (DataW H)) (before : List MemPlace)
    (hval : ∀ (j : Nat) t v, Try.f4.params[j]? = some t → args[j]? = some v → Value.okWide Try.prog W .any base t v)
    (hW : DataW.Whole enc Try.prog Try.f4.params.toList Rows.leaseValidSpec.vars false W args.toList ds gs before) :
    Calls Try.prog 4 args W fun e W' => e = .returned (.bool true) ∧ Below W.heap.size W W' := by
  obtain ⟨p, q, hA, hV, rfl, hfz, hnd⟩ := hW
  rw [Try.params4] at hA hval
  obtain ⟨v0, vs0, d0, ds0, p0, q0, hargs, rfl, rfl, h0, r0⟩ := trodAll_cons hA
  obtain ⟨v1, vs1, d1, ds1, p1, q1, rfl, rfl, rfl, h1, r1⟩ := trodAll_cons r0
  obtain ⟨v2, vs2, d2, ds2, p2, q2, rfl, rfl, rfl, h2, r2⟩ := trodAll_cons r1
  obtain ⟨v3, vs3, d3, ds3, p3, q3, rfl, rfl, rfl, h3, r3⟩ := trodAll_cons r2
  obtain ⟨rfl, rfl, rfl⟩ := trodAll_nil r3
  obtain rfl : args = #[v0, v1, v2, v3] := by cases args; simp_all
  obtain ⟨x0, rfl, rfl, rfl, w0⟩ := open_int Try.underlying3 (hval 0 3 v0 rfl rfl) h0
  obtain ⟨x1, rfl, rfl, rfl, w1⟩ := open_int Try.underlying3 (hval 1 3 v1 rfl rfl) h1
  obtain ⟨x2, rfl, rfl, rfl, w2⟩ := open_int Try.underlying3 (hval 2 3 v2 rfl rfl) h2
  obtain ⟨x3, rfl, rfl, rfl, w3⟩ := open_int Try.underlying3 (hval 3 3 v3 rfl rfl) h3
  exact LeaseValid_walk x0 x1 x2 x3 W w0 w1 w2 w3

set_option maxRecDepth 100000 in
theorem LeaseValid_lifted (os : Os) (started : os.Started) (H : Type) (enc : TypeId × Value → H) :
    ReturnsInHanded {} Try.checked os 4 .any (Rows.leaseValidSpec.pre6 enc Try.prog Try.f4 Rows.leaseValidRow.domain false) (Rows.leaseValidSpec.post enc Try.prog Try.f4 false true false false) := by
  refine returnsInHanded_of_change (C := Try.checked) own started (by kernel_rfl) Try.func4
    (ChangeSpec.witness6 (enc := enc) (C := Try.checked) false ⟨#[], #[.int .i64 0, .int .i64 0, .int .i64 0, .int .i64 0], []⟩ 8 (by kernel_rfl) (by kernel_rfl) (by kernel_rfl) (by kernel_rfl)) ?_
  intro W base args ds gs before hval0 hW hcnd _
  have hval : ∀ (j : Nat) t v, Try.f4.params[j]? = some t → args[j]? = some v → Value.okWide Try.prog W .any base t v := hval0
  refine (LeaseValid_calls H enc W base args ds gs before hval hW).mono fun e W' ⟨he, bel⟩ => ?_
  exact ⟨_, he, law_post (ts := [3, 3, 3, 3]) (by rw [Try.params4]) (by intro t ht; simp only [List.mem_cons, List.not_mem_nil, or_false] at ht; rcases ht with rfl | rfl | rfl | rfl <;> exact ⟨by kernel_rfl, of_decide_eq_true (by kernel_rfl)⟩) hW rfl
    (fun ds h => by match ds, h with | [_, _, _, _], _ => rfl) (by kernel_rfl) bel⟩

theorem LeaseValid_over : Rows.leaseValidRow.holds Try.pinned (OpenSpec.ofChange Rows.leaseValidSpec) :=
  OpenClaim.holds_of_wide 4 Try.f4 rfl rfl rfl rfl rfl rfl rfl ⟨rfl, rfl, rfl, rfl, rfl⟩ rfl rfl rfl rfl rfl (by kernel_rfl) Try.func4 (by kernel_rfl)
    (of_decide_eq_true (by kernel_rfl)) (by unfold Func.isWrapper; first | (rw [if_pos (by decide +kernel)]; kernel_rfl) | (rw [if_neg (by decide +kernel)]; exact ⟨rfl, rfl⟩))
    (fun os started H enc _ => LeaseValid_lifted os started H enc)

/-- The statement. -/
theorem LeaseValid_proved : Rows.LeaseValidSaid := LeaseValid_over

end Go.Proofs.Ytmnlcmnipkjelaa
