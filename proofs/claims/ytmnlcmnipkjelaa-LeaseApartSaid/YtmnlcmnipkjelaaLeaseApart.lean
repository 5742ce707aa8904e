/- LeaseApart: for every member, lease, clocks and skew the law answers true. No condition. -/
import Derived.Test.YtmnlcmnipkjelaaLeaseAwake
namespace Go.Proofs.Ytmnlcmnipkjelaa
open Go.RowKit Go.Maps Go.ChangeShapes Go.WideShapes Go.Joins
open Go.ChangeMaps (open_string shut_string)
set_option linter.unusedVariables false

set_option maxHeartbeats 1000000 in
theorem LeaseApart_in (x y till clock other skew : Int) (w : World) (hx : W64 x) (hy : W64 y) (ht : W64 till) (ho : W64 other)
    (g1 : 0 ≤ skew) (g2 : skew ≤ 1099511627776) (g3 : 0 ≤ clock) (g4 : clock ≤ 1099511627776) (g5 : clock - skew ≤ other) (g6 : other ≤ clock + skew) :
    Calls Try.prog 3 #[.agg #[.int .i64 x, .int .i64 y], .int .i64 till, .int .i64 clock, .int .i64 other, .int .i64 skew] w fun e w' => e = .returned (.bool true) ∧ Below w.heap.size w w' := by
  have b1 := ht.bd
  have b3 := ho.bd
  go_enter Try.func3, Try.ntmps3
  go_wp2_with fail
  refine (awake_any _).mono ?_
  rintro e w1 ⟨rfl, hb1⟩
  have hb1' : Below w.heap.size w w1 := ((Below.refl _ _).alloc (Nat.le_refl _) _).trans (hb1.mono (by simp))
  have hc0 : w1.cell? ⟨w.heap.size, 0, none⟩ = some (.int .i64 x) := by rw [hb1.cell (by simp)]; simp
  have hc1 : w1.cell? ⟨w.heap.size, 1, none⟩ = some (.int .i64 y) := by rw [hb1.cell (by simp)]; simp
  clear hb1
  go_wp2_with fail
  refine (new_any _).mono ?_
  rintro e w2 ⟨b, m, rfl, hB, hb, hm, hb2⟩
  have k0 := (hb2.cell (p := ⟨w.heap.size, 0, none⟩) (World.block_lt_of_cell? _ _ hc0)).trans hc0
  have k1 := (hb2.cell (p := ⟨w.heap.size, 1, none⟩) (World.block_lt_of_cell? _ _ hc1)).trans hc1
  have hmN : m ≠ w.heap.size := by have := World.block_lt_of_cell? _ _ hc0; simp at this; omega
  have hb3 : Below w.heap.size w w2 := hb1'.trans (hb2.mono hb1'.size)
  clear hb2 hc0 hc1
  go_wp2_with fail
  by_cases g : 0 < till
  · refine (grant_yes (by exact hB) (by decide) hx hy ht (by exact g)).mono ?_
    rintro e w3 ⟨rfl, hB3, hg3⟩
    have l0 := hg3.cell k0 (by simpa using hmN.symm)
    have l1 := hg3.cell k1 (by simpa using hmN.symm)
    have hb4 : Below w.heap.size w w3 := hb3.grown hg3 hb3.size (by intro k hk; cases hk; exact Nat.le_trans hb1'.size hm)
    clear hB k0 k1 hb3 hg3 hb1'
    go_wp2_with fail
    refine (valid_any _ _ _ _).mono ?_
    rintro e w' ⟨rfl, rfl⟩
    by_cases v : clock + skew < till
    · have e1 : validB clock till skew = true := validB_yes ⟨by omega, by omega, by omega, by omega, v⟩
      simp only [e1]
      clear e1
      go_wp2_with fail
      refine (free_any (by exact hB3) hx hy).mono ?_
      rintro e w5 ⟨rfl, hB5, hb5⟩
      have e1 : decide (max (upd (fun _ _ => 0) x y till x y) 0 ≤ other) = false := by rw [upd_same]; exact decide_eq_false (by omega)
      simp only [e1]
      clear e1
      go_wp2_with fail
      go_ret
      exact ⟨rfl, hb4.trans (hb5.mono hb4.size)⟩
    · have e1 : validB clock till skew = false := validB_no (by omega)
      simp only [e1]
      clear e1
      go_wp2_with fail
      go_ret
      exact ⟨rfl, hb4⟩
  · refine (grant_no (by exact hB) hx hy (by omega)).mono ?_
    rintro e w3 ⟨rfl, hB3, hb4⟩
    have hb5 : Below w.heap.size w w3 := hb3.trans (hb4.mono hb3.size)
    clear hB hb3 hb4 hb1' k0 k1
    go_wp2_with fail
    refine (valid_any _ _ _ _).mono ?_
    rintro e w' ⟨rfl, rfl⟩
    have e1 : validB clock till skew = false := validB_no (by omega)
    simp only [e1]
    clear e1
    go_wp2_with fail
    go_ret
    exact ⟨rfl, hb5⟩

set_option maxHeartbeats 1000000 in
theorem LeaseApart_out (x y till clock other skew : Int) (w : World) (hc : W64 clock) (ho : W64 other) (hs : W64 skew)
    (g : ¬ (0 ≤ skew ∧ skew ≤ 1099511627776 ∧ 0 ≤ clock ∧ clock ≤ 1099511627776 ∧ clock - skew ≤ other ∧ other ≤ clock + skew)) :
    Calls Try.prog 3 #[.agg #[.int .i64 x, .int .i64 y], .int .i64 till, .int .i64 clock, .int .i64 other, .int .i64 skew] w fun e w' => e = .returned (.bool true) ∧ Below w.heap.size w w' := by
  have b2 := hc.bd
  have b3 := ho.bd
  have b4 := hs.bd
  have fin : ∀ w1 : World, Below (w.alloc (.cells #[.int .i64 x, .int .i64 y] 23)).heap.size (w.alloc (.cells #[.int .i64 x, .int .i64 y] 23)) w1 → ∀ w2, Below w1.heap.size w1 w2 → Below w.heap.size w w2 := fun w1 h1 w2 h2 =>
    (((Below.refl _ _).alloc (Nat.le_refl _) _).trans (h1.mono (by simp))).trans (h2.mono (by have := h1.size; simp at this; omega))
  have FIN := Lib.hid fin
  clear fin
  by_cases g1 : 0 ≤ skew
  · by_cases g2 : skew ≤ 1099511627776
    · by_cases g3 : 0 ≤ clock
      · by_cases g4 : clock ≤ 1099511627776
        · by_cases g5 : clock - skew ≤ other
          · have g6 : clock + skew < other := by omega
            clear g
            go_enter Try.func3, Try.ntmps3
            (go_wp2_with fail; refine (awake_any _).mono ?_; rintro e w1 ⟨rfl, hb1⟩; go_wp2_with fail; refine (awake_any _).mono ?_; rintro e w2 ⟨rfl, hb2⟩; go_wp2_with fail; go_ret; exact ⟨rfl, FIN.out w1 hb1 w2 hb2⟩)
          · clear g
            go_enter Try.func3, Try.ntmps3
            (go_wp2_with fail; refine (awake_any _).mono ?_; rintro e w1 ⟨rfl, hb1⟩; go_wp2_with fail; refine (awake_any _).mono ?_; rintro e w2 ⟨rfl, hb2⟩; go_wp2_with fail; go_ret; exact ⟨rfl, FIN.out w1 hb1 w2 hb2⟩)
        · clear g
          go_enter Try.func3, Try.ntmps3
          (go_wp2_with fail; refine (awake_any _).mono ?_; rintro e w1 ⟨rfl, hb1⟩; go_wp2_with fail; refine (awake_any _).mono ?_; rintro e w2 ⟨rfl, hb2⟩; go_wp2_with fail; go_ret; exact ⟨rfl, FIN.out w1 hb1 w2 hb2⟩)
      · clear g
        go_enter Try.func3, Try.ntmps3
        (go_wp2_with fail; refine (awake_any _).mono ?_; rintro e w1 ⟨rfl, hb1⟩; go_wp2_with fail; refine (awake_any _).mono ?_; rintro e w2 ⟨rfl, hb2⟩; go_wp2_with fail; go_ret; exact ⟨rfl, FIN.out w1 hb1 w2 hb2⟩)
    · clear g
      go_enter Try.func3, Try.ntmps3
      (go_wp2_with fail; refine (awake_any _).mono ?_; rintro e w1 ⟨rfl, hb1⟩; go_wp2_with fail; refine (awake_any _).mono ?_; rintro e w2 ⟨rfl, hb2⟩; go_wp2_with fail; go_ret; exact ⟨rfl, FIN.out w1 hb1 w2 hb2⟩)
  · clear g
    go_enter Try.func3, Try.ntmps3
    (go_wp2_with fail; refine (awake_any _).mono ?_; rintro e w1 ⟨rfl, hb1⟩; go_wp2_with fail; refine (awake_any _).mono ?_; rintro e w2 ⟨rfl, hb2⟩; go_wp2_with fail; go_ret; exact ⟨rfl, FIN.out w1 hb1 w2 hb2⟩)

theorem LeaseApart_walk (x y till clock other skew : Int) (w : World) (hx : W64 x) (hy : W64 y) (ht : W64 till) (hc : W64 clock) (ho : W64 other) (hs : W64 skew) :
    Calls Try.prog 3 #[.agg #[.int .i64 x, .int .i64 y], .int .i64 till, .int .i64 clock, .int .i64 other, .int .i64 skew] w fun e w' => e = .returned (.bool true) ∧ Below w.heap.size w w' := by
  by_cases g : 0 ≤ skew ∧ skew ≤ 1099511627776 ∧ 0 ≤ clock ∧ clock ≤ 1099511627776 ∧ clock - skew ≤ other ∧ other ≤ clock + skew
  · obtain ⟨g1, g2, g3, g4, g5, g6⟩ := g
    exact LeaseApart_in x y till clock other skew w hx hy ht ho g1 g2 g3 g4 g5 g6
  · exact LeaseApart_out x y till clock other skew w hc ho hs g


theorem LeaseApart_calls (H : Type) (enc : TypeId × Value → H) (W : World) (base : Nat) (args : Array Value) (ds gs : List (DataW H)) (before : List MemPlace)
    (hval : ∀ (j : Nat) t v, Try.f3.params[j]? = some t → args[j]? = some v → Value.okWide Try.prog W .any base t v)
    (hW : DataW.Whole enc Try.prog Try.f3.params.toList Rows.leaseApartSpec.vars false W args.toList ds gs before) :
    Calls Try.prog 3 args W fun e W' => e = .returned (.bool true) ∧ Below W.heap.size W W' := by
  obtain ⟨p, q, hA, hV, rfl, hfz, hnd⟩ := hW
  rw [Try.params3] at hA hval
  obtain ⟨v0, vs0, d0, ds0, p0, q0, hargs, rfl, rfl, h0, r0⟩ := trodAll_cons hA
  obtain ⟨v1, vs1, d1, ds1, p1, q1, rfl, rfl, rfl, h1, r1⟩ := trodAll_cons r0
  obtain ⟨v2, vs2, d2, ds2, p2, q2, rfl, rfl, rfl, h2, r2⟩ := trodAll_cons r1
  obtain ⟨v3, vs3, d3, ds3, p3, q3, rfl, rfl, rfl, h3, r3⟩ := trodAll_cons r2
  obtain ⟨v4, vs4, d4, ds4, p4, q4, rfl, rfl, rfl, h4, r4⟩ := trodAll_cons r3
  obtain ⟨rfl, rfl, rfl⟩ := trodAll_nil r4
  obtain rfl : args = #[v0, v1, v2, v3, v4] := by cases args; simp_all
  obtain ⟨c0, e0, z0, z0_, m0, rfl, rfl, rfl, hz0, hz0_⟩ := Joins.open_agg2 Try.underlying23 (by kernel_rfl) (by kernel_rfl) (hval 0 23 v0 rfl rfl) h0
  obtain ⟨x0, g0, rfl, w0⟩ := DataW.trod_int Try.underlying3 hz0
  obtain ⟨y0, g0_, rfl, w0_⟩ := DataW.trod_int Try.underlying3 hz0_
  simp at g0 g0_; subst g0 g0_
  obtain ⟨x1, rfl, rfl, rfl, w1⟩ := open_int Try.underlying3 (hval 1 3 v1 rfl rfl) h1
  obtain ⟨x2, rfl, rfl, rfl, w2⟩ := open_int Try.underlying3 (hval 2 3 v2 rfl rfl) h2
  obtain ⟨x3, rfl, rfl, rfl, w3⟩ := open_int Try.underlying3 (hval 3 3 v3 rfl rfl) h3
  obtain ⟨x4, rfl, rfl, rfl, w4⟩ := open_int Try.underlying3 (hval 4 3 v4 rfl rfl) h4
  exact LeaseApart_walk x0 y0 x1 x2 x3 x4 W w0 w0_ w1 w2 w3 w4

set_option maxRecDepth 100000 in
theorem LeaseApart_lifted (os : Os) (started : os.Started) (H : Type) (enc : TypeId × Value → H) :
    ReturnsInHanded {} Try.checked os 3 .any (Rows.leaseApartSpec.pre6 enc Try.prog Try.f3 Rows.leaseApartRow.domain false) (Rows.leaseApartSpec.post enc Try.prog Try.f3 false true false false) := by
  refine returnsInHanded_of_change (C := Try.checked) own started (by kernel_rfl) Try.func3
    (ChangeSpec.witness6 (enc := enc) (C := Try.checked) false ⟨#[], #[.agg #[.int .i64 0, .int .i64 0], .int .i64 0, .int .i64 0, .int .i64 0, .int .i64 0], []⟩ 8 (by kernel_rfl) (by kernel_rfl) (by kernel_rfl) (by kernel_rfl)) ?_
  intro W base args ds gs before hval0 hW hcnd _
  have hval : ∀ (j : Nat) t v, Try.f3.params[j]? = some t → args[j]? = some v → Value.okWide Try.prog W .any base t v := hval0
  refine (LeaseApart_calls H enc W base args ds gs before hval hW).mono fun e W' ⟨he, bel⟩ => ?_
  exact ⟨_, he, law_post (ts := [23, 3, 3, 3, 3]) (by rw [Try.params3]) (by intro t ht; simp only [List.mem_cons, List.not_mem_nil, or_false] at ht; rcases ht with rfl | rfl | rfl | rfl | rfl <;> exact ⟨by kernel_rfl, of_decide_eq_true (by kernel_rfl)⟩) hW rfl
    (fun ds h => by match ds, h with | [_, _, _, _, _], _ => rfl) (by kernel_rfl) bel⟩

theorem LeaseApart_over : Rows.leaseApartRow.holds Try.pinned (OpenSpec.ofChange Rows.leaseApartSpec) :=
  OpenClaim.holds_of_wide 3 Try.f3 rfl rfl rfl rfl rfl rfl rfl ⟨rfl, rfl, rfl, rfl, rfl⟩ rfl rfl rfl rfl rfl (by kernel_rfl) Try.func3 (by kernel_rfl)
    (of_decide_eq_true (by kernel_rfl)) (by unfold Func.isWrapper; first | (rw [if_pos (by decide +kernel)]; kernel_rfl) | (rw [if_neg (by decide +kernel)]; exact ⟨rfl, rfl⟩))
    (fun os started H enc _ => LeaseApart_lifted os started H enc)

/-- The statement. -/
theorem LeaseApart_proved : Rows.LeaseApartSaid := LeaseApart_over

end Go.Proofs.Ytmnlcmnipkjelaa
