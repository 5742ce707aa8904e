/- LeasePlays: for every script of calls the law answers true. No condition. -/
import Derived.Test.YtmnlcmnipkjelaaLeasePlays
namespace Go.Proofs.Ytmnlcmnipkjelaa
open Go.RowKit Go.Maps Go.ChangeShapes Go.WideShapes Go.Joins Go.Deep
open Go.ChangeMaps (open_string shut_string)
set_option linter.unusedVariables false


set_option maxRecDepth 100000 in
set_option maxHeartbeats 2000000 in
theorem LeasePlays_walk' (a : Option Addr) (len cap : Nat) (w : World) (hrow : OpRow w a len) (h300 : len ≤ 300) :
    Calls Try.prog 6 #[.slice a len cap] w fun e w' => e = .returned (.bool true) ∧ Below w.heap.size w w' := by
  obtain ⟨_, hcells⟩ := hrow
  go_enter Try.func6, Try.ntmps6
  go_wp2_with fail
  refine (awake_any _).mono ?_
  rintro e w1 ⟨rfl, hb1⟩
  go_wp2_with fail
  refine (new_any _).mono ?_
  rintro e w2 ⟨b, m, rfl, hB, hb, hm, b2⟩
  have hb2 := hb1.trans (b2.mono hb1.size)
  have HP := Lib.hid (show ∃ n f rows held, LPair w (w2.alloc (.cells #[.slice none 0 0, .int .i64 0] 39)) b m w2.heap.size w2.heap.size n f rows held ∧ n ≤ 0 ∧ rows.length ≤ 0 from
    ⟨0, fun _ _ => 0, [], 0, ⟨hB.alloc _, ⟨_, heap_alloc_new _ _, World.ownsRow_nil _ _ _ _⟩, fun _ _ _ _ => rfl, hb2.alloc hb2.size _, Nat.le_trans hb1.size hb, Nat.le_trans hb1.size hm, hb2.size, by simp⟩, Nat.le_refl _, Nat.le_refl _⟩)
  clear hB hb hm b2 hb1 hb2
  go_wp2_with fail
  generalize w2.alloc (.cells #[.slice none 0 0, .int .i64 0] 39) = W at *
  generalize w2.heap.size = c at *
  go_loopw [20] (fun i wr => ∃ k : Nat, k ≤ len ∧ i = .int .i64 k ∧ ∃ n f rows held, LPair w wr b m c c n f rows held ∧ n ≤ k ∧ rows.length ≤ k) (fun i _ => len - (intOf i).toNat)
  case atStart => exact ⟨0, Nat.zero_le _, rfl, HP.out⟩
  case round =>
    obtain ⟨k, hk, rfl, n, f, rows, held, hP, hn, hr⟩ := hrel
    clear HP
    by_cases hlt : k < len
    · obtain ⟨ab, off, rfl, hab, hcell⟩ := hcells (by omega)
      obtain ⟨⟨kd, v, x, y⟩, ⟨hkd, hv, hx, hy⟩, c0, c1, c2, c3⟩ := hcell k hlt
      simp only at hkd hv hx hy c0 c1 c2 c3
      have c0 := (hP.bel.cell (p := ⟨ab, off + k * 4, none⟩) hab).trans c0
      have c1 := (hP.bel.cell (p := ⟨ab, off + k * 4 + 1, none⟩) hab).trans c1
      have c2 := (hP.bel.cell (p := ⟨ab, off + k * 4 + 2, none⟩) hab).trans c2
      have c3 := (hP.bel.cell (p := ⟨ab, off + k * 4 + 3, none⟩) hab).trans c3
      have hP := hP.below ((Below.refl _ _).alloc (Nat.le_refl _) (.cells #[.int .i64 kd, .int .i64 v, .int .i64 x, .int .i64 y] 41))
      have hN : (wr.alloc (.cells #[.int .i64 kd, .int .i64 v, .int .i64 x, .int .i64 y] 41)).heap[wr.heap.size]? = some (.cells #[.int .i64 kd, .int .i64 v, .int .i64 x, .int .i64 y] 41 (0, 0)) := heap_alloc_new _ _
      have hNlt : wr.heap.size < (wr.alloc (.cells #[.int .i64 kd, .int .i64 v, .int .i64 x, .int .i64 y] 41)).heap.size := by simp
      have hn' : n < maxLen := by unfold maxLen; omega
      clear hcell hcells
      by_cases k1 : kd = 1
      · subst k1
        go_wp2_with fail
        (generalize wr.alloc (.cells #[.int .i64 _, .int .i64 v, .int .i64 x, .int .i64 y] 41) = W0 at *; generalize wr.heap.size = N at *)
        have hNm : N ≠ m := by rintro rfl; exact hP.m_map _ _ _ hN
        have hNc : N ≠ c := by rintro rfl; obtain ⟨u, hu, _⟩ := hP.R.ex; rw [hN] at hu; simp at hu
        by_cases g : f x y < v
        · have g' : rUntil rows x y < v := by rw [← hP.eq x y hx hy]; exact g
          have hP0 := hP
          have hP := hP.drew
          go_region_held3 (fun w' => w'.cell? ⟨N, 1, none⟩ = some (.int .i64 v) ∧ w'.cell? ⟨N, 2, none⟩ = some (.int .i64 x) ∧ w'.cell? ⟨N, 3, none⟩ = some (.int .i64 y)) (first | (exact ⟨cell_of_row _ _ 1 _ _ _ hN, cell_of_row _ _ 2 _ _ _ hN, cell_of_row _ _ 3 _ _ _ hN⟩) | go_keep)
            (first
              | (go_at_call 10; refine (grant_yes (by exact hP.B) hn' hx hy hv g).mono ?_; rintro e w5 ⟨rfl, hB5, hg5⟩; have hN := (hg5.block _ hNlt (by simpa using hNm)).trans hN; have hNlt := Nat.lt_of_lt_of_le hNlt hg5.size)
              | (go_at_call 15; refine (rgrant_yes (by exact hP.R.grown hg5 hP.ne_cm (fun cs fr => hP.m_map cs _ fr)) (by exact Nat.le_trans hP.hbase hg5.size) (by omega) g').mono ?_; rintro e w6 ⟨rfl, hR6, hg6⟩; have hN := (hg6.block _ hNlt (by simpa using hNc)).trans hN; have hNlt := Nat.lt_of_lt_of_le hNlt hg6.size))
          have hP := hP.granted hB5 hg5 hR6 hg6
          clear hB5 hg5 hR6 hg6 hP0
          have hr' : (rDrop rows x y ++ [(x, y, v)]).length ≤ k + 1 := by have := rDrop_len rows x y; simp; omega
          generalize rDrop rows x y ++ [(x, y, v)] = rows' at *
          generalize upd f x y v = f' at *
          go_wp2_with fail
          (have hP := hP.drew; go_region_held3 (fun w' => w'.cell? ⟨N, 1, none⟩ = some (.int .i64 v) ∧ w'.cell? ⟨N, 2, none⟩ = some (.int .i64 x) ∧ w'.cell? ⟨N, 3, none⟩ = some (.int .i64 y)) (first | (exact ⟨cell_of_row _ _ 1 _ _ _ hN, cell_of_row _ _ 2 _ _ _ hN, cell_of_row _ _ 3 _ _ _ hN⟩) | go_keep) (first | (go_at_call 14; refine (until_p (by exact hP) hx hy).mono ?_; rintro e w7 ⟨rfl, hP7, hb7⟩; have hN := (hb7.block _ hNlt).trans hN; have hNlt := Nat.lt_of_lt_of_le hNlt hb7.size; have hP := hP7; clear hP7 hb7) | (go_at_call 19; refine (runtil_p (by exact hP)).mono ?_; rintro e w7 ⟨rfl, hP7, hb7⟩; have hN := (hb7.block _ hNlt).trans hN; have hNlt := Nat.lt_of_lt_of_le hNlt hb7.size; have hP := hP7; clear hP7 hb7) | (go_at_call 12; refine (free_p (by exact hP) hx hy).mono ?_; rintro e w7 ⟨rfl, hP7, hb7⟩; have hN := (hb7.block _ hNlt).trans hN; have hNlt := Nat.lt_of_lt_of_le hNlt hb7.size; have hP := hP7; clear hP7 hb7) | (go_at_call 20; refine (rfree_p (by exact hP)).mono ?_; rintro e w7 ⟨rfl, hP7, hb7⟩; have hN := (hb7.block _ hNlt).trans hN; have hNlt := Nat.lt_of_lt_of_le hNlt hb7.size; have hP := hP7; clear hP7 hb7)); go_wp2_with fail; go_roundw; (case rel => exact ⟨k + 1, by omega, by go_num, _, _, _, _, hP, by omega, hr'⟩); (case measure => (simp [intOf]; omega)))
        · have g' : v ≤ rUntil rows x y := by rw [← hP.eq x y hx hy]; omega
          have hP := hP.drew
          go_region_held3 (fun w' => w'.cell? ⟨N, 1, none⟩ = some (.int .i64 v) ∧ w'.cell? ⟨N, 2, none⟩ = some (.int .i64 x) ∧ w'.cell? ⟨N, 3, none⟩ = some (.int .i64 y)) (first | (exact ⟨cell_of_row _ _ 1 _ _ _ hN, cell_of_row _ _ 2 _ _ _ hN, cell_of_row _ _ 3 _ _ _ hN⟩) | go_keep)
            (first
              | (go_at_call 10; refine (grant_no (by exact hP.B) hx hy (by omega)).mono ?_; rintro e w5 ⟨rfl, hB5, hb5⟩; have hN := (hb5.block _ hNlt).trans hN; have hNlt := Nat.lt_of_lt_of_le hNlt hb5.size; have hP := hP.below hb5)
              | (go_at_call 15; refine (rgrant_no (by exact hP.R) g').mono ?_; rintro e w6 ⟨rfl, hb6⟩; have hN := (hb6.block _ hNlt).trans hN; have hNlt := Nat.lt_of_lt_of_le hNlt hb6.size; have hP := hP.below hb6))
          have hr' : rows.length ≤ k + 1 := by omega
          go_wp2_with fail
          (have hP := hP.drew; go_region_held3 (fun w' => w'.cell? ⟨N, 1, none⟩ = some (.int .i64 v) ∧ w'.cell? ⟨N, 2, none⟩ = some (.int .i64 x) ∧ w'.cell? ⟨N, 3, none⟩ = some (.int .i64 y)) (first | (exact ⟨cell_of_row _ _ 1 _ _ _ hN, cell_of_row _ _ 2 _ _ _ hN, cell_of_row _ _ 3 _ _ _ hN⟩) | go_keep) (first | (go_at_call 14; refine (until_p (by exact hP) hx hy).mono ?_; rintro e w7 ⟨rfl, hP7, hb7⟩; have hN := (hb7.block _ hNlt).trans hN; have hNlt := Nat.lt_of_lt_of_le hNlt hb7.size; have hP := hP7; clear hP7 hb7) | (go_at_call 19; refine (runtil_p (by exact hP)).mono ?_; rintro e w7 ⟨rfl, hP7, hb7⟩; have hN := (hb7.block _ hNlt).trans hN; have hNlt := Nat.lt_of_lt_of_le hNlt hb7.size; have hP := hP7; clear hP7 hb7) | (go_at_call 12; refine (free_p (by exact hP) hx hy).mono ?_; rintro e w7 ⟨rfl, hP7, hb7⟩; have hN := (hb7.block _ hNlt).trans hN; have hNlt := Nat.lt_of_lt_of_le hNlt hb7.size; have hP := hP7; clear hP7 hb7) | (go_at_call 20; refine (rfree_p (by exact hP)).mono ?_; rintro e w7 ⟨rfl, hP7, hb7⟩; have hN := (hb7.block _ hNlt).trans hN; have hNlt := Nat.lt_of_lt_of_le hNlt hb7.size; have hP := hP7; clear hP7 hb7)); go_wp2_with fail; go_roundw; (case rel => exact ⟨k + 1, by omega, by go_num, _, _, _, _, hP, by omega, hr'⟩); (case measure => (simp [intOf]; omega)))
      · have k1 : (kd == 1) = false := by simpa using k1
        by_cases k2 : kd = 2
        · subst k2
          go_wp2_with fail
          (generalize wr.alloc (.cells #[.int .i64 _, .int .i64 v, .int .i64 x, .int .i64 y] 41) = W0 at *; generalize wr.heap.size = N at *)
          have hNb : N ≠ b := by rintro rfl; have := hP.B.blk; rw [hN] at this; simp at this
          have hNc : N ≠ c := by rintro rfl; obtain ⟨u, hu, _⟩ := hP.R.ex; rw [hN] at hu; simp at hu
          have l1 := cell_of_row _ _ 1 _ _ _ hN
          refine (hold_any (by exact hP.B)).mono ?_
          rintro e w5 ⟨rfl, hB5, hg5⟩
          have hN := (hg5.block _ hNlt (by simpa using hNb)).trans hN
          have hNlt := Nat.lt_of_lt_of_le hNlt hg5.size
          have l1 : w5.cell? ⟨N, 1, none⟩ = some (.int .i64 v) := cell_of_row _ _ 1 _ _ _ hN
          obtain ⟨u, hu1, hu2⟩ := (hP.R.grown hg5 hP.ne_cb hP.b_not).ex
          have d1 : w5.cell? ⟨c, 1, none⟩ = some (.int .i64 held) := by simp [World.cell?, hu1]
          have d2 : w5.frozen? ⟨c, 1, none⟩ = false := by simp [World.frozen?, hu1]
          have hr' : rows.length ≤ k + 1 := by omega
          have HP5 := Lib.hid (fun q => hP.heldOn hB5 hg5 q)
          have HN5 := Lib.hid hN
          clear hu1 hu2 hB5 hP c0 c1 c2 c3
          by_cases g : held < v
          · have e1 : max held v = v := Int.max_eq_right (by omega)
            go_wp2_with fail
            go_region
            have hP := HP5.out 1
            rw [e1] at hP
            have hN := ((grown_setCell w5 c 1 (.int .i64 v)).block _ hNlt (by simpa using hNc)).trans HN5.out
            have hNlt := Nat.lt_of_lt_of_le hNlt (grown_setCell w5 c 1 (.int .i64 v)).size
            clear HP5 HN5 e1 d1 d2 l1
            go_wp2_with fail
            (have hP := hP.drew; go_region_held3 (fun w' => w'.cell? ⟨N, 1, none⟩ = some (.int .i64 v) ∧ w'.cell? ⟨N, 2, none⟩ = some (.int .i64 x) ∧ w'.cell? ⟨N, 3, none⟩ = some (.int .i64 y)) (first | (exact ⟨cell_of_row _ _ 1 _ _ _ hN, cell_of_row _ _ 2 _ _ _ hN, cell_of_row _ _ 3 _ _ _ hN⟩) | go_keep) (first | (go_at_call 14; refine (until_p (by exact hP) hx hy).mono ?_; rintro e w7 ⟨rfl, hP7, hb7⟩; have hN := (hb7.block _ hNlt).trans hN; have hNlt := Nat.lt_of_lt_of_le hNlt hb7.size; have hP := hP7; clear hP7 hb7) | (go_at_call 19; refine (runtil_p (by exact hP)).mono ?_; rintro e w7 ⟨rfl, hP7, hb7⟩; have hN := (hb7.block _ hNlt).trans hN; have hNlt := Nat.lt_of_lt_of_le hNlt hb7.size; have hP := hP7; clear hP7 hb7) | (go_at_call 12; refine (free_p (by exact hP) hx hy).mono ?_; rintro e w7 ⟨rfl, hP7, hb7⟩; have hN := (hb7.block _ hNlt).trans hN; have hNlt := Nat.lt_of_lt_of_le hNlt hb7.size; have hP := hP7; clear hP7 hb7) | (go_at_call 20; refine (rfree_p (by exact hP)).mono ?_; rintro e w7 ⟨rfl, hP7, hb7⟩; have hN := (hb7.block _ hNlt).trans hN; have hNlt := Nat.lt_of_lt_of_le hNlt hb7.size; have hP := hP7; clear hP7 hb7)); go_wp2_with fail; go_roundw; (case rel => exact ⟨k + 1, by omega, by go_num, _, _, _, _, hP, by omega, hr'⟩); (case measure => (simp [intOf]; omega)))
          · have g : v ≤ held := by omega
            have e1 : max held v = held := Int.max_eq_left g
            go_wp2_with fail
            go_region
            have hP := HP5.out 1
            rw [e1] at hP
            have hN := ((grown_setCell w5 c 1 (.int .i64 held)).block _ hNlt (by simpa using hNc)).trans HN5.out
            have hNlt := Nat.lt_of_lt_of_le hNlt (grown_setCell w5 c 1 (.int .i64 held)).size
            clear HP5 HN5 e1 d1 d2 l1
            go_wp2_with fail
            (have hP := hP.drew; go_region_held3 (fun w' => w'.cell? ⟨N, 1, none⟩ = some (.int .i64 v) ∧ w'.cell? ⟨N, 2, none⟩ = some (.int .i64 x) ∧ w'.cell? ⟨N, 3, none⟩ = some (.int .i64 y)) (first | (exact ⟨cell_of_row _ _ 1 _ _ _ hN, cell_of_row _ _ 2 _ _ _ hN, cell_of_row _ _ 3 _ _ _ hN⟩) | go_keep) (first | (go_at_call 14; refine (until_p (by exact hP) hx hy).mono ?_; rintro e w7 ⟨rfl, hP7, hb7⟩; have hN := (hb7.block _ hNlt).trans hN; have hNlt := Nat.lt_of_lt_of_le hNlt hb7.size; have hP := hP7; clear hP7 hb7) | (go_at_call 19; refine (runtil_p (by exact hP)).mono ?_; rintro e w7 ⟨rfl, hP7, hb7⟩; have hN := (hb7.block _ hNlt).trans hN; have hNlt := Nat.lt_of_lt_of_le hNlt hb7.size; have hP := hP7; clear hP7 hb7) | (go_at_call 12; refine (free_p (by exact hP) hx hy).mono ?_; rintro e w7 ⟨rfl, hP7, hb7⟩; have hN := (hb7.block _ hNlt).trans hN; have hNlt := Nat.lt_of_lt_of_le hNlt hb7.size; have hP := hP7; clear hP7 hb7) | (go_at_call 20; refine (rfree_p (by exact hP)).mono ?_; rintro e w7 ⟨rfl, hP7, hb7⟩; have hN := (hb7.block _ hNlt).trans hN; have hNlt := Nat.lt_of_lt_of_le hNlt hb7.size; have hP := hP7; clear hP7 hb7)); go_wp2_with fail; go_roundw; (case rel => exact ⟨k + 1, by omega, by go_num, _, _, _, _, hP, by omega, hr'⟩); (case measure => (simp [intOf]; omega)))
        · have k2 : (kd == 2) = false := by simpa using k2
          by_cases k3 : kd = 3
          · subst k3
            go_wp2_with fail
            (generalize wr.alloc (.cells #[.int .i64 _, .int .i64 v, .int .i64 x, .int .i64 y] 41) = W0 at *; generalize wr.heap.size = N at *)
            have hNm : N ≠ m := by rintro rfl; exact hP.m_map _ _ _ hN
            have hNc : N ≠ c := by rintro rfl; obtain ⟨u, hu, _⟩ := hP.R.ex; rw [hN] at hu; simp at hu
            refine (forget_any (by exact hP.B) hx hy).mono ?_
            rintro e w5 ⟨rfl, hB5, hg5⟩
            have hN := (hg5.block _ hNlt (by simpa using hNm)).trans hN
            have hNlt := Nat.lt_of_lt_of_le hNlt hg5.size
            have l2 : w5.cell? ⟨N, 2, none⟩ = some (.int .i64 x) := cell_of_row _ _ 2 _ _ _ hN
            have l3 : w5.cell? ⟨N, 3, none⟩ = some (.int .i64 y) := cell_of_row _ _ 3 _ _ _ hN
            have hR5 := hP.R.grown hg5 hP.ne_cm (fun cs fr => hP.m_map cs _ fr)
            have HN5 := Lib.hid hN
            clear c0 c1 c2 c3
            go_wp2_with fail
            refine (rforget_any (by exact hR5) (by omega)).mono ?_
            rintro e w6 ⟨rfl, hR6, hg6⟩
            have hN := (hg6.block _ hNlt (by simpa using hNc)).trans HN5.out
            have hNlt := Nat.lt_of_lt_of_le hNlt hg6.size
            have hP := hP.forgot hB5 hg5 hR6 hg6
            clear hB5 hg5 hR6 hg6 hR5 l2 l3 HN5
            have hr' : (rDrop rows x y).length ≤ k + 1 := by have := rDrop_len rows x y; omega
            generalize rDrop rows x y = rows' at *
            generalize upd f x y 0 = f' at *
            go_wp2_with fail
            (have hP := hP.drew; go_region_held3 (fun w' => w'.cell? ⟨N, 1, none⟩ = some (.int .i64 v) ∧ w'.cell? ⟨N, 2, none⟩ = some (.int .i64 x) ∧ w'.cell? ⟨N, 3, none⟩ = some (.int .i64 y)) (first | (exact ⟨cell_of_row _ _ 1 _ _ _ hN, cell_of_row _ _ 2 _ _ _ hN, cell_of_row _ _ 3 _ _ _ hN⟩) | go_keep) (first | (go_at_call 14; refine (until_p (by exact hP) hx hy).mono ?_; rintro e w7 ⟨rfl, hP7, hb7⟩; have hN := (hb7.block _ hNlt).trans hN; have hNlt := Nat.lt_of_lt_of_le hNlt hb7.size; have hP := hP7; clear hP7 hb7) | (go_at_call 19; refine (runtil_p (by exact hP)).mono ?_; rintro e w7 ⟨rfl, hP7, hb7⟩; have hN := (hb7.block _ hNlt).trans hN; have hNlt := Nat.lt_of_lt_of_le hNlt hb7.size; have hP := hP7; clear hP7 hb7) | (go_at_call 12; refine (free_p (by exact hP) hx hy).mono ?_; rintro e w7 ⟨rfl, hP7, hb7⟩; have hN := (hb7.block _ hNlt).trans hN; have hNlt := Nat.lt_of_lt_of_le hNlt hb7.size; have hP := hP7; clear hP7 hb7) | (go_at_call 20; refine (rfree_p (by exact hP)).mono ?_; rintro e w7 ⟨rfl, hP7, hb7⟩; have hN := (hb7.block _ hNlt).trans hN; have hNlt := Nat.lt_of_lt_of_le hNlt hb7.size; have hP := hP7; clear hP7 hb7)); go_wp2_with fail; go_roundw; (case rel => exact ⟨k + 1, by omega, by go_num, _, _, _, _, hP, by omega, hr'⟩); (case measure => (simp [intOf]; omega)))
          · have k3 : (kd == 3) = false := by simpa using k3
            go_wp2_with fail
            (generalize wr.alloc (.cells #[.int .i64 _, .int .i64 v, .int .i64 x, .int .i64 y] 41) = W0 at *; generalize wr.heap.size = N at *)
            have hr' : rows.length ≤ k + 1 := by omega
            (have hP := hP.drew; go_region_held3 (fun w' => w'.cell? ⟨N, 1, none⟩ = some (.int .i64 v) ∧ w'.cell? ⟨N, 2, none⟩ = some (.int .i64 x) ∧ w'.cell? ⟨N, 3, none⟩ = some (.int .i64 y)) (first | (exact ⟨cell_of_row _ _ 1 _ _ _ hN, cell_of_row _ _ 2 _ _ _ hN, cell_of_row _ _ 3 _ _ _ hN⟩) | go_keep) (first | (go_at_call 14; refine (until_p (by exact hP) hx hy).mono ?_; rintro e w7 ⟨rfl, hP7, hb7⟩; have hN := (hb7.block _ hNlt).trans hN; have hNlt := Nat.lt_of_lt_of_le hNlt hb7.size; have hP := hP7; clear hP7 hb7) | (go_at_call 19; refine (runtil_p (by exact hP)).mono ?_; rintro e w7 ⟨rfl, hP7, hb7⟩; have hN := (hb7.block _ hNlt).trans hN; have hNlt := Nat.lt_of_lt_of_le hNlt hb7.size; have hP := hP7; clear hP7 hb7) | (go_at_call 12; refine (free_p (by exact hP) hx hy).mono ?_; rintro e w7 ⟨rfl, hP7, hb7⟩; have hN := (hb7.block _ hNlt).trans hN; have hNlt := Nat.lt_of_lt_of_le hNlt hb7.size; have hP := hP7; clear hP7 hb7) | (go_at_call 20; refine (rfree_p (by exact hP)).mono ?_; rintro e w7 ⟨rfl, hP7, hb7⟩; have hN := (hb7.block _ hNlt).trans hN; have hNlt := Nat.lt_of_lt_of_le hNlt hb7.size; have hP := hP7; clear hP7 hb7)); go_wp2_with fail; go_roundw; (case rel => exact ⟨k + 1, by omega, by go_num, _, _, _, _, hP, by omega, hr'⟩); (case measure => (simp [intOf]; omega)))
    · go_wp2_with fail
      go_ret
      exact ⟨rfl, hP.bel⟩

theorem LeasePlays_long (a : Option Addr) (len cap : Nat) (w : World) (hl : len ≤ maxLen) (h300 : 300 < len) :
    Calls Try.prog 6 #[.slice a len cap] w fun e w' => e = .returned (.bool true) ∧ Below w.heap.size w w' := by
  unfold maxLen at hl
  go_enter Try.func6, Try.ntmps6
  go_wp2_with fail
  refine (awake_any _).mono ?_
  rintro e w1 ⟨rfl, b1⟩
  go_wp2_with fail
  refine (awake_any _).mono ?_
  rintro e w2 ⟨rfl, b2⟩
  have hb2 := b1.trans (b2.mono b1.size)
  go_wp2_with fail
  go_ret
  exact ⟨rfl, hb2⟩

theorem LeasePlays_walk {H : Type} {enc : TypeId × Value → H} {base : Nat} {d : DataW H} {p : List MemPlace} (v : Value) (w : World) (hv : Value.okWide Try.prog w .any base 35 v) (ht : DataW.Trod enc Try.prog w 0 (fun _ => true) true 35 v d p) :
    Calls Try.prog 6 #[v] w fun e w' => e = .returned (.bool true) ∧ Below w.heap.size w w' := by
  obtain ⟨a, len, cap, rfl, hz⟩ := open_oprow hv ht
  by_cases h : len ≤ 300
  · exact LeasePlays_walk' a len cap w hz h
  · exact LeasePlays_long a len cap w hz.1 (by omega)


theorem LeasePlays_calls (H : Type) (enc : TypeId × Value → H) (W : World) (base : Nat) (args : Array Value) (ds gs : List (DataW H)) (before : List MemPlace)
    (hval : ∀ (j : Nat) t v, Try.f6.params[j]? = some t → args[j]? = some v → Value.okWide Try.prog W .any base t v)
    (hW : DataW.Whole enc Try.prog Try.f6.params.toList Rows.leasePlaysSpec.vars false W args.toList ds gs before) :
    Calls Try.prog 6 args W fun e W' => e = .returned (.bool true) ∧ Below W.heap.size W W' := by
  obtain ⟨p, q, hA, hV, rfl, hfz, hnd⟩ := hW
  rw [Try.params6] at hA hval
  obtain ⟨v0, vs0, d0, ds0, p0, q0, hargs, rfl, rfl, h0, r0⟩ := trodAll_cons hA
  obtain ⟨rfl, rfl, rfl⟩ := trodAll_nil r0
  obtain rfl : args = #[v0] := by cases args; simp_all

  exact LeasePlays_walk v0 W (hval 0 35 v0 rfl rfl) h0

set_option maxRecDepth 100000 in
theorem LeasePlays_lifted (os : Os) (started : os.Started) (H : Type) (enc : TypeId × Value → H) :
    ReturnsInHanded {} Try.checked os 6 .any (Rows.leasePlaysSpec.pre6 enc Try.prog Try.f6 Rows.leasePlaysRow.domain false) (Rows.leasePlaysSpec.post enc Try.prog Try.f6 false true false false) := by
  refine returnsInHanded_of_change (C := Try.checked) own started (by kernel_rfl) Try.func6
    (ChangeSpec.witness6 (enc := enc) (C := Try.checked) false ⟨#[], #[.slice none 0 0], []⟩ 8 (by kernel_rfl) (by kernel_rfl) (by kernel_rfl) (by kernel_rfl)) ?_
  intro W base args ds gs before hval0 hW hcnd _
  have hval : ∀ (j : Nat) t v, Try.f6.params[j]? = some t → args[j]? = some v → Value.okWide Try.prog W .any base t v := hval0
  refine (LeasePlays_calls H enc W base args ds gs before hval hW).mono fun e W' ⟨he, bel⟩ => ?_
  exact ⟨_, he, law_post (ts := [35]) (by rw [Try.params6]) (by intro t ht; simp only [List.mem_cons, List.not_mem_nil, or_false] at ht; subst ht <;> exact ⟨by kernel_rfl, of_decide_eq_true (by kernel_rfl)⟩) hW rfl
    (fun ds h => by match ds, h with | [_], _ => rfl) (by kernel_rfl) bel⟩

theorem LeasePlays_over : Rows.leasePlaysRow.holds Try.pinned (OpenSpec.ofChange Rows.leasePlaysSpec) :=
  OpenClaim.holds_of_wide 6 Try.f6 rfl rfl rfl rfl rfl rfl rfl ⟨rfl, rfl, rfl, rfl, rfl⟩ rfl rfl rfl rfl rfl (by kernel_rfl) Try.func6 (by kernel_rfl)
    (of_decide_eq_true (by kernel_rfl)) (by unfold Func.isWrapper; first | (rw [if_pos (by decide +kernel)]; kernel_rfl) | (rw [if_neg (by decide +kernel)]; exact ⟨rfl, rfl⟩))
    (fun os started H enc _ => LeasePlays_lifted os started H enc)

/-- The statement. -/
theorem LeasePlays_proved : Rows.LeasePlaysSaid := LeasePlays_over

end Go.Proofs.Ytmnlcmnipkjelaa
