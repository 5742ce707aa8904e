/- Join. -/
import Derived.Test.YtofdmdpnobhnlaaCfgWithout
import Derived.Deep.RegionLaw
namespace Go.Proofs.Ytofdmdpnobhnlaa
open Go.RowKit Go.ChangeShapes Go.WideShapes Go.Joins
set_option linter.unusedVariables false

theorem news_below {w0 w : World} {B : Nat} {cs : Array Value} {t : TypeId} {fr : Nat × Nat} (hb : w0.heap[B]? = some (.cells cs t fr)) (h : Below w0.heap.size w0 w) : ∀ j u, cs.toList[j]? = some u → w.cell? ((⟨B, 0, none⟩ : Addr).add j) = some u :=
  World.news_of_block ((h.block B (Array.getElem?_eq_some_iff.1 hb).1).trans hb)
theorem own_base' {w : World} {base base' : Nat} {e : TypeId} {size : Nat} {v : Value} {n : Nat} {xs : List Value} (h : w.ownsRow base e size v n xs) (hb : base' ≤ base) : w.ownsRow base' e size v n xs := by
  refine ⟨h.1, ?_⟩
  rcases h.2 with h0 | ⟨g, cap, cur, hv, hg, r⟩
  · exact .inl h0
  · exact .inr ⟨g, cap, cur, hv, Nat.le_trans hb hg, r⟩
theorem seatsOk_all {L : List SeatV} {n l : Int} {b : Bool} (h : ∀ s ∈ L, SeatOk s) (hn : W64 n) (hl : W64 l) : ∀ s ∈ L ++ [⟨n, l, b⟩], SeatOk s := by
  intro s hs
  rcases List.mem_append.1 hs with hs | hs
  · exact h s hs
  · obtain rfl : s = ⟨n, l, b⟩ := by simpa using hs
    exact ⟨hn, hl⟩

set_option maxRecDepth 100000 in
set_option maxHeartbeats 4000000 in
theorem cjoin_any {w : World} {v : Value} {L : List SeatV} (hv : ChainAt w v L) (e n l : Int) (hn : W64 n) (hl : W64 l) :
    Calls Try.prog 14 #[.agg #[.int .i64 e, v], .agg #[.int .i64 n, .int .i64 l]] w fun en w' => ConfRes w w' en (joinC ⟨e, L⟩ n l).1 (.int .i64 (joinC ⟨e, L⟩ n l).2) := by
  obtain ⟨i0, hi0, hz0, hz1, hz2⟩ := info_parts seat_full
  obtain ⟨a, cap, rfl, hs⟩ := hv
  have hLok := hs.2.1
  have hv0 : ChainAt w (.slice a L.length cap) L := ⟨a, cap, rfl, hs⟩
  have hlen := hs.1
  unfold maxLen at hlen
  go_enter Try.func14, Try.ntmps14
  go_upto_region 1 with (fail)
  have hC : BlkAt (((w.alloc (.cells #[.int .i64 e, .slice a L.length cap] 24)).alloc (.cells #[.int .i64 n, .int .i64 l] 27)).alloc (.cells #[.int .i64 0, .slice none 0 0] 24)) w.heap.size 24 [.int .i64 e, .slice a L.length cap] := ((BlkAt.new w 24 [.int .i64 e, .slice a L.length cap]).alloc _).alloc _
  have hM : BlkAt (((w.alloc (.cells #[.int .i64 e, .slice a L.length cap] 24)).alloc (.cells #[.int .i64 n, .int .i64 l] 27)).alloc (.cells #[.int .i64 0, .slice none 0 0] 24)) (w.heap.size + 1) 27 [.int .i64 n, .int .i64 l] := (BlkAt.newAt (by simp) 27 [.int .i64 n, .int .i64 l]).alloc _
  have hD : BlkAt (((w.alloc (.cells #[.int .i64 e, .slice a L.length cap] 24)).alloc (.cells #[.int .i64 n, .int .i64 l] 27)).alloc (.cells #[.int .i64 0, .slice none 0 0] 24)) (w.heap.size + 2) 24 [.int .i64 0, .slice none 0 0] := BlkAt.newAt (by simp) 24 [.int .i64 0, .slice none 0 0]
  have hb : Below w.heap.size w (((w.alloc (.cells #[.int .i64 e, .slice a L.length cap] 24)).alloc (.cells #[.int .i64 n, .int .i64 l] 27)).alloc (.cells #[.int .i64 0, .slice none 0 0] 24)) := (((Below.refl w.heap.size w).alloc (Nat.le_refl _) _).alloc (by simp) _).alloc (by simp; omega) _
  have hWs : w.heap.size + 3 ≤ (((w.alloc (.cells #[.int .i64 e, .slice a L.length cap] 24)).alloc (.cells #[.int .i64 n, .int .i64 l] 27)).alloc (.cells #[.int .i64 0, .slice none 0 0] 24)).heap.size := by simp
  have hv := hv0.below hb
  change Code.wp _ _ _ _ (((w.alloc (.cells #[.int .i64 e, .slice a L.length cap] 24)).alloc (.cells #[.int .i64 n, .int .i64 l] 27)).alloc (.cells #[.int .i64 0, .slice none 0 0] 24))
  generalize ((w.alloc (.cells #[.int .i64 e, .slice a L.length cap] 24)).alloc (.cells #[.int .i64 n, .int .i64 l] 27)).alloc (.cells #[.int .i64 0, .slice none 0 0] 24) = W at *
  have hDn : w.heap.size ≤ w.heap.size + 2 := by omega
  have hDb : w.heap.size + 2 < w.heap.size + 3 := by omega
  generalize hDd : w.heap.size + 2 = D at *
  generalize hMd : w.heap.size + 1 = M at *
  clear hs hv0
  have c0 : W.cell? ⟨w.heap.size, 0, none⟩ = some (.int .i64 e) := hC.cell rfl
  have c1 : W.cell? ⟨w.heap.size, 1, none⟩ = some (.slice a L.length cap) := hC.cell rfl
  go_wp2_with fail
  refine (cright_any (by exact hv) e).mono ?_
  rintro en w2 ⟨rfl, b2⟩
  have hC := hC.below b2
  have hM := hM.below b2
  have hD := hD.below b2
  have hv := hv.below b2
  have hWs : w.heap.size + 3 ≤ w2.heap.size := by have := b2.size; omega
  have hb := below_step hb b2
  clear b2
  clear c0 c1
  cases hr : rightC ⟨e, L⟩ with
  | false =>
    have HE := Lib.hid (show joinC ⟨e, L⟩ n l = (⟨0, []⟩, 3) by rw [joinC, if_pos hr])
    clear hr
    have d0 : w2.cell? ⟨D, 0, none⟩ = some (.int .i64 0) := hD.cell rfl
    have d1 : w2.cell? ⟨D, 1, none⟩ = some (.slice none 0 0) := hD.cell rfl
    have hf := hD.free
    go_wp2_with fail
    obtain ⟨hE, hbE⟩ := fin2 (p := .int .i64 0) (q := .slice none 0 0) hD hb hDn
    change bodyPost _ _ _ _ _ ((w2.setCell ⟨D, 0, none⟩ (.int .i64 0)).setCell ⟨D, 1, none⟩ (.slice none 0 0))
    generalize (w2.setCell ⟨D, 0, none⟩ (.int .i64 0)).setCell ⟨D, 1, none⟩ (.slice none 0 0) = W9 at *
    clear d0 d1
    have d0 := hE.cell (i := 0) rfl
    have d1 := hE.cell (i := 1) rfl
    exact bodyPost_ret (v := .tuple #[.agg #[.int .i64 0, .slice none 0 0], .int .i64 3]) (by simp [results, Try.results14, go_sem, d0, d1] <;> rfl) rfl ⟨.slice none 0 0, by rw [HE.out], by rw [HE.out]; exact ChainAt.nil _, hbE⟩
  | true =>
    have hri := rightC_iff.1 hr
    have he1 : 1 ≤ e := hri.1
    have he2 : e ≤ 1099511627776 := hri.2.1
    have hl1 : 1 ≤ L.length := hri.2.2.1
    have hl8 : L.length ≤ 8 := hri.2.2.2.1
    have HR := Lib.hid hr
    have m0 : w2.cell? ⟨M, 0, none⟩ = some (.int .i64 n) := hM.cell rfl
    have m1 : w2.cell? ⟨M, 1, none⟩ = some (.int .i64 l) := hM.cell rfl
    clear hr hri
    go_wp2_with fail
    refine (cmay_any n l _).mono ?_
    rintro en w3 ⟨rfl, b2⟩
    have hC := hC.below b2
    have hM := hM.below b2
    have hD := hD.below b2
    have hv := hv.below b2
    have hWs : w.heap.size + 3 ≤ w3.heap.size := by have := b2.size; omega
    have hb := below_step hb b2
    clear b2
    clear m0 m1
    cases hm : mayM n l with
    | false =>
      have HE := Lib.hid (show joinC ⟨e, L⟩ n l = (⟨0, []⟩, 1) by rw [joinC, if_neg (by rw [HR.out]; simp), if_pos hm])
      clear hm
      have d0 : w3.cell? ⟨D, 0, none⟩ = some (.int .i64 0) := hD.cell rfl
      have d1 : w3.cell? ⟨D, 1, none⟩ = some (.slice none 0 0) := hD.cell rfl
      have hf := hD.free
      go_wp2_with fail
      obtain ⟨hE, hbE⟩ := fin2 (p := .int .i64 0) (q := .slice none 0 0) hD hb hDn
      change bodyPost _ _ _ _ _ ((w3.setCell ⟨D, 0, none⟩ (.int .i64 0)).setCell ⟨D, 1, none⟩ (.slice none 0 0))
      generalize (w3.setCell ⟨D, 0, none⟩ (.int .i64 0)).setCell ⟨D, 1, none⟩ (.slice none 0 0) = W9 at *
      clear d0 d1
      have d0 := hE.cell (i := 0) rfl
      have d1 := hE.cell (i := 1) rfl
      exact bodyPost_ret (v := .tuple #[.agg #[.int .i64 0, .slice none 0 0], .int .i64 1]) (by simp [results, Try.results14, go_sem, d0, d1] <;> rfl) rfl ⟨.slice none 0 0, by rw [HE.out], by rw [HE.out]; exact ChainAt.nil _, hbE⟩
    | true =>
      have HM := Lib.hid hm
      clear hm
      have c1 : w3.cell? ⟨w.heap.size, 1, none⟩ = some (.slice a L.length cap) := hC.cell rfl
      go_wp2_with fail
      refine (contfunc_any (fun s => s.node == n) 46 #[.pointer (some ⟨M, 0, none⟩)] (fun _ _ => rfl) (by exact hv) (fun W' x y b _ _ hb' => (join1_any (hM.below hb') x y b).mono fun _ _ ⟨h, g⟩ => ⟨h, hb'.trans (g.mono hb'.size)⟩)).mono ?_
      rintro en w4 ⟨rfl, b2⟩
      have hC := hC.below b2
      have hM := hM.below b2
      have hD := hD.below b2
      have hv := hv.below b2
      have hWs : w.heap.size + 3 ≤ w4.heap.size := by have := b2.size; omega
      have hb := below_step hb b2
      clear b2
      clear c1
      cases hq : L.any (fun s => s.node == n) with
      | true =>
        have HE := Lib.hid (show joinC ⟨e, L⟩ n l = (⟨0, []⟩, 11) by rw [joinC, if_neg (by rw [HR.out]; simp), if_neg (by rw [HM.out]; simp), if_pos hq])
        clear hq
        have d0 : w4.cell? ⟨D, 0, none⟩ = some (.int .i64 0) := hD.cell rfl
        have d1 : w4.cell? ⟨D, 1, none⟩ = some (.slice none 0 0) := hD.cell rfl
        have hf := hD.free
        go_wp2_with fail
        obtain ⟨hE, hbE⟩ := fin2 (p := .int .i64 0) (q := .slice none 0 0) hD hb hDn
        change bodyPost _ _ _ _ _ ((w4.setCell ⟨D, 0, none⟩ (.int .i64 0)).setCell ⟨D, 1, none⟩ (.slice none 0 0))
        generalize (w4.setCell ⟨D, 0, none⟩ (.int .i64 0)).setCell ⟨D, 1, none⟩ (.slice none 0 0) = W9 at *
        clear d0 d1
        have d0 := hE.cell (i := 0) rfl
        have d1 := hE.cell (i := 1) rfl
        exact bodyPost_ret (v := .tuple #[.agg #[.int .i64 0, .slice none 0 0], .int .i64 11]) (by simp [results, Try.results14, go_sem, d0, d1] <;> rfl) rfl ⟨.slice none 0 0, by rw [HE.out], by rw [HE.out]; exact ChainAt.nil _, hbE⟩
      | false =>
        have HW := Lib.hid (show joinC ⟨e, L⟩ n l = laterC e (L ++ [⟨n, l, false⟩]) by rw [joinC, if_neg (by rw [HR.out]; simp), if_neg (by rw [HM.out]; simp), if_neg (by rw [hq]; simp)])
        clear hq
        have k1 : w4.drew.cell? ⟨w.heap.size, 1, none⟩ = some (.slice a L.length cap) := hC.drew.cell rfl
        have k2 : (w4.alloc (.cells #[.int .i64 n, .int .i64 l, .bool false] 50)).cell? ⟨w.heap.size, 1, none⟩ = some (.slice a L.length cap) := (hC.alloc _).cell rfl
        have k3 : w4.cell? ⟨w.heap.size, 1, none⟩ = some (.slice a L.length cap) := hC.cell rfl
        have m4 : w4.cell? ⟨M, 0, none⟩ = some (.int .i64 n) := hM.cell rfl
        have m5 : w4.cell? ⟨M, 1, none⟩ = some (.int .i64 l) := hM.cell rfl
        have m2 : w4.drew.cell? ⟨M, 0, none⟩ = some (.int .i64 n) := hM.drew.cell rfl
        have m3 : w4.drew.cell? ⟨M, 1, none⟩ = some (.int .i64 l) := hM.drew.cell rfl
        by_cases h2 : 1099511627776 ≤ e
        · have HE := Lib.hid (show joinC ⟨e, L⟩ n l = (⟨0, []⟩, 5) by rw [HW.out, laterC, if_pos h2])
          clear HW
          go_wp2_with fail
          go_region_law (first
            | (refine step_append_lies _ (by rfl) _ _ _ (by rfl) (w.heap.size + 3) 50 i0 _ 3 24 Try.underlying22 hi0 hz0 hz1 hz2 rfl (by omega) _ _ _ (by rfl) (hown6.alloc _) ⟨w6.heap.size, 0, none⟩ 1 1 (seatCells ⟨n, l, false⟩) (by rfl) (by rfl) (World.news_of_block (heap_alloc_new _ _)) seatCells_one (by omega) (by unfold maxLen; omega) (by omega) (by simp; omega) _ rfl ?_; intro g7 cap7 w7 hown7 hg7 hat7 hlt7; have hX := hD6.alloc (.cells (seatCells ⟨n, l, false⟩).toArray 50); have hY := hC6.alloc (.cells (seatCells ⟨n, l, false⟩).toArray 50); have hD7 : BlkAt w7 D 24 [.int .i64 0, .slice none 0 0] := (hg7.block _ hX.lt (own_ne hown6 (by omega))).trans hX; have hC7 : BlkAt w7 w.heap.size 24 [.int .i64 e, .slice a L.length cap] := (hg7.block _ hY.lt (own_ne hown6 (by omega))).trans hY; have hb7 : Below w.heap.size w w7 := (hb6.alloc hb6.size _).grown hg7 (by have := hb6.size; simp; omega) (fun j hj => by have := (hown6.lt j hj).1; omega))
            | (refine step_append_lies _ (by rfl) _ _ _ (by rfl) (w.heap.size + 3) 50 i0 _ 3 24 Try.underlying22 hi0 hz0 hz1 hz2 rfl (by omega) _ _ _ (by rfl) hown6 ⟨w4.heap.size, 0, none⟩ 1 1 (seatCells ⟨n, l, false⟩) (by rfl) (by rfl) (news_below (w0 := (w4.alloc (.cells (seatCells ⟨n, l, false⟩).toArray 50)).drew) (heap_alloc_new w4 _) b6) seatCells_one (by omega) (by unfold maxLen; omega) (by omega) hsz6 _ rfl ?_; intro g7 cap7 w7 hown7 hg7 hat7 hlt7; have hD7 : BlkAt w7 D 24 [.int .i64 0, .slice none 0 0] := (hg7.block _ hD6.lt (own_ne hown6 (by omega))).trans hD6; have hC7 : BlkAt w7 w.heap.size 24 [.int .i64 e, .slice a L.length cap] := (hg7.block _ hC6.lt (own_ne hown6 (by omega))).trans hC6; have hb7 : Below w.heap.size w w7 := hb6.grown hg7 hb6.size (fun j hj => by have := (hown6.lt j hj).1; omega))
            | (go_simp; go_at_call 47; refine (clone_any (by exact hv.drew) (by omega) (by omega)).mono ?_; rintro en w6 ⟨g6, cap6, rfl, hown6', b6⟩; have hsz5 : w.heap.size + 3 ≤ (w4.drew).heap.size := (by first | exact hWs | (simp; omega)); have hown6 := own_base' hown6' hsz5; have hsz6 := Nat.le_trans hsz5 b6.size; have hD6 := (hD.drew).below b6; have hC6 := (hC.drew).below b6; have hM6 := (hM.drew).below b6; have hb6 : Below w.heap.size w w6 := below_step (by exact hb.drew) b6; have m0 : w6.cell? ⟨M, 0, none⟩ = some (.int .i64 n) := hM6.cell rfl; have m1 : w6.cell? ⟨M, 1, none⟩ = some (.int .i64 l) := hM6.cell rfl)
            | (go_simp; go_at_call 47; refine (clone_any (by exact (hv.alloc (.cells (seatCells ⟨n, l, false⟩).toArray 50)).drew) (by omega) (by omega)).mono ?_; rintro en w6 ⟨g6, cap6, rfl, hown6', b6⟩; have hsz5 : w.heap.size + 3 ≤ ((w4.alloc (.cells (seatCells ⟨n, l, false⟩).toArray 50)).drew).heap.size := (by first | exact hWs | (simp; omega)); have hown6 := own_base' hown6' hsz5; have hsz6 := Nat.le_trans hsz5 b6.size; have hD6 := ((hD.alloc (.cells (seatCells ⟨n, l, false⟩).toArray 50)).drew).below b6; have hC6 := ((hC.alloc (.cells (seatCells ⟨n, l, false⟩).toArray 50)).drew).below b6; have hM6 := ((hM.alloc (.cells (seatCells ⟨n, l, false⟩).toArray 50)).drew).below b6; have hb6 : Below w.heap.size w w6 := below_step (by exact (hb.alloc hb.size (.cells (seatCells ⟨n, l, false⟩).toArray 50)).drew) b6; have m0 : w6.cell? ⟨M, 0, none⟩ = some (.int .i64 n) := hM6.cell rfl; have m1 : w6.cell? ⟨M, 1, none⟩ = some (.int .i64 l) := hM6.cell rfl)
            | (go_simp; go_at_call 43; refine (later_full (by exact hC7) h2).mono ?_; rintro en w8 ⟨rfl, b8⟩; have hD8 := hD7.below b8; have hown8 := own_below hown7 b8; have hb8 := below_step hb7 b8; have d0 : w8.cell? ⟨D, 0, none⟩ = some (.int .i64 0) := hD8.cell rfl; have d1 : w8.cell? ⟨D, 1, none⟩ = some (.slice none 0 0) := hD8.cell rfl; have hf := hD8.free))
          all_goals
            have hD := hD8
            have hb := hb8
            clear hown8 hown7 hown6 hb7 hb6 hD7 hC7 hD6 hC6 hM6 k1 k2 k3 m2 m3 m4 m5
            go_wp2_with fail
            obtain ⟨hE, hbE⟩ := fin2 (p := .int .i64 0) (q := .slice none 0 0) hD hb hDn
            change bodyPost _ _ _ _ _ ((w8.setCell ⟨D, 0, none⟩ (.int .i64 0)).setCell ⟨D, 1, none⟩ (.slice none 0 0))
            generalize (w8.setCell ⟨D, 0, none⟩ (.int .i64 0)).setCell ⟨D, 1, none⟩ (.slice none 0 0) = W9 at *
            clear d0 d1
            have d0 := hE.cell (i := 0) rfl
            have d1 := hE.cell (i := 1) rfl
            exact bodyPost_ret (v := .tuple #[.agg #[.int .i64 0, .slice none 0 0], .int .i64 5]) (by simp [results, Try.results14, go_sem, d0, d1] <;> rfl) rfl ⟨.slice none 0 0, by rw [HE.out], by rw [HE.out]; exact ChainAt.nil _, hbE⟩
        · have HE := Lib.hid (show joinC ⟨e, L⟩ n l = (⟨e + 1, L ++ [⟨n, l, false⟩]⟩, 0) by rw [HW.out, laterC, if_neg h2])
          clear HW
          go_wp2_with fail
          go_region_law (first
            | (refine step_append_lies _ (by rfl) _ _ _ (by rfl) (w.heap.size + 3) 50 i0 _ 3 24 Try.underlying22 hi0 hz0 hz1 hz2 rfl (by omega) _ _ _ (by rfl) (hown6.alloc _) ⟨w6.heap.size, 0, none⟩ 1 1 (seatCells ⟨n, l, false⟩) (by rfl) (by rfl) (World.news_of_block (heap_alloc_new _ _)) seatCells_one (by omega) (by unfold maxLen; omega) (by omega) (by simp; omega) _ rfl ?_; intro g7 cap7 w7 hown7 hg7 hat7 hlt7; have hX := hD6.alloc (.cells (seatCells ⟨n, l, false⟩).toArray 50); have hY := hC6.alloc (.cells (seatCells ⟨n, l, false⟩).toArray 50); have hD7 : BlkAt w7 D 24 [.int .i64 0, .slice none 0 0] := (hg7.block _ hX.lt (own_ne hown6 (by omega))).trans hX; have hC7 : BlkAt w7 w.heap.size 24 [.int .i64 e, .slice a L.length cap] := (hg7.block _ hY.lt (own_ne hown6 (by omega))).trans hY; have hb7 : Below w.heap.size w w7 := (hb6.alloc hb6.size _).grown hg7 (by have := hb6.size; simp; omega) (fun j hj => by have := (hown6.lt j hj).1; omega))
            | (refine step_append_lies _ (by rfl) _ _ _ (by rfl) (w.heap.size + 3) 50 i0 _ 3 24 Try.underlying22 hi0 hz0 hz1 hz2 rfl (by omega) _ _ _ (by rfl) hown6 ⟨w4.heap.size, 0, none⟩ 1 1 (seatCells ⟨n, l, false⟩) (by rfl) (by rfl) (news_below (w0 := (w4.alloc (.cells (seatCells ⟨n, l, false⟩).toArray 50)).drew) (heap_alloc_new w4 _) b6) seatCells_one (by omega) (by unfold maxLen; omega) (by omega) hsz6 _ rfl ?_; intro g7 cap7 w7 hown7 hg7 hat7 hlt7; have hD7 : BlkAt w7 D 24 [.int .i64 0, .slice none 0 0] := (hg7.block _ hD6.lt (own_ne hown6 (by omega))).trans hD6; have hC7 : BlkAt w7 w.heap.size 24 [.int .i64 e, .slice a L.length cap] := (hg7.block _ hC6.lt (own_ne hown6 (by omega))).trans hC6; have hb7 : Below w.heap.size w w7 := hb6.grown hg7 hb6.size (fun j hj => by have := (hown6.lt j hj).1; omega))
            | (go_simp; go_at_call 47; refine (clone_any (by exact hv.drew) (by omega) (by omega)).mono ?_; rintro en w6 ⟨g6, cap6, rfl, hown6', b6⟩; have hsz5 : w.heap.size + 3 ≤ (w4.drew).heap.size := (by first | exact hWs | (simp; omega)); have hown6 := own_base' hown6' hsz5; have hsz6 := Nat.le_trans hsz5 b6.size; have hD6 := (hD.drew).below b6; have hC6 := (hC.drew).below b6; have hM6 := (hM.drew).below b6; have hb6 : Below w.heap.size w w6 := below_step (by exact hb.drew) b6; have m0 : w6.cell? ⟨M, 0, none⟩ = some (.int .i64 n) := hM6.cell rfl; have m1 : w6.cell? ⟨M, 1, none⟩ = some (.int .i64 l) := hM6.cell rfl)
            | (go_simp; go_at_call 47; refine (clone_any (by exact (hv.alloc (.cells (seatCells ⟨n, l, false⟩).toArray 50)).drew) (by omega) (by omega)).mono ?_; rintro en w6 ⟨g6, cap6, rfl, hown6', b6⟩; have hsz5 : w.heap.size + 3 ≤ ((w4.alloc (.cells (seatCells ⟨n, l, false⟩).toArray 50)).drew).heap.size := (by first | exact hWs | (simp; omega)); have hown6 := own_base' hown6' hsz5; have hsz6 := Nat.le_trans hsz5 b6.size; have hD6 := ((hD.alloc (.cells (seatCells ⟨n, l, false⟩).toArray 50)).drew).below b6; have hC6 := ((hC.alloc (.cells (seatCells ⟨n, l, false⟩).toArray 50)).drew).below b6; have hM6 := ((hM.alloc (.cells (seatCells ⟨n, l, false⟩).toArray 50)).drew).below b6; have hb6 : Below w.heap.size w w6 := below_step (by exact (hb.alloc hb.size (.cells (seatCells ⟨n, l, false⟩).toArray 50)).drew) b6; have m0 : w6.cell? ⟨M, 0, none⟩ = some (.int .i64 n) := hM6.cell rfl; have m1 : w6.cell? ⟨M, 1, none⟩ = some (.int .i64 l) := hM6.cell rfl)
            | (go_simp; go_at_call 43; refine (later_ok (by exact hC7) (by omega) (by omega)).mono ?_; rintro en w8 ⟨rfl, b8⟩; have hD8 := hD7.below b8; have hown8 := own_below hown7 b8; have hb8 := below_step hb7 b8; have d0 : w8.cell? ⟨D, 0, none⟩ = some (.int .i64 0) := hD8.cell rfl; have d1 : w8.cell? ⟨D, 1, none⟩ = some (.slice none 0 0) := hD8.cell rfl; have hf := hD8.free))
          all_goals
            have hD := hD8
            have hb := hb8
            clear hown7 hown6 hb7 hb6 hD7 hC7 hD6 hC6 hM6 k1 k2 k3 m2 m3 m4 m5
            have hoE := own_set (D := D) (i := 1) (u := .slice (some ⟨g7, 0, none⟩) (L.length + 1) cap7) (own_set (D := D) (i := 0) (u := .int .i64 (e + 1)) hown8 (by omega)) (by omega)
            go_wp2_with fail
            obtain ⟨hE, hbE⟩ := fin2 (p := .int .i64 (e + 1)) (q := .slice (some ⟨g7, 0, none⟩) (L.length + 1) cap7) hD hb hDn
            change bodyPost _ _ _ _ _ ((w8.setCell ⟨D, 0, none⟩ (.int .i64 (e + 1))).setCell ⟨D, 1, none⟩ (.slice (some ⟨g7, 0, none⟩) (L.length + 1) cap7))
            generalize (w8.setCell ⟨D, 0, none⟩ (.int .i64 (e + 1))).setCell ⟨D, 1, none⟩ (.slice (some ⟨g7, 0, none⟩) (L.length + 1) cap7) = W9 at *
            clear d0 d1
            have d0 := hE.cell (i := 0) rfl
            have d1 := hE.cell (i := 1) rfl
            exact bodyPost_ret (v := .tuple #[.agg #[.int .i64 (e + 1), .slice (some ⟨g7, 0, none⟩) (L.length + 1) cap7], .int .i64 0]) (by simp [results, Try.results14, go_sem, d0, d1] <;> rfl) rfl ⟨_, by rw [HE.out], by rw [HE.out]; exact chain_of_own (by rw [List.length_append, seatsCells_append]; exact hoE) (seatsOk_all hLok hn hl), hbE⟩

end Go.Proofs.Ytofdmdpnobhnlaa
