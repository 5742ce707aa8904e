/- The document's Join. -/
import Derived.Test.YtofdmdpnobhnlaaCfgQWithout
namespace Go.Proofs.Ytofdmdpnobhnlaa
open Go.RowKit Go.ChangeShapes Go.WideShapes Go.Joins
set_option linter.unusedVariables false
theorem any_false {p : SeatV → Bool} {L : List SeatV} (h : ∀ j t, j < L.length → L[j]? = some t → p t = false) : L.any p = false := by
  rw [List.any_eq_false]
  intro t ht
  obtain ⟨j, hj⟩ := List.getElem?_of_mem ht
  simp [h j t (List.getElem?_eq_some_iff.1 hj).1 hj]
theorem any_true {p : SeatV → Bool} {L : List SeatV} {k : Nat} {t : SeatV} (h : L[k]? = some t) (hp : p t = true) : L.any p = true :=
  List.any_eq_true.2 ⟨t, List.mem_of_getElem? h, hp⟩
theorem own_drewN {w : World} {base : Nat} {e : TypeId} {size : Nat} {v : Value} {n : Nat} {xs : List Value} (h : w.ownsRow base e size v n xs) (m : Nat) : (w.drewN m).ownsRow base e size v n xs := h
theorem take_snoc_len {L : List SeatV} {k : Nat} (h : k ≤ L.length) : (L.take k).length = k := by rw [List.length_take]; omega

set_option maxRecDepth 100000 in
set_option maxHeartbeats 4000000 in

theorem qcjoin_any {w : World} {v : Value} {L : List SeatV} (hv : ChainAt w v L) (e n l : Int) (hn : W64 n) (hl : W64 l) :
    Calls Try.prog 15 #[.agg #[.int .i64 e, v], .agg #[.int .i64 n, .int .i64 l]] w fun en w' => ConfRes w w' en (joinC ⟨e, L⟩ n l).1 (.int .i64 (joinC ⟨e, L⟩ n l).2) := by
  obtain ⟨i0, hi0, hz0, hz1, hz2⟩ := info_parts seat_full
  obtain ⟨a, cap, rfl, hs⟩ := hv
  have hv : ChainAt w (.slice a L.length cap) L := ⟨a, cap, rfl, hs⟩
  have hLok := hs.2.1
  have hlen := hs.1
  unfold maxLen at hlen
  go_enter Try.func15, Try.ntmps15
  go_upto_region 1 with (fail)
  have hC : BlkAt (((w.alloc (.cells #[.int .i64 e, .slice a L.length cap] 24)).alloc (.cells #[.int .i64 n, .int .i64 l] 27)).alloc (.cells #[.int .i64 0, .slice none 0 0] 24)) w.heap.size 24 [.int .i64 e, .slice a L.length cap] := ((BlkAt.new w 24 [.int .i64 e, .slice a L.length cap]).alloc _).alloc _
  have hM : BlkAt (((w.alloc (.cells #[.int .i64 e, .slice a L.length cap] 24)).alloc (.cells #[.int .i64 n, .int .i64 l] 27)).alloc (.cells #[.int .i64 0, .slice none 0 0] 24)) (w.heap.size + 1) 27 [.int .i64 n, .int .i64 l] := (BlkAt.newAt (by simp) 27 [.int .i64 n, .int .i64 l]).alloc _
  have hD : BlkAt (((w.alloc (.cells #[.int .i64 e, .slice a L.length cap] 24)).alloc (.cells #[.int .i64 n, .int .i64 l] 27)).alloc (.cells #[.int .i64 0, .slice none 0 0] 24)) (w.heap.size + 2) 24 [.int .i64 0, .slice none 0 0] := BlkAt.newAt (by simp) 24 [.int .i64 0, .slice none 0 0]
  have hb : Below w.heap.size w (((w.alloc (.cells #[.int .i64 e, .slice a L.length cap] 24)).alloc (.cells #[.int .i64 n, .int .i64 l] 27)).alloc (.cells #[.int .i64 0, .slice none 0 0] 24)) := (((Below.refl w.heap.size w).alloc (Nat.le_refl _) _).alloc (by simp) _).alloc (by simp; omega) _
  have hWs : w.heap.size + 3 ≤ (((w.alloc (.cells #[.int .i64 e, .slice a L.length cap] 24)).alloc (.cells #[.int .i64 n, .int .i64 l] 27)).alloc (.cells #[.int .i64 0, .slice none 0 0] 24)).heap.size := by simp
  change Code.wp _ _ _ _ (((w.alloc (.cells #[.int .i64 e, .slice a L.length cap] 24)).alloc (.cells #[.int .i64 n, .int .i64 l] 27)).alloc (.cells #[.int .i64 0, .slice none 0 0] 24))
  generalize ((w.alloc (.cells #[.int .i64 e, .slice a L.length cap] 24)).alloc (.cells #[.int .i64 n, .int .i64 l] 27)).alloc (.cells #[.int .i64 0, .slice none 0 0] 24) = W at *
  have hMn : w.heap.size ≤ w.heap.size + 1 := by omega
  have hMb : w.heap.size + 1 < w.heap.size + 3 := by omega
  have hM0 : w.heap.size + 1 ≠ w.heap.size := by omega
  have hDn : w.heap.size ≤ w.heap.size + 2 := by omega
  have hDb : w.heap.size + 2 < w.heap.size + 3 := by omega
  have hD0 : w.heap.size + 2 ≠ w.heap.size := by omega
  have hD1 : w.heap.size + 2 ≠ w.heap.size + 1 := by omega
  generalize hDd : w.heap.size + 2 = D at *
  generalize hMd : w.heap.size + 1 = M at *
  have hvW := hv.below hb
  have c0 : W.cell? ⟨w.heap.size, 0, none⟩ = some (.int .i64 e) := hC.cell rfl
  have c1 : W.cell? ⟨w.heap.size, 1, none⟩ = some (.slice a L.length cap) := hC.cell rfl
  go_wp2_with fail
  refine (qcright_any (by exact hvW) e).mono ?_
  rintro en w2 ⟨rfl, b2⟩
  have hC := hC.below b2
  have hD := hD.below b2
  have hM := hM.below b2
  have hWs : w.heap.size + 3 ≤ w2.heap.size := by have := b2.size; omega
  have hb := below_step hb b2
  clear b2
  clear c0 c1 hvW
  cases hr : rightC ⟨e, L⟩ with
  | false =>
    have HE := Lib.hid (show joinC ⟨e, L⟩ n l = (⟨0, []⟩, 3) by rw [joinC, if_pos hr])
    clear hr
    have d0 : w2.cell? ⟨D, 0, none⟩ = some (.int .i64 0) := hD.cell rfl
    have d1 : w2.cell? ⟨D, 1, none⟩ = some (.slice none 0 0) := hD.cell rfl
    have hf := hD.free
    go_wp2_with fail
    obtain ⟨hE, hbE⟩ := fin2 (p := .int .i64 0) (q := .slice none 0 0) hD hb hDn
    change bodyPost _ _ _ _ _ ((w2.setCell ⟨D, 0, none⟩ (.int .i64 0)).setCell ⟨D, 1, none⟩ (.slice none 0 0))
    generalize (w2.setCell ⟨D, 0, none⟩ (.int .i64 0)).setCell ⟨D, 1, none⟩ (.slice none 0 0) = W9 at *
    clear d0 d1
    have d0 := hE.cell (i := 0) rfl
    have d1 := hE.cell (i := 1) rfl
    exact bodyPost_ret (v := .tuple #[.agg #[.int .i64 0, .slice none 0 0], .int .i64 3]) (by simp [results, Try.results15, go_sem, d0, d1] <;> rfl) rfl ⟨.slice none 0 0, by rw [HE.out], by rw [HE.out]; exact ChainAt.nil _, hbE⟩
  | true =>
    have hri := rightC_iff.1 hr
    have he1 : 1 ≤ e := hri.1
    have he2 : e ≤ 1099511627776 := hri.2.1
    have hl8 : L.length ≤ 8 := hri.2.2.2.1
    have HR := Lib.hid hr
    clear hr hri
    have m0 : w2.cell? ⟨M, 0, none⟩ = some (.int .i64 n) := hM.cell rfl
    have m1 : w2.cell? ⟨M, 1, none⟩ = some (.int .i64 l) := hM.cell rfl
    go_wp2_with fail
    refine (qcmay_any n l _).mono ?_
    rintro en w3 ⟨rfl, b3⟩
    have hC := hC.below b3
    have hD := hD.below b3
    have hM := hM.below b3
    have hWs : w.heap.size + 3 ≤ w3.heap.size := by have := b3.size; omega
    have hb := below_step hb b3
    clear b3
    clear m0 m1
    cases hm : mayM n l with
    | false =>
      have HE := Lib.hid (show joinC ⟨e, L⟩ n l = (⟨0, []⟩, 1) by rw [joinC, if_neg (by rw [HR.out]; simp), if_pos hm])
      clear hm
      have d0 : w3.cell? ⟨D, 0, none⟩ = some (.int .i64 0) := hD.cell rfl
      have d1 : w3.cell? ⟨D, 1, none⟩ = some (.slice none 0 0) := hD.cell rfl
      have hf := hD.free
      go_wp2_with fail
      obtain ⟨hE, hbE⟩ := fin2 (p := .int .i64 0) (q := .slice none 0 0) hD hb hDn
      change bodyPost _ _ _ _ _ ((w3.setCell ⟨D, 0, none⟩ (.int .i64 0)).setCell ⟨D, 1, none⟩ (.slice none 0 0))
      generalize (w3.setCell ⟨D, 0, none⟩ (.int .i64 0)).setCell ⟨D, 1, none⟩ (.slice none 0 0) = W9 at *
      clear d0 d1
      have d0 := hE.cell (i := 0) rfl
      have d1 := hE.cell (i := 1) rfl
      exact bodyPost_ret (v := .tuple #[.agg #[.int .i64 0, .slice none 0 0], .int .i64 1]) (by simp [results, Try.results15, go_sem, d0, d1] <;> rfl) rfl ⟨.slice none 0 0, by rw [HE.out], by rw [HE.out]; exact ChainAt.nil _, hbE⟩
    | true =>
      have HM := Lib.hid hm
      have c0 : w3.cell? ⟨w.heap.size, 0, none⟩ = some (.int .i64 e) := hC.cell rfl
      clear hm
      go_upto_region 6 with (fail)
      have hX := BlkAt.new w3 24 [.int .i64 (e + 1), .slice none 0 0]
      have hC := hC.alloc (.cells #[.int .i64 (e + 1), .slice none 0 0] 24)
      have hD := hD.alloc (.cells #[.int .i64 (e + 1), .slice none 0 0] 24)
      have hM := hM.alloc (.cells #[.int .i64 (e + 1), .slice none 0 0] 24)
      have hb := hb.alloc hb.size (.cells #[.int .i64 (e + 1), .slice none 0 0] 24)
      have hWX : w3.heap.size + 1 ≤ (w3.alloc (.cells #[.int .i64 (e + 1), .slice none 0 0] 24)).heap.size := by simp
      change Code.wp _ _ _ _ (w3.alloc (.cells #[.int .i64 (e + 1), .slice none 0 0] 24))
      change BlkAt (w3.alloc (.cells #[.int .i64 (e + 1), .slice none 0 0] 24)) _ _ _ at hX
      generalize w3.alloc (.cells #[.int .i64 (e + 1), .slice none 0 0] 24) = w4 at *
      have hXC : w.heap.size ≠ w3.heap.size := by omega
      have hXD : D ≠ w3.heap.size := by omega
      have hXM : M ≠ w3.heap.size := by omega
      generalize w3.heap.size = X at *
      clear c0
      go_wp2_with fail
      go_loopw [7] (fun i wr => ∃ (k : Nat) (v : Value), k ≤ L.length ∧ i = .int .i64 k ∧ BlkAt wr X 24 [.int .i64 (e + 1), v] ∧ wr.ownsRow (X + 1) 50 3 v k (seatsCells (L.take k)) ∧ BlkAt wr w.heap.size 24 [.int .i64 e, .slice a L.length cap] ∧ BlkAt wr M 27 [.int .i64 n, .int .i64 l] ∧ BlkAt wr D 24 [.int .i64 0, .slice none 0 0] ∧ Below w.heap.size w wr ∧ X + 1 ≤ wr.heap.size ∧ Aside (∀ j t, j < k → L[j]? = some t → (t.node == n) = false)) (fun i _ => L.length - (intOf i).toNat)
      case atStart => exact ⟨0, .slice none 0 0, Nat.zero_le _, rfl, hX, World.ownsRow_nil _ _ _ _, hC, hM, hD, hb, hWX, fun j t hj => absurd hj (Nat.not_lt_zero _)⟩
      case round =>
        obtain ⟨k, v, hk, rfl, hX, hown, hC, hM, hD, hb, hsz, A⟩ := hrel
        clear hWX
        have c1 : wr.cell? ⟨w.heap.size, 1, none⟩ = some (.slice a L.length cap) := hC.cell rfl
        by_cases hlt : k < L.length
        · obtain ⟨b, off, rfl, hab, hc⟩ := hs.2.2 (by omega)
          obtain ⟨s, hs'⟩ : ∃ s, L[k]? = some s := ⟨_, List.getElem?_eq_getElem hlt⟩
          obtain ⟨s0, s1, s2⟩ := (hc k s hs').of (w' := wr) fun j => hb.cell (p := ⟨b, j, none⟩) hab
          obtain ⟨x, y, z⟩ := s
          simp only at s0 s1 s2
          have HS := Lib.hid hs'
          clear hc hs' hs hv
          have m0 : wr.cell? ⟨M, 0, none⟩ = some (.int .i64 n) := hM.cell rfl
          cases hp : (x == n) with
          | true =>
            have HE := Lib.hid (show joinC ⟨e, L⟩ n l = (⟨0, []⟩, 11) by rw [joinC, if_neg (by rw [HR.out]; simp), if_neg (by rw [HM.out]; simp), if_pos (any_true HS.out hp)])
            go_wp2_with fail
            go_quiet (fail)
            have hD := hD.drewN nq
            have hb := below_drewN hb nq
            generalize wr.drewN nq = wq at *
            have d0 : wq.cell? ⟨D, 0, none⟩ = some (.int .i64 0) := hD.cell rfl
            have d1 : wq.cell? ⟨D, 1, none⟩ = some (.slice none 0 0) := hD.cell rfl
            have hf := hD.free
            go_wp2_with fail
            obtain ⟨hE, hbE⟩ := fin2 (p := .int .i64 0) (q := .slice none 0 0) hD hb hDn
            change bodyPost _ _ _ _ _ ((wq.setCell ⟨D, 0, none⟩ (.int .i64 0)).setCell ⟨D, 1, none⟩ (.slice none 0 0))
            generalize (wq.setCell ⟨D, 0, none⟩ (.int .i64 0)).setCell ⟨D, 1, none⟩ (.slice none 0 0) = W9 at *
            clear d0 d1
            have d0 := hE.cell (i := 0) rfl
            have d1 := hE.cell (i := 1) rfl
            exact bodyPost_ret (v := .tuple #[.agg #[.int .i64 0, .slice none 0 0], .int .i64 11]) (by simp [results, Try.results15, go_sem, d0, d1] <;> rfl) rfl ⟨.slice none 0 0, by rw [HE.out], by rw [HE.out]; exact ChainAt.nil _, hbE⟩
          | false =>
            have hsw : SeatAt wr b (off + k * 3) ⟨x, y, z⟩ := ⟨s0, s1, s2⟩
            go_wp2_with fail
            go_quiet (fail)
            have hX := hX.drewN nq
            have hC := hC.drewN nq
            have hM := hM.drewN nq
            have hD := hD.drewN nq
            have hown := own_drewN hown nq
            have hb := below_drewN hb nq
            have hsz : X + 1 ≤ (wr.drewN nq).heap.size := hsz
            have hsw : SeatAt (wr.drewN nq) b (off + k * 3) ⟨x, y, z⟩ := hsw
            generalize wr.drewN nq = w4 at *
            obtain ⟨s0, s1, s2⟩ := hsw
            simp only at s0 s1 s2
            have c1 : w4.cell? ⟨w.heap.size, 1, none⟩ = some (.slice (some ⟨b, off, none⟩) L.length cap) := hC.cell rfl
            have hne1 := own_ne hown (D := w.heap.size) (by omega)
            have hne2 := own_ne hown (D := D) (by omega)
            have hne3 := own_ne hown (D := X) (by omega)
            have hne4 := own_ne hown (D := b) (by omega)
            have hne5 := own_ne hown (D := M) (by omega)
            have hCl := hC.lt
            have hDl := hD.lt
            have hXl := hX.lt
            have hMl := hM.lt
            have x0 : w4.cell? ⟨X, 1, none⟩ = some v := hX.cell rfl
            have x1 : (w4.alloc (.cells (seatCells ⟨x, y, z⟩).toArray 50)).cell? ⟨X, 1, none⟩ = some v := (hX.alloc _).cell rfl
            have hkl := take_snoc_len (L := L) (k := k) (by omega)
            have HK := Lib.hid (take_snoc HS.out)
            go_wp2_with fail
            go_region_law (
              refine step_append_lies _ (by rfl) _ _ _ (by rfl) (X + 1) 50 i0 _ 3 24 Try.underlying22 hi0 hz0 hz1 hz2 rfl (by omega) _ _ _ (by rfl) (hown.drew.alloc _) ⟨w4.heap.size, 0, none⟩ 1 1 (seatCells ⟨x, y, z⟩) (by rfl) (by rfl) (World.news_of_block (heap_alloc_new _ _)) seatCells_one (by omega) (by unfold maxLen; omega) (by omega) (by simp; omega) (w4.heap.size + 1) (by simp) ?_; intro g' cap' w' hown' hg' hat' hlt'; have hC5 : BlkAt w' w.heap.size 24 [.int .i64 e, .slice (some ⟨b, off, none⟩) L.length cap] := (hg'.block _ (by simp; omega) hne1).trans (hC.drew.alloc (.cells (seatCells ⟨x, y, z⟩).toArray 50)); have hM5 : BlkAt w' M 27 [.int .i64 n, .int .i64 l] := (hg'.block _ (by simp; omega) hne5).trans (hM.drew.alloc (.cells (seatCells ⟨x, y, z⟩).toArray 50)); have hD5 : BlkAt w' D 24 [.int .i64 0, .slice none 0 0] := (hg'.block _ (by simp; omega) hne2).trans (hD.drew.alloc (.cells (seatCells ⟨x, y, z⟩).toArray 50)); have hX5 : BlkAt w' X 24 [.int .i64 (e + 1), v] := (hg'.block _ (by simp; omega) hne3).trans (hX.drew.alloc (.cells (seatCells ⟨x, y, z⟩).toArray 50)); have x5 : w'.cell? ⟨X, 1, none⟩ = some v := hX5.cell rfl; have xf := hX5.free 1; have hb5 : Below w.heap.size w w' := (hb.drew.alloc hb.size _).grown hg' (by simp; omega) (fun j hj => by have := (hown.lt j hj).1; omega); have hsz5 : X + 1 ≤ w'.heap.size := (by have := hg'.size; simp at this; omega))
            all_goals
              go_wp2_with fail
              go_roundw
              case rel => exact ⟨k + 1, _, by omega, by go_num, hX5.set 1 _, by rw [HK.out, seatsCells_snoc]; exact own_set hown' (by omega), hC5.grown (grown_setCell w' X 1 _) hXC, hM5.grown (grown_setCell w' X 1 _) hXM, hD5.grown (grown_setCell w' X 1 _) hXD, grown_below hb5 (grown_setCell w' X 1 _) (by omega), by simp [World.setCell]; omega, fun j t hj hjt => by
                rcases Nat.lt_or_ge j k with h | h
                · exact A.out j t h hjt
                · obtain rfl : j = k := by omega
                  rw [HS.out] at hjt
                  obtain rfl := Option.some.inj hjt
                  exact hp⟩
              case measure => simp [intOf]; omega
        · obtain rfl : k = L.length := by omega
          rw [List.take_of_length_le (Nat.le_refl _)] at hown
          have HW := Lib.hid (show joinC ⟨e, L⟩ n l = laterC e (L ++ [⟨n, l, false⟩]) by rw [joinC, if_neg (by rw [HR.out]; simp), if_neg (by rw [HM.out]; simp), if_neg (by rw [any_false (p := fun s => s.node == n) A.out]; simp)])
          have x0 : wr.cell? ⟨X, 0, none⟩ = some (.int .i64 (e + 1)) := hX.cell rfl
          have HO := Lib.hid (seatsOk_all (b := false) hLok hn hl)
          clear A hs hv hLok
          by_cases h2 : 1099511627776 ≤ e
          · have HE := Lib.hid (show joinC ⟨e, L⟩ n l = (⟨0, []⟩, 5) by rw [HW.out, laterC, if_pos h2])
            have h3 : 1099511627776 < e + 1 := by omega
            have d0 : wr.cell? ⟨D, 0, none⟩ = some (.int .i64 0) := hD.cell rfl
            have d1 : wr.cell? ⟨D, 1, none⟩ = some (.slice none 0 0) := hD.cell rfl
            have hf := hD.free
            go_wp2_with fail
            obtain ⟨hE, hbE⟩ := fin2 (p := .int .i64 0) (q := .slice none 0 0) hD hb hDn
            change bodyPost _ _ _ _ _ ((wr.setCell ⟨D, 0, none⟩ (.int .i64 0)).setCell ⟨D, 1, none⟩ (.slice none 0 0))
            generalize (wr.setCell ⟨D, 0, none⟩ (.int .i64 0)).setCell ⟨D, 1, none⟩ (.slice none 0 0) = W9 at *
            clear d0 d1
            have d0 := hE.cell (i := 0) rfl
            have d1 := hE.cell (i := 1) rfl
            exact bodyPost_ret (v := .tuple #[.agg #[.int .i64 0, .slice none 0 0], .int .i64 5]) (by simp [results, Try.results15, go_sem, d0, d1] <;> rfl) rfl ⟨.slice none 0 0, by rw [HE.out], by rw [HE.out]; exact ChainAt.nil _, hbE⟩
          · have HE := Lib.hid (show joinC ⟨e, L⟩ n l = (⟨e + 1, L ++ [⟨n, l, false⟩]⟩, 0) by rw [HW.out, laterC, if_neg h2])
            have h3 : ¬ 1099511627776 < e + 1 := by omega
            have x1 : wr.cell? ⟨X, 1, none⟩ = some v := hX.cell rfl
            have m0 : wr.cell? ⟨M, 0, none⟩ = some (.int .i64 n) := hM.cell rfl
            have m1 : wr.cell? ⟨M, 1, none⟩ = some (.int .i64 l) := hM.cell rfl
            go_wp2_with (at_builtin; refine wpList_append_lies _ rfl (.tmp 53) (.tmp 56) 22 rfl (X + 1) 50 i0 _ 3 24 Try.underlying22 hi0 hz0 hz1 hz2 rfl (by omega) _ _ _ rfl (hown.alloc _) ⟨wr.heap.size, 0, none⟩ 1 1 (seatCells ⟨n, l, false⟩) rfl rfl ?c1 ?c2 (by omega) ?c3 ?c4 ?c5 (wr.heap.size + 1) (by simp) ?_)
            case c1 => first | exact World.news_of_block (heap_alloc_new _ _) | exact fun _ _ h => h
            case c2 => exact seatCells_one
            case c3 => unfold maxLen; omega
            case c4 => omega
            case c5 => first | omega | (simp; omega)
            intro g' cap' w' hown' hg' hat' hlt'
            have hne2 := own_ne hown (D := D) (by omega)
            have hne3 := own_ne hown (D := X) (by omega)
            have hDl := hD.lt
            have hXl := hX.lt
            have hD5 : BlkAt w' D 24 [.int .i64 0, .slice none 0 0] := (hg'.block _ (by simp; omega) hne2).trans (hD.alloc (.cells (seatCells ⟨n, l, false⟩).toArray 50))
            have hX5 : BlkAt w' X 24 [.int .i64 (e + 1), v] := (hg'.block _ (by simp; omega) hne3).trans (hX.alloc (.cells (seatCells ⟨n, l, false⟩).toArray 50))
            have hb5 : Below w.heap.size w w' := (hb.alloc hb.size _).grown hg' (by simp; omega) (fun j hj => by have := (hown.lt j hj).1; omega)
            have x5 : w'.cell? ⟨X, 1, none⟩ = some v := hX5.cell rfl
            have xf := hX5.free 1
            clear hg' hat' hown hX hC hM hb x0 x1 m0 m1
            go_upto_region 15 with (fail)
            have hX := hX5.set 1 (.slice (some ⟨g', 0, none⟩) (L.length + 1) cap')
            have hD := hD5.grown (grown_setCell w' X 1 (.slice (some ⟨g', 0, none⟩) (L.length + 1) cap')) hXD
            have hb := grown_below hb5 (grown_setCell w' X 1 (.slice (some ⟨g', 0, none⟩) (L.length + 1) cap')) (by omega)
            have hown := own_set (D := X) (i := 1) (u := .slice (some ⟨g', 0, none⟩) (L.length + 1) cap') hown' (by omega)
            change Code.wp _ _ _ _ (w'.setCell ⟨X, 1, none⟩ (.slice (some ⟨g', 0, none⟩) (L.length + 1) cap'))
            generalize w'.setCell ⟨X, 1, none⟩ (.slice (some ⟨g', 0, none⟩) (L.length + 1) cap') = w8 at *
            clear hX5 hD5 hb5 x5 xf
            have x0 : w8.cell? ⟨X, 0, none⟩ = some (.int .i64 (e + 1)) := hX.cell rfl
            have x1 : w8.cell? ⟨X, 1, none⟩ = some (.slice (some ⟨g', 0, none⟩) (L.length + 1) cap') := hX.cell rfl
            have d0 : w8.cell? ⟨D, 0, none⟩ = some (.int .i64 0) := hD.cell rfl
            have d1 : w8.cell? ⟨D, 1, none⟩ = some (.slice none 0 0) := hD.cell rfl
            have hf := hD.free
            have hoE := own_set (D := D) (i := 1) (u := .slice (some ⟨g', 0, none⟩) (L.length + 1) cap') (own_set (D := D) (i := 0) (u := .int .i64 (e + 1)) hown (by omega)) (by omega)
            go_wp2_with fail
            obtain ⟨hE, hbE⟩ := fin2 (p := .int .i64 (e + 1)) (q := .slice (some ⟨g', 0, none⟩) (L.length + 1) cap') hD hb hDn
            change bodyPost _ _ _ _ _ ((w8.setCell ⟨D, 0, none⟩ (.int .i64 (e + 1))).setCell ⟨D, 1, none⟩ (.slice (some ⟨g', 0, none⟩) (L.length + 1) cap'))
            generalize (w8.setCell ⟨D, 0, none⟩ (.int .i64 (e + 1))).setCell ⟨D, 1, none⟩ (.slice (some ⟨g', 0, none⟩) (L.length + 1) cap') = W9 at *
            clear d0 d1
            have d0 := hE.cell (i := 0) rfl
            have d1 := hE.cell (i := 1) rfl
            exact bodyPost_ret (v := .tuple #[.agg #[.int .i64 (e + 1), .slice (some ⟨g', 0, none⟩) (L.length + 1) cap'], .int .i64 0]) (by simp [results, Try.results15, go_sem, d0, d1] <;> rfl) rfl ⟨_, by rw [HE.out], by rw [HE.out]; exact chain_of_own (by rw [List.length_append, seatsCells_append]; exact hoE) HO.out, hbE⟩
end Go.Proofs.Ytofdmdpnobhnlaa
