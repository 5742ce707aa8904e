/- The document's Synced. -/
import Derived.Test.YtofdmdpnobhnlaaCfgQJoin
import Derived.Deep.DeepCutAuto
namespace Go.Proofs.Ytofdmdpnobhnlaa
open Go.RowKit Go.ChangeShapes Go.WideShapes Go.Joins
set_option linter.unusedVariables false

theorem own_kept_ne {w : World} {base g X cap i : Nat} {e : TypeId} {size n : Nat} {xs : List Value} {u : Value} (h : w.ownsRow base e size (.slice (some ⟨g, 0, none⟩) n cap) n xs) (hX : X ≠ g) :
    (w.setCell ⟨X, i, none⟩ u).ownsRow base e size (.slice (some ⟨g, 0, none⟩) n cap) n xs := by
  refine ⟨h.1, ?_⟩
  rcases h.2 with ⟨h0, _⟩ | ⟨g', cap', cur, hv, hb, hg, r⟩
  · cases h0
  · cases hv
    exact .inr ⟨g, cap, cur, rfl, hb, (Below.heap_setCell w ⟨X, i, none⟩ u g (fun e => hX e.symm)).trans hg, r⟩
theorem set_own2 {w : World} {base g X cap : Nat} {e : TypeId} {size n : Nat} {xs : List Value} (h : w.ownsRow base e size (.slice (some ⟨g, 0, none⟩) n cap) n xs) (u v : Value) (hX : X ≠ g) :
    ((w.setCell ⟨X, 0, none⟩ u).setCell ⟨X, 1, none⟩ v).ownsRow base e size (.slice (some ⟨g, 0, none⟩) n cap) n xs := by
  have h1 := own_kept_ne (i := 0) (u := u) h hX
  exact own_kept_ne (i := 1) (u := v) h1 hX
theorem src_cells {w : World} {b off cap : Nat} {L : List SeatV} (h : ChainAt w (.slice (some ⟨b, off, none⟩) L.length cap) L) : ∀ j u, (seatsCells L)[j]? = some u → w.cell? ((⟨b, off, none⟩ : Addr).add j) = some u := by
  obtain ⟨a, cap', hv, hs⟩ := h
  cases hv
  intro j u hj
  have hp : 0 < L.length := by
    have := (List.getElem?_eq_some_iff.1 hj).1
    rw [seatsCells_len] at this
    omega
  obtain ⟨b', off', he, hab, hc⟩ := hs.2.2 hp
  cases he
  rw [addr_add]
  exact SeatsAt.cells hc j u hj

set_option maxRecDepth 100000 in
set_option maxHeartbeats 4000000 in
theorem qcsynced_any {w : World} {v : Value} {L : List SeatV} (hv : ChainAt w v L) (e n l : Int) (hn : W64 n) (hl : W64 l) :
    Calls Try.prog 17 #[.agg #[.int .i64 e, v], .agg #[.int .i64 n, .int .i64 l]] w fun en w' => ConfRes w w' en (syncedC ⟨e, L⟩ n l).1 (.int .i64 (syncedC ⟨e, L⟩ n l).2) := by
  obtain ⟨i0, hi0, hz0, hz1, hz2⟩ := info_parts seat_full
  obtain ⟨a, cap, rfl, hs⟩ := hv
  have hLok := hs.2.1
  have hv0 : ChainAt w (.slice a L.length cap) L := ⟨a, cap, rfl, hs⟩
  have hlen := hs.1
  unfold maxLen at hlen
  go_enter Try.func17, Try.ntmps17
  go_upto_region 1 with (fail)
  have hC : BlkAt (((w.alloc (.cells #[.int .i64 e, .slice a L.length cap] 24)).alloc (.cells #[.int .i64 n, .int .i64 l] 27)).alloc (.cells #[.int .i64 0, .slice none 0 0] 24)) w.heap.size 24 [.int .i64 e, .slice a L.length cap] := ((BlkAt.new w 24 [.int .i64 e, .slice a L.length cap]).alloc _).alloc _
  have hM : BlkAt (((w.alloc (.cells #[.int .i64 e, .slice a L.length cap] 24)).alloc (.cells #[.int .i64 n, .int .i64 l] 27)).alloc (.cells #[.int .i64 0, .slice none 0 0] 24)) (w.heap.size + 1) 27 [.int .i64 n, .int .i64 l] := (BlkAt.newAt (by simp) 27 [.int .i64 n, .int .i64 l]).alloc _
  have hD : BlkAt (((w.alloc (.cells #[.int .i64 e, .slice a L.length cap] 24)).alloc (.cells #[.int .i64 n, .int .i64 l] 27)).alloc (.cells #[.int .i64 0, .slice none 0 0] 24)) (w.heap.size + 2) 24 [.int .i64 0, .slice none 0 0] := BlkAt.newAt (by simp) 24 [.int .i64 0, .slice none 0 0]
  have hb : Below w.heap.size w (((w.alloc (.cells #[.int .i64 e, .slice a L.length cap] 24)).alloc (.cells #[.int .i64 n, .int .i64 l] 27)).alloc (.cells #[.int .i64 0, .slice none 0 0] 24)) := (((Below.refl w.heap.size w).alloc (Nat.le_refl _) _).alloc (by simp) _).alloc (by simp; omega) _
  have hWs : w.heap.size + 3 ≤ (((w.alloc (.cells #[.int .i64 e, .slice a L.length cap] 24)).alloc (.cells #[.int .i64 n, .int .i64 l] 27)).alloc (.cells #[.int .i64 0, .slice none 0 0] 24)).heap.size := by simp
  have hv := hv0.below hb
  change Code.wp _ _ _ _ (((w.alloc (.cells #[.int .i64 e, .slice a L.length cap] 24)).alloc (.cells #[.int .i64 n, .int .i64 l] 27)).alloc (.cells #[.int .i64 0, .slice none 0 0] 24))
  generalize ((w.alloc (.cells #[.int .i64 e, .slice a L.length cap] 24)).alloc (.cells #[.int .i64 n, .int .i64 l] 27)).alloc (.cells #[.int .i64 0, .slice none 0 0] 24) = W at *
  have hDn : w.heap.size ≤ w.heap.size + 2 := by omega
  have hDb : w.heap.size + 2 < w.heap.size + 3 := by omega
  generalize hDd : w.heap.size + 2 = D at *
  generalize hMd : w.heap.size + 1 = M at *
  clear hs hv0
  have c0 : W.cell? ⟨w.heap.size, 0, none⟩ = some (.int .i64 e) := hC.cell rfl
  have c1 : W.cell? ⟨w.heap.size, 1, none⟩ = some (.slice a L.length cap) := hC.cell rfl
  go_wp2_with fail
  refine (qcright_any (by exact hv) e).mono ?_
  rintro en w2 ⟨rfl, b2⟩
  have hC := hC.below b2
  have hM := hM.below b2
  have hD := hD.below b2
  have hv := hv.below b2
  have hWs : w.heap.size + 3 ≤ w2.heap.size := by have := b2.size; omega
  have hb := below_step hb b2
  clear b2
  clear c0 c1
  cases hr : rightC ⟨e, L⟩ with
  | false =>
    have HE := Lib.hid (show syncedC ⟨e, L⟩ n l = (⟨0, []⟩, 3) by rw [syncedC, if_pos hr])
    clear hr
    have d0 : w2.cell? ⟨D, 0, none⟩ = some (.int .i64 0) := hD.cell rfl
    have d1 : w2.cell? ⟨D, 1, none⟩ = some (.slice none 0 0) := hD.cell rfl
    have hf := hD.free
    go_wp2_with fail
    obtain ⟨hE, hbE⟩ := fin2 (p := .int .i64 0) (q := .slice none 0 0) hD hb hDn
    change bodyPost _ _ _ _ _ ((w2.setCell ⟨D, 0, none⟩ (.int .i64 0)).setCell ⟨D, 1, none⟩ (.slice none 0 0))
    generalize (w2.setCell ⟨D, 0, none⟩ (.int .i64 0)).setCell ⟨D, 1, none⟩ (.slice none 0 0) = W9 at *
    clear d0 d1
    have d0 := hE.cell (i := 0) rfl
    have d1 := hE.cell (i := 1) rfl
    exact bodyPost_ret (v := .tuple #[.agg #[.int .i64 0, .slice none 0 0], .int .i64 3]) (by simp [results, Try.results17, go_sem, d0, d1] <;> rfl) rfl ⟨.slice none 0 0, by rw [HE.out], by rw [HE.out]; exact ChainAt.nil _, hbE⟩
  | true =>
    have hri := rightC_iff.1 hr
    have he1 : 1 ≤ e := hri.1
    have he2 : e ≤ 1099511627776 := hri.2.1
    have hl1 : 1 ≤ L.length := hri.2.2.1
    have hl8 : L.length ≤ 8 := hri.2.2.2.1
    have HR := Lib.hid hr
    have c0 : w2.cell? ⟨w.heap.size, 0, none⟩ = some (.int .i64 e) := hC.cell rfl
    have c1 : w2.cell? ⟨w.heap.size, 1, none⟩ = some (.slice a L.length cap) := hC.cell rfl
    have m0 : w2.cell? ⟨M, 0, none⟩ = some (.int .i64 n) := hM.cell rfl
    have m1 : w2.cell? ⟨M, 1, none⟩ = some (.int .i64 l) := hM.cell rfl
    clear hr hri
    go_wp2_with fail
    refine (qcplace_any (by exact hv) e n l).mono ?_
    rintro en w3 ⟨rfl, b2⟩
    have hC := hC.below b2
    have hM := hM.below b2
    have hD := hD.below b2
    have hv := hv.below b2
    have hWs : w.heap.size + 3 ≤ w3.heap.size := by have := b2.size; omega
    have hb := below_step hb b2
    clear b2
    clear m0 m1 c0 c1
    rw [place_idx]
    cases hfi : L.findIdx? (fun s => s.node == n && s.life == l) with
    | none =>
      have HE := Lib.hid (show syncedC ⟨e, L⟩ n l = (⟨0, []⟩, 10) by rw [syncedC, if_neg (by rw [HR.out]; simp)]; simp only [hfi])
      clear hfi
      simp only
      have d0 : w3.cell? ⟨D, 0, none⟩ = some (.int .i64 0) := hD.cell rfl
      have d1 : w3.cell? ⟨D, 1, none⟩ = some (.slice none 0 0) := hD.cell rfl
      have hf := hD.free
      go_wp2_with fail
      obtain ⟨hE, hbE⟩ := fin2 (p := .int .i64 0) (q := .slice none 0 0) hD hb hDn
      change bodyPost _ _ _ _ _ ((w3.setCell ⟨D, 0, none⟩ (.int .i64 0)).setCell ⟨D, 1, none⟩ (.slice none 0 0))
      generalize (w3.setCell ⟨D, 0, none⟩ (.int .i64 0)).setCell ⟨D, 1, none⟩ (.slice none 0 0) = W9 at *
      clear d0 d1
      have d0 := hE.cell (i := 0) rfl
      have d1 := hE.cell (i := 1) rfl
      exact bodyPost_ret (v := .tuple #[.agg #[.int .i64 0, .slice none 0 0], .int .i64 10]) (by simp [results, Try.results17, go_sem, d0, d1] <;> rfl) rfl ⟨.slice none 0 0, by rw [HE.out], by rw [HE.out]; exact ChainAt.nil _, hbE⟩
    | some k =>
      have hk := hfi
      rw [List.findIdx?_eq_some_iff_getElem] at hk
      obtain ⟨hkl, hkp, _⟩ := hk
      obtain ⟨s, hs⟩ : ∃ s, L[k]? = some s := ⟨_, List.getElem?_eq_getElem hkl⟩
      have hse : L[k] = s := (List.getElem?_eq_some_iff.1 hs).2
      rw [hse] at hkp
      have hnl : s.node = n ∧ s.life = l := by simpa using hkp
      have HF := Lib.hid (show syncedC ⟨e, L⟩ n l = if s.sync = true then (⟨0, []⟩, 11) else (⟨e, L.set k ⟨n, l, true⟩⟩, 0) by
        rw [syncedC, if_neg (by rw [HR.out]; simp)]
        simp only [hfi, hs, Option.map_some, Option.some.injEq])
      obtain ⟨a', cap', hcv, hs3⟩ := hv
      obtain ⟨rfl, rfl⟩ : a' = a ∧ cap' = cap := by cases hcv; exact ⟨rfl, rfl⟩
      obtain ⟨b, off, rfl, hab, hc⟩ := hs3.2.2 (by omega)
      have hv : ChainAt w3 (.slice (some ⟨b, off, none⟩) L.length cap') L := ⟨_, _, rfl, hs3⟩
      obtain ⟨_, _, s2⟩ := hc k s hs
      have HS := Lib.hid hs
      have HNL := Lib.hid hnl
      clear hfi hkp hse hcv hs3 hc hs hnl
      simp only
      have c1 : w3.cell? ⟨w.heap.size, 1, none⟩ = some (.slice (some ⟨b, off, none⟩) L.length cap') := hC.cell rfl
      cases hz : s.sync with
      | true =>
        rw [hz] at s2
        have HE := Lib.hid (show syncedC ⟨e, L⟩ n l = (⟨0, []⟩, 11) by rw [HF.out, if_pos hz])
        have d0 : w3.cell? ⟨D, 0, none⟩ = some (.int .i64 0) := hD.cell rfl
        have d1 : w3.cell? ⟨D, 1, none⟩ = some (.slice none 0 0) := hD.cell rfl
        have hf := hD.free
        go_wp2_with fail
        obtain ⟨hE, hbE⟩ := fin2 (p := .int .i64 0) (q := .slice none 0 0) hD hb hDn
        change bodyPost _ _ _ _ _ ((w3.setCell ⟨D, 0, none⟩ (.int .i64 0)).setCell ⟨D, 1, none⟩ (.slice none 0 0))
        generalize (w3.setCell ⟨D, 0, none⟩ (.int .i64 0)).setCell ⟨D, 1, none⟩ (.slice none 0 0) = W9 at *
        clear d0 d1
        have d0 := hE.cell (i := 0) rfl
        have d1 := hE.cell (i := 1) rfl
        exact bodyPost_ret (v := .tuple #[.agg #[.int .i64 0, .slice none 0 0], .int .i64 11]) (by simp [results, Try.results17, go_sem, d0, d1] <;> rfl) rfl ⟨.slice none 0 0, by rw [HE.out], by rw [HE.out]; exact ChainAt.nil _, hbE⟩
      | false =>
        rw [hz] at s2
        have HE := Lib.hid (show syncedC ⟨e, L⟩ n l = (⟨e, L.set k ⟨n, l, true⟩⟩, 0) by rw [HF.out, if_neg (by rw [hz]; simp)])
        go_wp2_with fail
        have hc0 : w3.cell? ⟨w.heap.size, 0, none⟩ = some (.int .i64 e) := hC.cell rfl
        have e0 := World.new_ne w3 _ hc0
        have hmt : w.heap.size + 3 ≤ w3.heap.size := hWs
        have hmk3 : ((w3.alloc (.cells #[.int .i64 0, .slice none 0 0] 24)).alloc (.cells #[] 50)).ownsRow (w.heap.size + 3) 50 3 (.slice (some ⟨w3.heap.size + 1, 0, none⟩) 0 0) 0 [] := by
          have h := World.ownsRow_made (base := w.heap.size + 3) (e := 50) (size := 3) (w3.alloc (.cells #[.int .i64 0, .slice none 0 0] 24)) #[] 0 (by simp; omega) (Nat.zero_le _) rfl
          rw [World.size_alloc] at h
          exact h
        go_upto_region 8 with (fail)
        go_cut [7] (fun s7 wx => ∃ g cg X : Nat, s7 = .pointer (some ⟨X, 0, none⟩) ∧ BlkAt wx X 24 [.int .i64 e, .slice (some ⟨g, 0, none⟩) L.length cg] ∧ BlkAt wx D 24 [.int .i64 0, .slice none 0 0] ∧ wx.ownsRow (w.heap.size + 3) 50 3 (.slice (some ⟨g, 0, none⟩) L.length cg) L.length (seatsCells L) ∧ Below w.heap.size w wx ∧ X ≠ g ∧ w.heap.size + 3 ≤ X)
        case first =>
          clear s2
          go_region_held3 (fun w' => w'.cell? ⟨w.heap.size, 0, none⟩ = some (.int .i64 e) ∧ w'.cell? ⟨w.heap.size, 1, none⟩ = some (.slice (some ⟨b, off, none⟩) L.length cap')) (first | exact ⟨c0, c6⟩ | exact ⟨(hC6.alloc _).cell rfl, (hC6.alloc _).cell rfl⟩ | exact ⟨(hC.alloc _).cell rfl, (hC.alloc _).cell rfl⟩ | exact ⟨((hC.alloc _).alloc _).cell rfl, ((hC.alloc _).alloc _).cell rfl⟩ | exact ⟨((hC6.grown (grown_setCell _ _ 0 (.int .i64 e)) (by omega)).grown (grown_setCell _ _ 1 _) (by omega)).cell rfl, ((hC6.grown (grown_setCell _ _ 0 (.int .i64 e)) (by omega)).grown (grown_setCell _ _ 1 _) (by omega)).cell rfl⟩ | go_keep) (first | (refine step_append_lies _ (by rfl) _ _ _ (by rfl) (w.heap.size + 3) 50 i0 _ 3 24 Try.underlying22 hi0 hz0 hz1 hz2 rfl (by omega) _ _ _ (by rfl) (World.ownsRow_made (size := 3) w3 #[] 0 hmt (Nat.zero_le _) rfl) ⟨b, off, none⟩ L.length cap' (seatsCells L) (by rfl) (seatsCells_len L) (src_cells (hv.alloc (.cells #[] 50))) seatsCells_one (by omega) (by unfold maxLen; omega) (by omega) (by simp; omega) _ rfl ?_; intro g6 cap6 w6 hown6' hg6 hat6 hlt6; have hown6 : w6.ownsRow (w.heap.size + 3) 50 3 (.slice (some ⟨g6, 0, none⟩) L.length cap6) L.length (seatsCells L) := (by simpa using hown6'); have hC6 : BlkAt w6 w.heap.size 24 [.int .i64 e, .slice (some ⟨b, off, none⟩) L.length cap'] := (hg6.block w.heap.size (hC.alloc (.cells #[] 50)).lt (by simp [Value.ownBlock]; omega)).trans (hC.alloc (.cells #[] 50)); have hD6 : BlkAt w6 D 24 [.int .i64 0, .slice none 0 0] := (hg6.block D (hD.alloc (.cells #[] 50)).lt (by simp [Value.ownBlock]; omega)).trans (hD.alloc (.cells #[] 50)); have hb6 : Below w.heap.size w w6 := (hb.alloc hb.size (.cells #[] 50)).drew.grown hg6 (by simp; omega) (by intro j hj; simp [Value.ownBlock] at hj; omega); have c0 : w6.cell? ⟨w.heap.size, 0, none⟩ = some (.int .i64 e) := hC6.cell rfl; have c6 : w6.cell? ⟨w.heap.size, 1, none⟩ = some (.slice (some ⟨b, off, none⟩) L.length cap') := hC6.cell rfl) | (refine step_append_lies _ (by rfl) _ _ _ (by rfl) (w.heap.size + 3) 50 i0 _ 3 24 Try.underlying22 hi0 hz0 hz1 hz2 rfl (by omega) _ _ _ (by rfl) ((World.ownsRow_made (size := 3) w3 #[] 0 hmt (Nat.zero_le _) rfl).alloc (.cells #[.int .i64 0, .slice none 0 0] 24)) ⟨b, off, none⟩ L.length cap' (seatsCells L) (by rfl) (seatsCells_len L) (src_cells ((hv.alloc (.cells #[] 50)).alloc (.cells #[.int .i64 0, .slice none 0 0] 24))) seatsCells_one (by omega) (by unfold maxLen; omega) (by omega) (by simp; omega) _ rfl ?_; intro g6 cap6 w6 hown6' hg6 hat6 hlt6; have hown6 : w6.ownsRow (w.heap.size + 3) 50 3 (.slice (some ⟨g6, 0, none⟩) L.length cap6) L.length (seatsCells L) := (by simpa using hown6'); have hC6 : BlkAt w6 w.heap.size 24 [.int .i64 e, .slice (some ⟨b, off, none⟩) L.length cap'] := (hg6.block w.heap.size ((hC.alloc (.cells #[] 50)).alloc (.cells #[.int .i64 0, .slice none 0 0] 24)).lt (by simp [Value.ownBlock]; omega)).trans ((hC.alloc (.cells #[] 50)).alloc (.cells #[.int .i64 0, .slice none 0 0] 24)); have hD6 : BlkAt w6 D 24 [.int .i64 0, .slice none 0 0] := (hg6.block D ((hD.alloc (.cells #[] 50)).alloc (.cells #[.int .i64 0, .slice none 0 0] 24)).lt (by simp [Value.ownBlock]; omega)).trans ((hD.alloc (.cells #[] 50)).alloc (.cells #[.int .i64 0, .slice none 0 0] 24)); have hb6 : Below w.heap.size w w6 := ((hb.alloc hb.size (.cells #[] 50)).alloc (by simp; omega) (.cells #[.int .i64 0, .slice none 0 0] 24)).drew.grown hg6 (by simp; omega) (by intro j hj; simp [Value.ownBlock] at hj; omega); have hX6 : BlkAt w6 (w3.heap.size + 1) 24 [.int .i64 0, .slice none 0 0] := (hg6.block (w3.heap.size + 1) (by simp) (by simp [Value.ownBlock])).trans (BlkAt.newAt (w := w3.alloc (.cells #[] 50)) (by simp) 24 [.int .i64 0, .slice none 0 0]); have x0 : w6.cell? ⟨w3.heap.size + 1, 0, none⟩ = some (.int .i64 0) := hX6.cell rfl; have x1 : w6.cell? ⟨w3.heap.size + 1, 1, none⟩ = some (.slice none 0 0) := hX6.cell rfl; have xf := hX6.free; have c0 : w6.cell? ⟨w.heap.size, 0, none⟩ = some (.int .i64 e) := hC6.cell rfl; have c6 : w6.cell? ⟨w.heap.size, 1, none⟩ = some (.slice (some ⟨b, off, none⟩) L.length cap') := hC6.cell rfl) | (refine step_append_lies _ (by rfl) _ _ _ (by rfl) (w.heap.size + 3) 50 i0 _ 3 24 Try.underlying22 hi0 hz0 hz1 hz2 rfl (by omega) _ _ _ (by rfl) hmk3 ⟨b, off, none⟩ L.length cap' (seatsCells L) (by rfl) (seatsCells_len L) (src_cells ((hv.alloc (.cells #[.int .i64 0, .slice none 0 0] 24)).alloc (.cells #[] 50))) seatsCells_one (by omega) (by unfold maxLen; omega) (by omega) (by simp; omega) _ rfl ?_; intro g6 cap6 w6 hown6' hg6 hat6 hlt6; have hown6 : w6.ownsRow (w.heap.size + 3) 50 3 (.slice (some ⟨g6, 0, none⟩) L.length cap6) L.length (seatsCells L) := (by simpa using hown6'); have hC6 : BlkAt w6 w.heap.size 24 [.int .i64 e, .slice (some ⟨b, off, none⟩) L.length cap'] := (hg6.block w.heap.size ((hC.alloc (.cells #[.int .i64 0, .slice none 0 0] 24)).alloc (.cells #[] 50)).lt (by simp [Value.ownBlock]; omega)).trans ((hC.alloc (.cells #[.int .i64 0, .slice none 0 0] 24)).alloc (.cells #[] 50)); have hD6 : BlkAt w6 D 24 [.int .i64 0, .slice none 0 0] := (hg6.block D ((hD.alloc (.cells #[.int .i64 0, .slice none 0 0] 24)).alloc (.cells #[] 50)).lt (by simp [Value.ownBlock]; omega)).trans ((hD.alloc (.cells #[.int .i64 0, .slice none 0 0] 24)).alloc (.cells #[] 50)); have hb6 : Below w.heap.size w w6 := ((hb.alloc hb.size (.cells #[.int .i64 0, .slice none 0 0] 24)).alloc (by simp; omega) (.cells #[] 50)).drew.grown hg6 (by simp; omega) (by intro j hj; simp [Value.ownBlock] at hj; omega); have hX6 : BlkAt w6 w3.heap.size 24 [.int .i64 0, .slice none 0 0] := (hg6.block w3.heap.size (by simp; omega) (by simp [Value.ownBlock])).trans ((BlkAt.new w3 24 [.int .i64 0, .slice none 0 0]).alloc (.cells #[] 50)); have x0 : w6.cell? ⟨w3.heap.size, 0, none⟩ = some (.int .i64 0) := hX6.cell rfl; have x1 : w6.cell? ⟨w3.heap.size, 1, none⟩ = some (.slice none 0 0) := hX6.cell rfl; have xf := hX6.free; have c0 : w6.cell? ⟨w.heap.size, 0, none⟩ = some (.int .i64 e) := hC6.cell rfl; have c6 : w6.cell? ⟨w.heap.size, 1, none⟩ = some (.slice (some ⟨b, off, none⟩) L.length cap') := hC6.cell rfl))
          · have hgl := hown6.lt g6 rfl
            have Q : ∃ g cg X : Nat, (.pointer (some ⟨w6.heap.size, 0, none⟩) : Value) = .pointer (some ⟨X, 0, none⟩) ∧ BlkAt (w6.alloc (.cells #[.int .i64 e, .slice (some ⟨g6, 0, none⟩) L.length cap6] 24)) X 24 [.int .i64 e, .slice (some ⟨g, 0, none⟩) L.length cg] ∧ BlkAt (w6.alloc (.cells #[.int .i64 e, .slice (some ⟨g6, 0, none⟩) L.length cap6] 24)) D 24 [.int .i64 0, .slice none 0 0] ∧ (w6.alloc (.cells #[.int .i64 e, .slice (some ⟨g6, 0, none⟩) L.length cap6] 24)).ownsRow (w.heap.size + 3) 50 3 (.slice (some ⟨g, 0, none⟩) L.length cg) L.length (seatsCells L) ∧ Below w.heap.size w (w6.alloc (.cells #[.int .i64 e, .slice (some ⟨g6, 0, none⟩) L.length cap6] 24)) ∧ X ≠ g ∧ w.heap.size + 3 ≤ X :=
              ⟨g6, cap6, w6.heap.size, rfl, BlkAt.new w6 24 [.int .i64 e, .slice (some ⟨g6, 0, none⟩) L.length cap6], hD6.alloc _, hown6.alloc _, hb6.alloc hb6.size _, by omega, by omega⟩
            have Q := Lib.hid Q
            clear hgl
            go_wp2_with fail
            go_meet
            exact Q.out
          · have hgl := hown6.lt g6 rfl
            have hXg : w3.heap.size + 1 ≠ g6 := by simp [Value.ownBlock] at hat6; omega
            have Q : ∃ g cg X : Nat, (.pointer (some ⟨w3.heap.size + 1, 0, none⟩) : Value) = .pointer (some ⟨X, 0, none⟩) ∧ BlkAt ((w6.setCell ⟨w3.heap.size + 1, 0, none⟩ (.int .i64 e)).setCell ⟨w3.heap.size + 1, 1, none⟩ (.slice (some ⟨g6, 0, none⟩) L.length cap6)) X 24 [.int .i64 e, .slice (some ⟨g, 0, none⟩) L.length cg] ∧ BlkAt ((w6.setCell ⟨w3.heap.size + 1, 0, none⟩ (.int .i64 e)).setCell ⟨w3.heap.size + 1, 1, none⟩ (.slice (some ⟨g6, 0, none⟩) L.length cap6)) D 24 [.int .i64 0, .slice none 0 0] ∧ ((w6.setCell ⟨w3.heap.size + 1, 0, none⟩ (.int .i64 e)).setCell ⟨w3.heap.size + 1, 1, none⟩ (.slice (some ⟨g6, 0, none⟩) L.length cap6)).ownsRow (w.heap.size + 3) 50 3 (.slice (some ⟨g, 0, none⟩) L.length cg) L.length (seatsCells L) ∧ Below w.heap.size w ((w6.setCell ⟨w3.heap.size + 1, 0, none⟩ (.int .i64 e)).setCell ⟨w3.heap.size + 1, 1, none⟩ (.slice (some ⟨g6, 0, none⟩) L.length cap6)) ∧ X ≠ g ∧ w.heap.size + 3 ≤ X :=
              ⟨g6, cap6, w3.heap.size + 1, rfl, (hX6.set 0 (.int .i64 e)).set 1 (.slice (some ⟨g6, 0, none⟩) L.length cap6), (hD6.grown (grown_setCell w6 (w3.heap.size + 1) 0 (.int .i64 e)) (by omega)).grown (grown_setCell _ (w3.heap.size + 1) 1 (.slice (some ⟨g6, 0, none⟩) L.length cap6)) (by omega), set_own2 hown6 (.int .i64 e) (.slice (some ⟨g6, 0, none⟩) L.length cap6) hXg, grown_below (grown_below hb6 (grown_setCell w6 (w3.heap.size + 1) 0 (.int .i64 e)) (by omega)) (grown_setCell _ (w3.heap.size + 1) 1 (.slice (some ⟨g6, 0, none⟩) L.length cap6)) (by omega), hXg, by omega⟩
            have Q := Lib.hid Q
            clear hgl
            go_wp2_with fail
            go_meet
            exact Q.out
          · have hgl := hown6.lt g6 rfl
            have hXg : w3.heap.size ≠ g6 := by simp [Value.ownBlock] at hat6; omega
            have Q : ∃ g cg X : Nat, (.pointer (some ⟨w3.heap.size, 0, none⟩) : Value) = .pointer (some ⟨X, 0, none⟩) ∧ BlkAt ((w6.setCell ⟨w3.heap.size, 0, none⟩ (.int .i64 e)).setCell ⟨w3.heap.size, 1, none⟩ (.slice (some ⟨g6, 0, none⟩) L.length cap6)) X 24 [.int .i64 e, .slice (some ⟨g, 0, none⟩) L.length cg] ∧ BlkAt ((w6.setCell ⟨w3.heap.size, 0, none⟩ (.int .i64 e)).setCell ⟨w3.heap.size, 1, none⟩ (.slice (some ⟨g6, 0, none⟩) L.length cap6)) D 24 [.int .i64 0, .slice none 0 0] ∧ ((w6.setCell ⟨w3.heap.size, 0, none⟩ (.int .i64 e)).setCell ⟨w3.heap.size, 1, none⟩ (.slice (some ⟨g6, 0, none⟩) L.length cap6)).ownsRow (w.heap.size + 3) 50 3 (.slice (some ⟨g, 0, none⟩) L.length cg) L.length (seatsCells L) ∧ Below w.heap.size w ((w6.setCell ⟨w3.heap.size, 0, none⟩ (.int .i64 e)).setCell ⟨w3.heap.size, 1, none⟩ (.slice (some ⟨g6, 0, none⟩) L.length cap6)) ∧ X ≠ g ∧ w.heap.size + 3 ≤ X :=
              ⟨g6, cap6, w3.heap.size, rfl, (hX6.set 0 (.int .i64 e)).set 1 (.slice (some ⟨g6, 0, none⟩) L.length cap6), (hD6.grown (grown_setCell w6 (w3.heap.size) 0 (.int .i64 e)) (by omega)).grown (grown_setCell _ (w3.heap.size) 1 (.slice (some ⟨g6, 0, none⟩) L.length cap6)) (by omega), set_own2 hown6 (.int .i64 e) (.slice (some ⟨g6, 0, none⟩) L.length cap6) hXg, grown_below (grown_below hb6 (grown_setCell w6 (w3.heap.size) 0 (.int .i64 e)) (by omega)) (grown_setCell _ (w3.heap.size) 1 (.slice (some ⟨g6, 0, none⟩) L.length cap6)) (by omega), hXg, by omega⟩
            have Q := Lib.hid Q
            clear hgl
            go_wp2_with fail
            go_meet
            exact Q.out
        case rest =>
          obtain ⟨g6, cap6, X, rfl, hX7, hD7, hown7, hb7, hXg, hXw⟩ := hcut
          clear s2 c1
          have x1 : wc.cell? ⟨X, 1, none⟩ = some (.slice (some ⟨g6, 0, none⟩) L.length cap6) := hX7.cell rfl
          have gf := hown7.frozenAt (k * 3 + 2)
          have gc : wc.cell? ⟨g6, k * 3 + 2, none⟩ = some (.bool s.sync) := (hown7.cellAt (k * 3 + 2) (by omega)).trans (seatsCells_at L k s HS.out).2.2
          have hgb := hown7.lt g6 rfl
          go_upto_region 10 with (fail)
          have hown8 := own_store (u := .bool true) hown7 (j := k * 3 + 2) (by omega)
          have hset := seatsCells_set L k s ⟨n, l, true⟩ HS.out HNL.out.1.symm HNL.out.2.symm
          simp only at hset
          rw [hset] at hown8
          have hX8 := hX7.grown (grown_setCell wc g6 (k * 3 + 2) (.bool true)) hXg
          have hD8 := hD7.grown (grown_setCell wc g6 (k * 3 + 2) (.bool true)) (by omega)
          have hb := grown_below hb7 (grown_setCell wc g6 (k * 3 + 2) (.bool true)) (by omega)
          clear x1 gf gc hown7 hX7 hD7 hb7 hset
          change Code.wp _ _ _ _ (wc.setCell ⟨g6, k * 3 + 2, none⟩ (.bool true))
          generalize wc.setCell ⟨g6, k * 3 + 2, none⟩ (.bool true) = w8 at *
          have hD := hD8
          have y0 : w8.cell? ⟨X, 0, none⟩ = some (.int .i64 e) := hX8.cell rfl
          have y1 : w8.cell? ⟨X, 1, none⟩ = some (.slice (some ⟨g6, 0, none⟩) L.length cap6) := hX8.cell rfl
          have d0 : w8.cell? ⟨D, 0, none⟩ = some (.int .i64 0) := hD.cell rfl
          have d1 : w8.cell? ⟨D, 1, none⟩ = some (.slice none 0 0) := hD.cell rfl
          have hf := hD.free
          have hoE := own_set (D := D) (i := 1) (u := .slice (some ⟨g6, 0, none⟩) L.length cap6) (own_set (D := D) (i := 0) (u := .int .i64 e) hown8 (by omega)) (by omega)
          go_wp2_with fail
          obtain ⟨hE, hbE⟩ := fin2 (p := .int .i64 e) (q := .slice (some ⟨g6, 0, none⟩) L.length cap6) hD hb hDn
          change bodyPost _ _ _ _ _ ((w8.setCell ⟨D, 0, none⟩ (.int .i64 e)).setCell ⟨D, 1, none⟩ (.slice (some ⟨g6, 0, none⟩) L.length cap6))
          generalize (w8.setCell ⟨D, 0, none⟩ (.int .i64 e)).setCell ⟨D, 1, none⟩ (.slice (some ⟨g6, 0, none⟩) L.length cap6) = W9 at *
          clear d0 d1
          have d0 := hE.cell (i := 0) rfl
          have d1 := hE.cell (i := 1) rfl
          exact bodyPost_ret (v := .tuple #[.agg #[.int .i64 e, .slice (some ⟨g6, 0, none⟩) L.length cap6], .int .i64 0]) (by simp [results, Try.results17, go_sem, d0, d1] <;> rfl) rfl ⟨_, by rw [HE.out], by rw [HE.out]; exact chain_of_own (by rw [List.length_set]; exact hoE) (seatsOk_set hLok ⟨hn, hl⟩), hbE⟩

end Go.Proofs.Ytofdmdpnobhnlaa
