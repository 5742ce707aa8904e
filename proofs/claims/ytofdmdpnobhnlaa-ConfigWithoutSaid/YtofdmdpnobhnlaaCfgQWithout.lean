/- The document's Without. -/
import Derived.Test.YtofdmdpnobhnlaaCfgSynced
namespace Go.Proofs.Ytofdmdpnobhnlaa
open Go.RowKit Go.ChangeShapes Go.WideShapes Go.Joins
set_option linter.unusedVariables false

/-- Is a member among those that go? -/
def goneB (G : List (Int × Int)) (x y : Int) : Bool := G.contains (x, y)
theorem goneB_snoc {G : List (Int × Int)} {m : Nat} {g : Int × Int} (h : G[m]? = some g) (x y : Int) : goneB (G.take (m + 1)) x y = (goneB (G.take m) x y || (g.1 == x && g.2 == y)) := by
  have hm := (List.getElem?_eq_some_iff.1 h).1
  have e : G.take (m + 1) = G.take m ++ [g] := by rw [List.take_add_one, h]; rfl
  rw [goneB, goneB, e, List.contains_append]
  congr 1
  rw [Bool.eq_iff_iff]
  obtain ⟨a, b⟩ := g
  simp
  exact ⟨fun ⟨h, h'⟩ => ⟨h.symm, h'.symm⟩, fun ⟨h, h'⟩ => ⟨h.symm, h'.symm⟩⟩
theorem cell_set_ne {w : World} {b o X i : Nat} {u v : Value} (h : w.cell? ⟨b, o, none⟩ = some v) (hne : b ≠ X) : (w.setCell ⟨X, i, none⟩ u).cell? ⟨b, o, none⟩ = some v :=
  (World.cell?_setCell_other w ⟨X, i, none⟩ ⟨b, o, none⟩ u (fun e => hne (by injection e with h1; exact h1.symm))).trans h
theorem cell_alloc_old {w : World} {b o : Nat} {v : Value} (h : w.cell? ⟨b, o, none⟩ = some v) (ob : Obj) : (w.alloc ob).cell? ⟨b, o, none⟩ = some v :=
  (World.cell?_alloc_lt w ob ⟨b, o, none⟩ (World.block_lt_of_cell? _ _ h)).trans h

set_option maxRecDepth 100000 in
set_option maxHeartbeats 4000000 in
theorem qcwithout_any {w : World} {v vg : Value} {L : List SeatV} {G : List (Int × Int)} (hv : ChainAt w v L) (hg : MemsV w vg G) (e : Int) :
    Calls Try.prog 13 #[.agg #[.int .i64 e, v], vg] w fun en w' => ConfRes w w' en (withoutC ⟨e, L⟩ G).1 (.int .i64 (withoutC ⟨e, L⟩ G).2) := by
  obtain ⟨i0, hi0, hz0, hz1, hz2⟩ := info_parts seat_full
  obtain ⟨a2, cap2, rfl, hg2⟩ := hg
  obtain ⟨a, cap, rfl, hs⟩ := hv
  have hv : ChainAt w (.slice a L.length cap) L := ⟨a, cap, rfl, hs⟩
  have hLok := hs.2.1
  have hlen := hs.1
  unfold maxLen at hlen
  have hgl := hg2.1
  unfold maxLen at hgl
  go_enter Try.func13, Try.ntmps13
  go_upto_region 1 with (fail)
  have hC : BlkAt ((w.alloc (.cells #[.int .i64 e, .slice a L.length cap] 24)).alloc (.cells #[.int .i64 0, .slice none 0 0] 24)) w.heap.size 24 [.int .i64 e, .slice a L.length cap] := (BlkAt.new w 24 [.int .i64 e, .slice a L.length cap]).alloc _
  have hD : BlkAt ((w.alloc (.cells #[.int .i64 e, .slice a L.length cap] 24)).alloc (.cells #[.int .i64 0, .slice none 0 0] 24)) (w.heap.size + 1) 24 [.int .i64 0, .slice none 0 0] := BlkAt.newAt (by simp) 24 [.int .i64 0, .slice none 0 0]
  have hb : Below w.heap.size w ((w.alloc (.cells #[.int .i64 e, .slice a L.length cap] 24)).alloc (.cells #[.int .i64 0, .slice none 0 0] 24)) := ((Below.refl w.heap.size w).alloc (Nat.le_refl _) _).alloc (by simp) _
  have hWs : w.heap.size + 2 ≤ ((w.alloc (.cells #[.int .i64 e, .slice a L.length cap] 24)).alloc (.cells #[.int .i64 0, .slice none 0 0] 24)).heap.size := by simp
  change Code.wp _ _ _ _ ((w.alloc (.cells #[.int .i64 e, .slice a L.length cap] 24)).alloc (.cells #[.int .i64 0, .slice none 0 0] 24))
  generalize (w.alloc (.cells #[.int .i64 e, .slice a L.length cap] 24)).alloc (.cells #[.int .i64 0, .slice none 0 0] 24) = W at *
  have hDn : w.heap.size ≤ w.heap.size + 1 := by omega
  have hDb : w.heap.size + 1 < w.heap.size + 2 := by omega
  have hD0 : w.heap.size + 1 ≠ w.heap.size := by omega
  generalize hDd : w.heap.size + 1 = D at *
  have hvW := hv.below hb
  have c0 : W.cell? ⟨w.heap.size, 0, none⟩ = some (.int .i64 e) := hC.cell rfl
  have c1 : W.cell? ⟨w.heap.size, 1, none⟩ = some (.slice a L.length cap) := hC.cell rfl
  go_wp2_with fail
  refine (qcright_any (by exact hvW) e).mono ?_
  rintro en w2 ⟨rfl, b2⟩
  have hC := hC.below b2
  have hD := hD.below b2
  have hWs : w.heap.size + 2 ≤ w2.heap.size := by have := b2.size; omega
  have hb := below_step hb b2
  clear b2
  clear c0 c1 hvW
  cases hr : rightC ⟨e, L⟩ with
  | false =>
    have HE := Lib.hid (show withoutC ⟨e, L⟩ G = (⟨0, []⟩, 3) by rw [withoutC, if_pos hr])
    clear hr
    have d0 : w2.cell? ⟨D, 0, none⟩ = some (.int .i64 0) := hD.cell rfl
    have d1 : w2.cell? ⟨D, 1, none⟩ = some (.slice none 0 0) := hD.cell rfl
    have hf := hD.free
    go_wp2_with fail
    obtain ⟨hE, hbE⟩ := fin2 (p := .int .i64 0) (q := .slice none 0 0) hD hb hDn
    change bodyPost _ _ _ _ _ ((w2.setCell ⟨D, 0, none⟩ (.int .i64 0)).setCell ⟨D, 1, none⟩ (.slice none 0 0))
    generalize (w2.setCell ⟨D, 0, none⟩ (.int .i64 0)).setCell ⟨D, 1, none⟩ (.slice none 0 0) = W9 at *
    clear d0 d1
    have d0 := hE.cell (i := 0) rfl
    have d1 := hE.cell (i := 1) rfl
    exact bodyPost_ret (v := .tuple #[.agg #[.int .i64 0, .slice none 0 0], .int .i64 3]) (by simp [results, Try.results13, go_sem, d0, d1] <;> rfl) rfl ⟨.slice none 0 0, by rw [HE.out], by rw [HE.out]; exact ChainAt.nil _, hbE⟩
  | true =>
    have hri := rightC_iff.1 hr
    have he1 : 1 ≤ e := hri.1
    have he2 : e ≤ 1099511627776 := hri.2.1
    have hl8 : L.length ≤ 8 := hri.2.2.2.1
    have HR := Lib.hid hr
    have c0 : w2.cell? ⟨w.heap.size, 0, none⟩ = some (.int .i64 e) := hC.cell rfl
    clear hr hri
    go_upto_region 4 with (fail)
    have hX := BlkAt.new w2 24 [.int .i64 (e + 1), .slice none 0 0]
    have hC := hC.alloc (.cells #[.int .i64 (e + 1), .slice none 0 0] 24)
    have hD := hD.alloc (.cells #[.int .i64 (e + 1), .slice none 0 0] 24)
    have hb := hb.alloc hb.size (.cells #[.int .i64 (e + 1), .slice none 0 0] 24)
    have hWX : w2.heap.size + 1 ≤ (w2.alloc (.cells #[.int .i64 (e + 1), .slice none 0 0] 24)).heap.size := by simp
    change Code.wp _ _ _ _ (w2.alloc (.cells #[.int .i64 (e + 1), .slice none 0 0] 24))
    change BlkAt (w2.alloc (.cells #[.int .i64 (e + 1), .slice none 0 0] 24)) _ _ _ at hX
    generalize w2.alloc (.cells #[.int .i64 (e + 1), .slice none 0 0] 24) = w3 at *
    have hXC : w.heap.size ≠ w2.heap.size := by omega
    have hXD : D ≠ w2.heap.size := by omega
    generalize w2.heap.size = X at *
    clear c0
    go_wp2_with fail
    go_loopw [7] (fun i wr => ∃ (k : Nat) (v : Value), k ≤ L.length ∧ i = .int .i64 k ∧ BlkAt wr X 24 [.int .i64 (e + 1), v] ∧ wr.ownsRow (X + 1) 50 3 v (leftC (L.take k) G).length (seatsCells (leftC (L.take k) G)) ∧ BlkAt wr w.heap.size 24 [.int .i64 e, .slice a L.length cap] ∧ BlkAt wr D 24 [.int .i64 0, .slice none 0 0] ∧ Below w.heap.size w wr ∧ X + 1 ≤ wr.heap.size) (fun i _ => L.length - (intOf i).toNat)
    case atStart => exact ⟨0, .slice none 0 0, Nat.zero_le _, rfl, hX, World.ownsRow_nil _ _ _ _, hC, hD, hb, hWX⟩
    case round =>
      obtain ⟨k, v, hk, rfl, hX, hown, hC, hD, hb, hsz⟩ := hrel
      clear hWX
      have c1 : wr.cell? ⟨w.heap.size, 1, none⟩ = some (.slice a L.length cap) := hC.cell rfl
      by_cases hlt : k < L.length
      · obtain ⟨b, off, rfl, hab, hc⟩ := hs.2.2 (by omega)
        obtain ⟨s, hs'⟩ : ∃ s, L[k]? = some s := ⟨_, List.getElem?_eq_getElem hlt⟩
        have hsw := hc k s hs'
        have HL := Lib.hid (leftC_snoc (G := G) hs')
        have hll : (leftC (L.take k) G).length ≤ 8 := Nat.le_trans (leftC_len _ _) (by rw [List.length_take]; omega)
        obtain ⟨x, y, z⟩ := s
        simp only at HL
        have hHs := Lib.hid hs
        clear hc hs' hs hv
        obtain ⟨wo, rfl⟩ : ∃ wo : World, wo = wr := ⟨_, rfl⟩
        go_wp2_with fail
        clear c1
        go_loopw [8, 9] (fun lb i wi => ∃ (m : Nat) (q : Bool), m ≤ G.length ∧ i = .int .i64 m ∧ lb = .bool q ∧ Aside ((!goneB (G.take m) x y) = q) ∧ Below wo.heap.size wo wi) (fun _ i _ => G.length - (intOf i).toNat)
        case atStart => exact ⟨0, true, Nat.zero_le _, rfl, rfl, rfl, Below.refl _ _⟩
        case round =>
          obtain ⟨m, q, hm, rfl, rfl, HQ, hbi⟩ := hrel
          have hb2 := below_step hb hbi
          have c1 : wr.cell? ⟨w.heap.size, 1, none⟩ = some (.slice (some ⟨b, off, none⟩) L.length cap) := (hC.below hbi).cell rfl
          obtain ⟨s0, s1, s2⟩ := hsw.of (w' := wr) fun j => hb2.cell (p := ⟨b, j, none⟩) hab
          simp only at s0 s1 s2
          by_cases hlm : m < G.length
          · obtain ⟨bg, og, rfl, hag, hcg⟩ := hg2.2 (by omega)
            obtain ⟨g, hg'⟩ : ∃ g, G[m]? = some g := ⟨_, List.getElem?_eq_getElem hlm⟩
            obtain ⟨g0, g1⟩ := hcg m g hg'
            rw [← hb2.cell (p := ⟨bg, _, none⟩) hag] at g0 g1
            have HG := Lib.hid (goneB_snoc hg' x y)
            obtain ⟨gx, gy⟩ := g
            simp only at g0 g1 HG
            have hq := mem_neq gx gy x y
            clear hcg hg' hg2
            cases q with
            | false =>
              have HN := Lib.hid (show (!goneB (G.take (m + 1)) x y) = false by rw [HG.out, Bool.not_or, HQ.out]; rfl)
              clear HG
              go_wp2_with fail
              go_quiet (fail)
              go_wp2_with fail
              go_roundw
              case rel => exact ⟨m + 1, _, by omega, by go_num, rfl, HN.out, below_drewN hbi _⟩
              case measure => simp [intOf]; omega
            | true =>
              have HN := Lib.hid (show (!goneB (G.take (m + 1)) x y) = (!(gx == x) || !(gy == y)) by rw [HG.out, Bool.not_or, HQ.out, Bool.true_and, Bool.not_and])
              clear HG
              go_wp2_with fail
              go_quiet (fail)
              go_wp2_with fail
              go_roundw
              case rel => exact ⟨m + 1, _, by omega, by go_num, rfl, HN.out, below_drewN hbi _⟩
              case measure => simp [intOf]; omega
          · obtain rfl : m = G.length := by omega
            have hX := hX.below hbi
            have hC := hC.below hbi
            have hD := hD.below hbi
            have hown := own_below hown hbi
            have hsz : X + 1 ≤ wr.heap.size := by have := hbi.size; omega
            rw [List.take_of_length_le (Nat.le_refl _)] at HQ
            obtain ⟨w4, rfl⟩ : ∃ w4 : World, w4 = wr := ⟨_, rfl⟩
            clear hbi hb
            cases q with
            | false =>
              have hq : goneB G x y = true := by simpa using HQ.out
              have HK := Lib.hid (show leftC (L.take (k + 1)) G = leftC (L.take k) G by rw [HL.out, show G.contains (x, y) = true from hq]; rfl)
              clear hq
              go_wp2_with fail
              go_roundw
              case rel => exact ⟨k + 1, v, by omega, by go_num, hX, by rw [HK.out]; exact hown, hC, hD, hb2, hsz⟩
              case measure => simp [intOf]; omega
            | true =>
              have hq : goneB G x y = false := by simpa using HQ.out
              have HK := Lib.hid (show leftC (L.take (k + 1)) G = leftC (L.take k) G ++ [⟨x, y, z⟩] by rw [HL.out, show G.contains (x, y) = false from hq]; rfl)
              have HS := Lib.hid hsw
              have hne1 := own_ne hown (D := w.heap.size) (by omega)
              have hne2 := own_ne hown (D := D) (by omega)
              have hne3 := own_ne hown (D := X) (by omega)
              have hne4 := own_ne hown (D := b) (by omega)
              have hCl := hC.lt
              have hDl := hD.lt
              have hXl := hX.lt
              have hbl : b < w4.heap.size := by omega
              have x0 : w4.cell? ⟨X, 1, none⟩ = some v := hX.cell rfl
              have x1 : (w4.alloc (.cells (seatCells ⟨x, y, z⟩).toArray 50)).cell? ⟨X, 1, none⟩ = some v := (hX.alloc _).cell rfl
              clear hq hsw
              go_wp2_with fail
              go_region_law (
                refine step_append_lies _ (by rfl) _ _ _ (by rfl) (X + 1) 50 i0 _ 3 24 Try.underlying22 hi0 hz0 hz1 hz2 rfl (by omega) _ _ _ (by rfl) (hown.drew.alloc _) ⟨w4.heap.size, 0, none⟩ 1 1 (seatCells ⟨x, y, z⟩) (by rfl) (by rfl) (World.news_of_block (heap_alloc_new _ _)) seatCells_one (by omega) (by unfold maxLen; omega) (by omega) (by simp; omega) (w4.heap.size + 1) (by simp) ?_; intro g' cap' w' hown' hg' hat' hlt'; have hC5 : BlkAt w' w.heap.size 24 [.int .i64 e, .slice (some ⟨b, off, none⟩) L.length cap] := (hg'.block _ (by simp; omega) hne1).trans (hC.drew.alloc (.cells (seatCells ⟨x, y, z⟩).toArray 50)); have hD5 : BlkAt w' D 24 [.int .i64 0, .slice none 0 0] := (hg'.block _ (by simp; omega) hne2).trans (hD.drew.alloc (.cells (seatCells ⟨x, y, z⟩).toArray 50)); have hX5 : BlkAt w' X 24 [.int .i64 (e + 1), v] := (hg'.block _ (by simp; omega) hne3).trans (hX.drew.alloc (.cells (seatCells ⟨x, y, z⟩).toArray 50)); have hbX : b ≠ X := (by omega); have c5 : w'.cell? ⟨w.heap.size, 1, none⟩ = some (.slice (some ⟨b, off, none⟩) L.length cap) := hC5.cell rfl; have s3 := (hg'.cell_far ⟨b, off + k * 3, none⟩ (by simp; omega) hne4).trans (cell_alloc_old s0 (.cells (seatCells ⟨x, y, z⟩).toArray 50)); have s4 := (hg'.cell_far ⟨b, off + k * 3 + 1, none⟩ (by simp; omega) hne4).trans (cell_alloc_old s1 (.cells (seatCells ⟨x, y, z⟩).toArray 50)); have s5 := (hg'.cell_far ⟨b, off + k * 3 + 2, none⟩ (by simp; omega) hne4).trans (cell_alloc_old s2 (.cells (seatCells ⟨x, y, z⟩).toArray 50)); have x5 : w'.cell? ⟨X, 1, none⟩ = some v := hX5.cell rfl; have xf := hX5.free 1; have hb5 : Below w.heap.size w w' := (hb2.drew.alloc hb2.size _).grown hg' (by simp; omega) (fun j hj => by have := (hown.lt j hj).1; omega); have hsz5 : X + 1 ≤ w'.heap.size := (by have := hg'.size; simp at this; omega))
              all_goals
                go_wp2_with fail
                go_roundw
                case rel => exact ⟨k + 1, _, by omega, by go_num, hX5.set 1 _, by rw [HK.out, seatsCells_snoc, List.length_append]; exact own_set hown' (by omega), hC5.grown (grown_setCell w' X 1 _) hXC, hD5.grown (grown_setCell w' X 1 _) hXD, grown_below hb5 (grown_setCell w' X 1 _) (by omega), by simp [World.setCell]; omega⟩
                case measure => simp [intOf]; omega
      · have hkl : L.take k = L := List.take_of_length_le (by omega)
        rw [hkl] at hown
        have hll := leftC_len L G
        have hLok' : ∀ s ∈ leftC L G, SeatOk s := fun s h => hLok s (leftC_mem h)
        have HW := Lib.hid (show withoutC ⟨e, L⟩ G = if (leftC L G).length = L.length then (⟨0, []⟩, 10) else if (leftC L G)[0]?.map SeatV.sync = some true then laterC e (leftC L G) else (⟨0, []⟩, 13) by rw [withoutC, if_neg (by rw [HR.out]; simp)])
        clear hkl hs hv hLok
        generalize leftC L G = M at *
        have HO := Lib.hid hLok'
        clear hLok'
        obtain ⟨A, capv, rfl⟩ := own_form hown
        have x1 : wr.cell? ⟨X, 1, none⟩ = some (.slice A M.length capv) := hX.cell rfl
        by_cases h1 : M.length = L.length
        · have HE := Lib.hid (show withoutC ⟨e, L⟩ G = (⟨0, []⟩, 10) by rw [HW.out, if_pos h1])
          have h1' : ((M.length : Int) == (L.length : Int)) = true := by simp; omega
          have h1'' : (M.length : Int) = (L.length : Int) := by omega
          have d0 : wr.cell? ⟨D, 0, none⟩ = some (.int .i64 0) := hD.cell rfl
          have d1 : wr.cell? ⟨D, 1, none⟩ = some (.slice none 0 0) := hD.cell rfl
          have hf := hD.free
          go_wp2_with fail
          obtain ⟨hE, hbE⟩ := fin2 (p := .int .i64 0) (q := .slice none 0 0) hD hb hDn
          change bodyPost _ _ _ _ _ ((wr.setCell ⟨D, 0, none⟩ (.int .i64 0)).setCell ⟨D, 1, none⟩ (.slice none 0 0))
          generalize (wr.setCell ⟨D, 0, none⟩ (.int .i64 0)).setCell ⟨D, 1, none⟩ (.slice none 0 0) = W9 at *
          clear d0 d1
          have d0 := hE.cell (i := 0) rfl
          have d1 := hE.cell (i := 1) rfl
          exact bodyPost_ret (v := .tuple #[.agg #[.int .i64 0, .slice none 0 0], .int .i64 10]) (by simp [results, Try.results13, go_sem, d0, d1] <;> rfl) rfl ⟨.slice none 0 0, by rw [HE.out], by rw [HE.out]; exact ChainAt.nil _, hbE⟩
        · have h1' : ((M.length : Int) == (L.length : Int)) = false := by simp; omega
          have h1'' : ¬ (M.length : Int) = (L.length : Int) := by omega
          cases M with
          | nil =>
            have HE := Lib.hid (show withoutC ⟨e, L⟩ G = (⟨0, []⟩, 13) by rw [HW.out, if_neg h1]; rfl)
            simp only [List.length_nil] at h1' h1'' hown x1 ⊢
            have d0 : wr.cell? ⟨D, 0, none⟩ = some (.int .i64 0) := hD.cell rfl
            have d1 : wr.cell? ⟨D, 1, none⟩ = some (.slice none 0 0) := hD.cell rfl
            have hf := hD.free
            go_wp2_with fail
            obtain ⟨hE, hbE⟩ := fin2 (p := .int .i64 0) (q := .slice none 0 0) hD hb hDn
            change bodyPost _ _ _ _ _ ((wr.setCell ⟨D, 0, none⟩ (.int .i64 0)).setCell ⟨D, 1, none⟩ (.slice none 0 0))
            generalize (wr.setCell ⟨D, 0, none⟩ (.int .i64 0)).setCell ⟨D, 1, none⟩ (.slice none 0 0) = W9 at *
            clear d0 d1
            have d0 := hE.cell (i := 0) rfl
            have d1 := hE.cell (i := 1) rfl
            exact bodyPost_ret (v := .tuple #[.agg #[.int .i64 0, .slice none 0 0], .int .i64 13]) (by simp [results, Try.results13, go_sem, d0, d1] <;> rfl) rfl ⟨.slice none 0 0, by rw [HE.out], by rw [HE.out]; exact ChainAt.nil _, hbE⟩
          | cons s M =>
            obtain ⟨g, capv, hA, hgb, hgl'⟩ := hown.form (by simp)
            cases hA
            have q2 : wr.cell? ⟨g, 2, none⟩ = some (.bool s.sync) := hown.cellAt 2 (by simp; omega)
            have hn2 : 0 < (s :: M).length := by simp
            have HM := Lib.hid (show (s :: M)[0]?.map SeatV.sync = some s.sync from rfl)
            generalize hMd : s :: M = N at *
            have hn0 : ((N.length : Int) == 0) = false := by rw [beq_eq_false_iff_ne]; omega
            have hn1 : (0 : Int) < (N.length : Int) := by omega
            have hn3 : ¬ (N.length : Int) = 0 := by omega
            clear hMd
            cases hz : s.sync with
            | false =>
              rw [hz] at q2
              have HE := Lib.hid (show withoutC ⟨e, L⟩ G = (⟨0, []⟩, 13) by rw [HW.out, if_neg h1, HM.out, hz, if_neg (by simp)])
              have d0 : wr.cell? ⟨D, 0, none⟩ = some (.int .i64 0) := hD.cell rfl
              have d1 : wr.cell? ⟨D, 1, none⟩ = some (.slice none 0 0) := hD.cell rfl
              have hf := hD.free
              go_wp2_with fail
              obtain ⟨hE, hbE⟩ := fin2 (p := .int .i64 0) (q := .slice none 0 0) hD hb hDn
              change bodyPost _ _ _ _ _ ((wr.setCell ⟨D, 0, none⟩ (.int .i64 0)).setCell ⟨D, 1, none⟩ (.slice none 0 0))
              generalize (wr.setCell ⟨D, 0, none⟩ (.int .i64 0)).setCell ⟨D, 1, none⟩ (.slice none 0 0) = W9 at *
              clear d0 d1
              have d0 := hE.cell (i := 0) rfl
              have d1 := hE.cell (i := 1) rfl
              exact bodyPost_ret (v := .tuple #[.agg #[.int .i64 0, .slice none 0 0], .int .i64 13]) (by simp [results, Try.results13, go_sem, d0, d1] <;> rfl) rfl ⟨.slice none 0 0, by rw [HE.out], by rw [HE.out]; exact ChainAt.nil _, hbE⟩
            | true =>
              rw [hz] at q2
              have HW := Lib.hid (show withoutC ⟨e, L⟩ G = laterC e N by rw [HW.out, if_neg h1, HM.out, hz, if_pos rfl])
              have x0 : wr.cell? ⟨X, 0, none⟩ = some (.int .i64 (e + 1)) := hX.cell rfl
              by_cases h2 : 1099511627776 ≤ e
              · have HE := Lib.hid (show withoutC ⟨e, L⟩ G = (⟨0, []⟩, 5) by rw [HW.out, laterC, if_pos h2])
                have h3 : 1099511627776 < e + 1 := by omega
                have d0 : wr.cell? ⟨D, 0, none⟩ = some (.int .i64 0) := hD.cell rfl
                have d1 : wr.cell? ⟨D, 1, none⟩ = some (.slice none 0 0) := hD.cell rfl
                have hf := hD.free
                go_wp2_with fail
                obtain ⟨hE, hbE⟩ := fin2 (p := .int .i64 0) (q := .slice none 0 0) hD hb hDn
                change bodyPost _ _ _ _ _ ((wr.setCell ⟨D, 0, none⟩ (.int .i64 0)).setCell ⟨D, 1, none⟩ (.slice none 0 0))
                generalize (wr.setCell ⟨D, 0, none⟩ (.int .i64 0)).setCell ⟨D, 1, none⟩ (.slice none 0 0) = W9 at *
                clear d0 d1
                have d0 := hE.cell (i := 0) rfl
                have d1 := hE.cell (i := 1) rfl
                exact bodyPost_ret (v := .tuple #[.agg #[.int .i64 0, .slice none 0 0], .int .i64 5]) (by simp [results, Try.results13, go_sem, d0, d1] <;> rfl) rfl ⟨.slice none 0 0, by rw [HE.out], by rw [HE.out]; exact ChainAt.nil _, hbE⟩
              · have HE := Lib.hid (show withoutC ⟨e, L⟩ G = (⟨e + 1, N⟩, 0) by rw [HW.out, laterC, if_neg h2])
                have h3 : ¬ 1099511627776 < e + 1 := by omega
                have d0 : wr.cell? ⟨D, 0, none⟩ = some (.int .i64 0) := hD.cell rfl
                have d1 : wr.cell? ⟨D, 1, none⟩ = some (.slice none 0 0) := hD.cell rfl
                have hf := hD.free
                have hoE := own_set (D := D) (i := 1) (u := .slice (some ⟨g, 0, none⟩) N.length capv) (own_set (D := D) (i := 0) (u := .int .i64 (e + 1)) hown (by omega)) (by omega)
                go_wp2_with fail
                obtain ⟨hE, hbE⟩ := fin2 (p := .int .i64 (e + 1)) (q := .slice (some ⟨g, 0, none⟩) N.length capv) hD hb hDn
                change bodyPost _ _ _ _ _ ((wr.setCell ⟨D, 0, none⟩ (.int .i64 (e + 1))).setCell ⟨D, 1, none⟩ (.slice (some ⟨g, 0, none⟩) N.length capv))
                generalize (wr.setCell ⟨D, 0, none⟩ (.int .i64 (e + 1))).setCell ⟨D, 1, none⟩ (.slice (some ⟨g, 0, none⟩) N.length capv) = W9 at *
                clear d0 d1
                have d0 := hE.cell (i := 0) rfl
                have d1 := hE.cell (i := 1) rfl
                exact bodyPost_ret (v := .tuple #[.agg #[.int .i64 (e + 1), .slice (some ⟨g, 0, none⟩) N.length capv], .int .i64 0]) (by simp [results, Try.results13, go_sem, d0, d1] <;> rfl) rfl ⟨_, by rw [HE.out], by rw [HE.out]; exact chain_of_own hoE HO.out, hbE⟩


end Go.Proofs.Ytofdmdpnobhnlaa
