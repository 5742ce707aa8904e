/- Without. -/
import Derived.Test.YtofdmdpnobhnlaaCfgQFirst
namespace Go.Proofs.Ytofdmdpnobhnlaa
open Go.RowKit Go.ChangeShapes Go.WideShapes Go.Joins
set_option linter.unusedVariables false

theorem leftC_snoc {L : List SeatV} {G : List (Int × Int)} {k : Nat} {s : SeatV} (h : L[k]? = some s) : leftC (L.take (k + 1)) G = if G.contains (s.node, s.life) = true then leftC (L.take k) G else leftC (L.take k) G ++ [s] := by
  rw [take_snoc h, leftC, List.filter_append]
  cases hc : G.contains (s.node, s.life) with
  | true => rw [if_pos rfl]; simp only [List.filter_cons, hc, Bool.not_true, Bool.false_eq_true, if_false, List.filter_nil, List.append_nil]; rfl
  | false => rw [if_neg (by simp)]; simp only [List.filter_cons, hc, Bool.not_false, if_true, List.filter_nil]; rfl
theorem leftC_mem {L : List SeatV} {G : List (Int × Int)} {s : SeatV} (h : s ∈ leftC L G) : s ∈ L := (List.mem_filter.1 h).1
theorem leftC_len (L : List SeatV) (G : List (Int × Int)) : (leftC L G).length ≤ L.length := List.length_filter_le _ _

set_option maxRecDepth 100000 in
set_option maxHeartbeats 4000000 in
theorem cwithout_any {w : World} {v vg : Value} {L : List SeatV} {G : List (Int × Int)} (hv : ChainAt w v L) (hg : MemsV w vg G) (e : Int) :
    Calls Try.prog 12 #[.agg #[.int .i64 e, v], vg] w fun en w' => ConfRes w w' en (withoutC ⟨e, L⟩ G).1 (.int .i64 (withoutC ⟨e, L⟩ G).2) := by
  obtain ⟨i0, hi0, hz0, hz1, hz2⟩ := info_parts seat_full
  obtain ⟨a, cap, rfl, hs⟩ := hv
  obtain ⟨a2, cap2, rfl, hg2⟩ := hg
  have hg : MemsV w (.slice a2 G.length cap2) G := ⟨a2, cap2, rfl, hg2⟩
  have hv : ChainAt w (.slice a L.length cap) L := ⟨a, cap, rfl, hs⟩
  have hlen := hs.1
  unfold maxLen at hlen
  go_enter Try.func12, Try.ntmps12
  go_upto_region 1 with (fail)
  have hC : BlkAt ((w.alloc (.cells #[.int .i64 e, .slice a L.length cap] 24)).alloc (.cells #[.int .i64 0, .slice none 0 0] 24)) w.heap.size 24 [.int .i64 e, .slice a L.length cap] := (BlkAt.new w 24 [.int .i64 e, .slice a L.length cap]).alloc _
  have hD : BlkAt ((w.alloc (.cells #[.int .i64 e, .slice a L.length cap] 24)).alloc (.cells #[.int .i64 0, .slice none 0 0] 24)) (w.heap.size + 1) 24 [.int .i64 0, .slice none 0 0] := BlkAt.newAt (by simp) 24 [.int .i64 0, .slice none 0 0]
  have hb : Below w.heap.size w ((w.alloc (.cells #[.int .i64 e, .slice a L.length cap] 24)).alloc (.cells #[.int .i64 0, .slice none 0 0] 24)) := ((Below.refl w.heap.size w).alloc (Nat.le_refl _) _).alloc (by simp) _
  have hWs : w.heap.size + 2 ≤ ((w.alloc (.cells #[.int .i64 e, .slice a L.length cap] 24)).alloc (.cells #[.int .i64 0, .slice none 0 0] 24)).heap.size := by simp
  change Code.wp _ _ _ _ ((w.alloc (.cells #[.int .i64 e, .slice a L.length cap] 24)).alloc (.cells #[.int .i64 0, .slice none 0 0] 24))
  generalize (w.alloc (.cells #[.int .i64 e, .slice a L.length cap] 24)).alloc (.cells #[.int .i64 0, .slice none 0 0] 24) = W at *
  have hDn : w.heap.size ≤ w.heap.size + 1 := by omega
  have hDb : w.heap.size + 1 < w.heap.size + 2 := by omega
  have hDC : w.heap.size ≠ w.heap.size + 1 := by omega
  generalize hDd : w.heap.size + 1 = D at *
  have c0 : W.cell? ⟨w.heap.size, 0, none⟩ = some (.int .i64 e) := hC.cell rfl
  have c1 : W.cell? ⟨w.heap.size, 1, none⟩ = some (.slice a L.length cap) := hC.cell rfl
  have hvW := hv.below hb
  go_wp2_with fail
  refine (cright_any (by exact hvW) e).mono ?_
  rintro en w2 ⟨rfl, b2⟩
  have hC := hC.below b2
  have hD := hD.below b2
  have hb := below_step hb b2
  have hWs : w.heap.size + 2 ≤ w2.heap.size := by have := b2.size; omega
  clear c0 c1 hvW b2
  cases hr : rightC ⟨e, L⟩ with
  | false =>
    have HE := Lib.hid (show withoutC ⟨e, L⟩ G = (⟨0, []⟩, 3) by rw [withoutC, if_pos hr])
    clear hr
    have d0 : w2.cell? ⟨D, 0, none⟩ = some (.int .i64 0) := hD.cell rfl
    have d1 : w2.cell? ⟨D, 1, none⟩ = some (.slice none 0 0) := hD.cell rfl
    have hf := hD.free
    go_wp2_with fail
    obtain ⟨hE, hbE⟩ := fin2 (p := .int .i64 0) (q := .slice none 0 0) hD hb hDn
    change bodyPost _ _ _ _ _ ((w2.setCell ⟨D, 0, none⟩ (.int .i64 0)).setCell ⟨D, 1, none⟩ (.slice none 0 0))
    generalize (w2.setCell ⟨D, 0, none⟩ (.int .i64 0)).setCell ⟨D, 1, none⟩ (.slice none 0 0) = W9 at *
    clear d0 d1
    have d0 := hE.cell (i := 0) rfl
    have d1 := hE.cell (i := 1) rfl
    exact bodyPost_ret (v := .tuple #[.agg #[.int .i64 0, .slice none 0 0], .int .i64 3]) (by simp [results, Try.results12, go_sem, d0, d1] <;> rfl) rfl ⟨.slice none 0 0, by rw [HE.out], by rw [HE.out]; exact ChainAt.nil _, hbE⟩
  | true =>
    have hri := rightC_iff.1 hr
    have he1 : 1 ≤ e := hri.1
    have he2 : e ≤ 1099511627776 := hri.2.1
    have hl8 : L.length ≤ 8 := hri.2.2.2.1
    have HR := Lib.hid hr
    have c1 : w2.cell? ⟨w.heap.size, 1, none⟩ = some (.slice a L.length cap) := hC.cell rfl
    clear hr hri
    go_wp2_with fail
    go_loopw [6, 16] (fun lv i wr => ∃ k : Nat, k ≤ L.length ∧ i = .int .i64 k ∧ wr.ownsRow (w.heap.size + 2) 50 3 lv (leftC (L.take k) G).length (seatsCells (leftC (L.take k) G)) ∧ BlkAt wr w.heap.size 24 [.int .i64 e, .slice a L.length cap] ∧ BlkAt wr D 24 [.int .i64 0, .slice none 0 0] ∧ Below w.heap.size w wr ∧ w.heap.size + 2 ≤ wr.heap.size) (fun _ i _ => L.length - (intOf i).toNat)
    case atStart => exact ⟨0, Nat.zero_le _, rfl, World.ownsRow_nil _ _ _ _, hC, hD, hb, hWs⟩
    case round =>
      obtain ⟨k, hk, rfl, hown, hC, hD, hb, hsz⟩ := hrel
      clear c1 hWs
      by_cases hlt : k < L.length
      · obtain ⟨b, off, rfl, hab, hc⟩ := hs.2.2 (by omega)
        obtain ⟨s, hs'⟩ : ∃ s, L[k]? = some s := ⟨_, List.getElem?_eq_getElem hlt⟩
        obtain ⟨s0, s1, s2⟩ := (hc k s hs').of (w' := wr) fun j => hb.cell (p := ⟨b, j, none⟩) hab
        have HL := Lib.hid (leftC_snoc (G := G) hs')
        have hll : (leftC (L.take k) G).length ≤ 8 := Nat.le_trans (leftC_len _ _) (by rw [List.length_take]; omega)
        obtain ⟨x, y, z⟩ := s
        simp only at s0 s1 s2 HL
        have hHs := Lib.hid hs
        clear hc hs' hs
        go_upto_region 7 with (fail)
        have hP := BlkAt.new wr 50 [.int .i64 x, .int .i64 y, .bool z]
        have hC := hC.alloc (.cells #[.int .i64 x, .int .i64 y, .bool z] 50)
        have hD := hD.alloc (.cells #[.int .i64 x, .int .i64 y, .bool z] 50)
        have hown := hown.alloc (.cells #[.int .i64 x, .int .i64 y, .bool z] 50)
        have hb := hb.alloc hb.size (.cells #[.int .i64 x, .int .i64 y, .bool z] 50)
        have hsz : w.heap.size + 2 ≤ (wr.alloc (.cells #[.int .i64 x, .int .i64 y, .bool z] 50)).heap.size := by simp; omega
        change Code.wp _ _ _ _ (wr.alloc (.cells #[.int .i64 x, .int .i64 y, .bool z] 50))
        change BlkAt (wr.alloc (.cells #[.int .i64 x, .int .i64 y, .bool z] 50)) _ _ _ at hP
        generalize wr.alloc (.cells #[.int .i64 x, .int .i64 y, .bool z] 50) = w3 at *
        generalize wr.heap.size = X at *
        clear s0 s1 s2
        have p0 : w3.cell? ⟨X, 0, none⟩ = some (.int .i64 x) := hP.cell rfl
        have p1 : w3.cell? ⟨X, 1, none⟩ = some (.int .i64 y) := hP.cell rfl
        have hgw := hg.below hb
        go_wp2_with fail
        refine (contmem_any (by exact hgw) x y).mono ?_
        rintro en w4 ⟨rfl, b4⟩
        have hP := hP.below b4
        have hC := hC.below b4
        have hD := hD.below b4
        have hown := own_below hown b4
        have hb := below_step hb b4
        have hsz : w.heap.size + 2 ≤ w4.heap.size := by have := b4.size; omega
        clear p0 p1 hgw b4
        cases hq : G.contains (x, y) with
        | true =>
          have HK := Lib.hid (show leftC (L.take (k + 1)) G = leftC (L.take k) G by rw [HL.out, hq]; rfl)
          go_wp2_with fail
          go_roundw
          case rel => exact ⟨k + 1, by omega, by go_num, by rw [HK.out]; exact hown, hC, hD, hb, hsz⟩
          case measure => simp [intOf]; omega
        | false =>
          have HK := Lib.hid (show leftC (L.take (k + 1)) G = leftC (L.take k) G ++ [⟨x, y, z⟩] by rw [HL.out, hq]; rfl)
          have p0 : w4.cell? ⟨X, 0, none⟩ = some (.int .i64 x) := hP.cell rfl
          have p1 : w4.cell? ⟨X, 1, none⟩ = some (.int .i64 y) := hP.cell rfl
          have p2 : w4.cell? ⟨X, 2, none⟩ = some (.bool z) := hP.cell rfl
          go_wp2_with (at_builtin; refine wpList_append_lies _ rfl (.tmp 25) (.tmp 27) 22 rfl (w.heap.size + 2) 50 i0 _ 3 24 Try.underlying22 hi0 hz0 hz1 hz2 rfl (by omega) _ _ _ rfl (hown.alloc _) ⟨w4.heap.size, 0, none⟩ 1 1 (seatCells ⟨x, y, z⟩) rfl rfl ?c1 ?c2 (by omega) ?c3 ?c4 ?c5 (w4.heap.size + 1) ?c6 ?_)
          case c1 => exact World.news_of_block (heap_alloc_new _ _)
          case c2 => exact seatCells_one
          case c3 => unfold maxLen; omega
          case c4 => omega
          case c5 => simp; omega
          case c6 => simp
          intro g' cap' w' hown' hg' hat' hlt'
          have hne1 := own_ne hown (D := w.heap.size) (by omega)
          have hne2 := own_ne hown (D := D) (by omega)
          have hCl := hC.lt
          have hDl := hD.lt
          have hC2 : BlkAt w' w.heap.size 24 [.int .i64 e, .slice (some ⟨b, off, none⟩) L.length cap] := (hg'.block _ (by simp; omega) hne1).trans (hC.alloc (.cells (seatCells ⟨x, y, z⟩).toArray 50))
          have hD2 : BlkAt w' D 24 [.int .i64 0, .slice none 0 0] := (hg'.block _ (by simp; omega) hne2).trans (hD.alloc (.cells (seatCells ⟨x, y, z⟩).toArray 50))
          have hb2 : Below w.heap.size w w' := (hb.alloc hb.size _).grown hg' (by simp; omega) (fun j hj => by have := (hown.lt j hj).1; omega)
          have hsz2 : w.heap.size + 2 ≤ w'.heap.size := by have := hg'.size; simp at this; omega
          clear hg' hat' hD hC hown hb hsz p0 p1 p2
          go_wp2_with fail
          go_roundw
          case rel => exact ⟨k + 1, by omega, by go_num, by rw [HK.out, seatsCells_snoc, List.length_append]; exact hown', hC2, hD2, hb2, hsz2⟩
          case measure => simp [intOf]; omega
      · have hkl : L.take k = L := List.take_of_length_le (by omega)
        rw [hkl] at hown
        have hll := leftC_len L G
        have hLok : ∀ s ∈ leftC L G, SeatOk s := fun s h => hs.2.1 s (leftC_mem h)
        have HW := Lib.hid (show withoutC ⟨e, L⟩ G = if (leftC L G).length = L.length then (⟨0, []⟩, 10) else if (leftC L G)[0]?.map SeatV.sync = some true then laterC e (leftC L G) else (⟨0, []⟩, 13) by rw [withoutC, if_neg (by rw [HR.out]; simp)])
        clear hkl hs hv
        generalize leftC L G = M at *
        have c1 : wr.cell? ⟨w.heap.size, 1, none⟩ = some (.slice a L.length cap) := hC.cell rfl
        by_cases h1 : M.length = L.length
        · have HE := Lib.hid (show withoutC ⟨e, L⟩ G = (⟨0, []⟩, 10) by rw [HW.out, if_pos h1])
          obtain ⟨A, capv, rfl⟩ := own_form hown
          have h1' : ((M.length : Int) == (L.length : Int)) = true := by simp; omega
          have h1'' : (M.length : Int) = (L.length : Int) := by omega
          have d0 : wr.cell? ⟨D, 0, none⟩ = some (.int .i64 0) := hD.cell rfl
          have d1 : wr.cell? ⟨D, 1, none⟩ = some (.slice none 0 0) := hD.cell rfl
          have hf := hD.free
          go_wp2_with fail
          obtain ⟨hE, hbE⟩ := fin2 (p := .int .i64 0) (q := .slice none 0 0) hD hb hDn
          change bodyPost _ _ _ _ _ ((wr.setCell ⟨D, 0, none⟩ (.int .i64 0)).setCell ⟨D, 1, none⟩ (.slice none 0 0))
          generalize (wr.setCell ⟨D, 0, none⟩ (.int .i64 0)).setCell ⟨D, 1, none⟩ (.slice none 0 0) = W9 at *
          clear d0 d1
          have d0 := hE.cell (i := 0) rfl
          have d1 := hE.cell (i := 1) rfl
          exact bodyPost_ret (v := .tuple #[.agg #[.int .i64 0, .slice none 0 0], .int .i64 10]) (by simp [results, Try.results12, go_sem, d0, d1] <;> rfl) rfl ⟨.slice none 0 0, by rw [HE.out], by rw [HE.out]; exact ChainAt.nil _, hbE⟩
        · have h1' : ((M.length : Int) == (L.length : Int)) = false := by simp; omega
          have h1'' : ¬ (M.length : Int) = (L.length : Int) := by omega
          cases M with
          | nil =>
            have HE := Lib.hid (show withoutC ⟨e, L⟩ G = (⟨0, []⟩, 13) by rw [HW.out, if_neg h1]; rfl)
            obtain ⟨A, capv, rfl⟩ := own_form hown
            simp only [List.length_nil] at h1' h1'' hown ⊢
            have d0 : wr.cell? ⟨D, 0, none⟩ = some (.int .i64 0) := hD.cell rfl
            have d1 : wr.cell? ⟨D, 1, none⟩ = some (.slice none 0 0) := hD.cell rfl
            have hf := hD.free
            go_wp2_with fail
            obtain ⟨hE, hbE⟩ := fin2 (p := .int .i64 0) (q := .slice none 0 0) hD hb hDn
            change bodyPost _ _ _ _ _ ((wr.setCell ⟨D, 0, none⟩ (.int .i64 0)).setCell ⟨D, 1, none⟩ (.slice none 0 0))
            generalize (wr.setCell ⟨D, 0, none⟩ (.int .i64 0)).setCell ⟨D, 1, none⟩ (.slice none 0 0) = W9 at *
            clear d0 d1
            have d0 := hE.cell (i := 0) rfl
            have d1 := hE.cell (i := 1) rfl
            exact bodyPost_ret (v := .tuple #[.agg #[.int .i64 0, .slice none 0 0], .int .i64 13]) (by simp [results, Try.results12, go_sem, d0, d1] <;> rfl) rfl ⟨.slice none 0 0, by rw [HE.out], by rw [HE.out]; exact ChainAt.nil _, hbE⟩
          | cons s M =>
            obtain ⟨g, capv, rfl, hgb, hgl⟩ := hown.form (by simp)
            have q2 : wr.cell? ⟨g, 2, none⟩ = some (.bool s.sync) := hown.cellAt 2 (by simp; omega)
            have hn2 : 0 < (s :: M).length := by simp
            generalize hMn : (s :: M).length = n at *
            have hn0 : ((n : Int) == 0) = false := by rw [beq_eq_false_iff_ne]; omega
            have hn1 : (0 : Int) < (n : Int) := by omega
            have hn3 : ¬ (n : Int) = 0 := by omega
            cases hz : s.sync with
            | false =>
              rw [hz] at q2
              have HE := Lib.hid (show withoutC ⟨e, L⟩ G = (⟨0, []⟩, 13) by rw [HW.out, if_neg h1, if_neg (by simp [hz])])
              have d0 : wr.cell? ⟨D, 0, none⟩ = some (.int .i64 0) := hD.cell rfl
              have d1 : wr.cell? ⟨D, 1, none⟩ = some (.slice none 0 0) := hD.cell rfl
              have hf := hD.free
              go_wp2_with fail
              obtain ⟨hE, hbE⟩ := fin2 (p := .int .i64 0) (q := .slice none 0 0) hD hb hDn
              change bodyPost _ _ _ _ _ ((wr.setCell ⟨D, 0, none⟩ (.int .i64 0)).setCell ⟨D, 1, none⟩ (.slice none 0 0))
              generalize (wr.setCell ⟨D, 0, none⟩ (.int .i64 0)).setCell ⟨D, 1, none⟩ (.slice none 0 0) = W9 at *
              clear d0 d1
              have d0 := hE.cell (i := 0) rfl
              have d1 := hE.cell (i := 1) rfl
              exact bodyPost_ret (v := .tuple #[.agg #[.int .i64 0, .slice none 0 0], .int .i64 13]) (by simp [results, Try.results12, go_sem, d0, d1] <;> rfl) rfl ⟨.slice none 0 0, by rw [HE.out], by rw [HE.out]; exact ChainAt.nil _, hbE⟩
            | true =>
              rw [hz] at q2
              have HW := Lib.hid (show withoutC ⟨e, L⟩ G = laterC e (s :: M) by rw [HW.out, if_neg h1, if_pos (by simp [hz])])
              by_cases h2 : 1099511627776 ≤ e
              · have HE := Lib.hid (show withoutC ⟨e, L⟩ G = (⟨0, []⟩, 5) by rw [HW.out, laterC, if_pos h2])
                go_wp2_with fail
                refine (later_full (by exact hC) h2).mono ?_
                rintro en w4 ⟨rfl, b4⟩
                have hD := hD.below b4
                have hb := below_step hb b4
                clear b4 q2 c1
                have d0 : w4.cell? ⟨D, 0, none⟩ = some (.int .i64 0) := hD.cell rfl
                have d1 : w4.cell? ⟨D, 1, none⟩ = some (.slice none 0 0) := hD.cell rfl
                have hf := hD.free
                go_wp2_with fail
                obtain ⟨hE, hbE⟩ := fin2 (p := .int .i64 0) (q := .slice none 0 0) hD hb hDn
                change bodyPost _ _ _ _ _ ((w4.setCell ⟨D, 0, none⟩ (.int .i64 0)).setCell ⟨D, 1, none⟩ (.slice none 0 0))
                generalize (w4.setCell ⟨D, 0, none⟩ (.int .i64 0)).setCell ⟨D, 1, none⟩ (.slice none 0 0) = W9 at *
                clear d0 d1
                have d0 := hE.cell (i := 0) rfl
                have d1 := hE.cell (i := 1) rfl
                exact bodyPost_ret (v := .tuple #[.agg #[.int .i64 0, .slice none 0 0], .int .i64 5]) (by simp [results, Try.results12, go_sem, d0, d1] <;> rfl) rfl ⟨.slice none 0 0, by rw [HE.out], by rw [HE.out]; exact ChainAt.nil _, hbE⟩
              · have HE := Lib.hid (show withoutC ⟨e, L⟩ G = (⟨e + 1, s :: M⟩, 0) by rw [HW.out, laterC, if_neg h2])
                have HO := Lib.hid hLok
                generalize hMd : s :: M = N at *
                subst hMn
                clear hLok hMd
                go_wp2_with fail
                refine (later_ok (by exact hC) (by omega) (by omega)).mono ?_
                rintro en w4 ⟨rfl, b4⟩
                have hD := hD.below b4
                have hown := own_below hown b4
                have hb := below_step hb b4
                clear b4 q2 c1
                have d0 : w4.cell? ⟨D, 0, none⟩ = some (.int .i64 0) := hD.cell rfl
                have d1 : w4.cell? ⟨D, 1, none⟩ = some (.slice none 0 0) := hD.cell rfl
                have hf := hD.free
                have hoE := own_set (D := D) (i := 1) (u := .slice (some ⟨g, 0, none⟩) N.length capv) (own_set (D := D) (i := 0) (u := .int .i64 (e + 1)) hown (by omega)) (by omega)
                go_wp2_with fail
                obtain ⟨hE, hbE⟩ := fin2 (p := .int .i64 (e + 1)) (q := .slice (some ⟨g, 0, none⟩) N.length capv) hD hb hDn
                change bodyPost _ _ _ _ _ ((w4.setCell ⟨D, 0, none⟩ (.int .i64 (e + 1))).setCell ⟨D, 1, none⟩ (.slice (some ⟨g, 0, none⟩) N.length capv))
                generalize (w4.setCell ⟨D, 0, none⟩ (.int .i64 (e + 1))).setCell ⟨D, 1, none⟩ (.slice (some ⟨g, 0, none⟩) N.length capv) = W9 at *
                clear d0 d1
                have d0 := hE.cell (i := 0) rfl
                have d1 := hE.cell (i := 1) rfl
                exact bodyPost_ret (v := .tuple #[.agg #[.int .i64 (e + 1), .slice (some ⟨g, 0, none⟩) N.length capv], .int .i64 0]) (by simp [results, Try.results12, go_sem, d0, d1] <;> rfl) rfl ⟨_, by rw [HE.out], by rw [HE.out]; exact chain_of_own hoE HO.out, hbE⟩

end Go.Proofs.Ytofdmdpnobhnlaa
