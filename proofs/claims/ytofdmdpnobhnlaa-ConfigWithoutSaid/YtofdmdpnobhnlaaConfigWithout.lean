/- ConfigWithout: for every chain, every row of members and every member the law answers true. No condition. -/
import Derived.Test.YtofdmdpnobhnlaaCfgGone
import Derived.Test.YtofdmdpnobhnlaaCfgSteps
import Derived.Deep.DeepCutAuto
import Derived.Deep.RegionHeld3
namespace Go.Proofs.Ytofdmdpnobhnlaa
open Go.RowKit Go.ChangeShapes Go.WideShapes Go.Joins Go.Deep
set_option linter.unusedVariables false

theorem i64_wrap64 (x : Int) : IntKind.i64.wrap x = wrap64 x := by rw [IntKind.wrap_i64]; unfold wrap64; omega
theorem place_in {L : List SeatV} (h : L.Pairwise (fun s t => s.node ≠ t.node)) {k : Nat} {s : SeatV} (hs : L[k]? = some s) : placeC L s.node s.life = k := by
  refine placeBy_hit hs (by simp) fun j t hj ht => ?_
  rw [Bool.eq_false_iff]
  intro hp
  simp only [Bool.and_eq_true, beq_iff_eq] at hp
  have hne := List.pairwise_iff_getElem.1 h j k (List.getElem?_eq_some_iff.1 ht).1 (List.getElem?_eq_some_iff.1 hs).1 hj
  rw [(List.getElem?_eq_some_iff.1 ht).2, (List.getElem?_eq_some_iff.1 hs).2] at hne
  exact hne hp.1
theorem place_rises {L M : List SeatV} (h : L.Pairwise (fun s t => s.node ≠ t.node)) (hM : M.Sublist L) : M.Pairwise (fun s t => placeC L s.node s.life < placeC L t.node t.life) := by
  refine List.Pairwise.sublist hM (List.pairwise_iff_getElem.2 fun i j hi hj hij => ?_)
  rw [place_in h (List.getElem?_eq_getElem hi), place_in h (List.getElem?_eq_getElem hj)]
  omega
/-- Where the one ahead sat. -/
def lastP (L M : List SeatV) : Nat → Int
  | 0 => -1
  | k + 1 => match M[k]? with | some s => placeC L s.node s.life | none => -1
theorem last_less {L M : List SeatV} (h : L.Pairwise (fun s t => s.node ≠ t.node)) (hM : M.Sublist L) {k : Nat} {s : SeatV} (hs : M[k]? = some s) : ¬ placeC L s.node s.life ≤ lastP L M k := by
  cases k with
  | zero =>
    obtain ⟨i, hi⟩ := List.getElem?_of_mem (hM.subset (List.mem_of_getElem? hs))
    rw [place_in h hi, lastP]
    omega
  | succ k =>
    have hk := (List.getElem?_eq_some_iff.1 hs).1
    have := List.pairwise_iff_getElem.1 (place_rises h hM) k (k + 1) (by omega) hk (by omega)
    rw [(List.getElem?_eq_some_iff.1 hs).2] at this
    simp only [lastP, List.getElem?_eq_getElem (show k < M.length by omega)]
    omega
theorem stays {L : List SeatV} {G : List (Int × Int)} {s : SeatV} (h : s ∈ leftC L G) {g : Int × Int} (hg : g ∈ G) : (g.1 == s.node && g.2 == s.life) = false := by
  have h2 := (List.mem_filter.1 h).2
  rw [Bool.eq_false_iff]
  intro he
  simp only [Bool.and_eq_true, beq_iff_eq] at he
  have : (s.node, s.life) = g := Prod.ext he.1.symm he.2.symm
  rw [this] at h2
  have hc : G.contains g = true := by simpa using hg
  rw [hc] at h2
  simp at h2
/-- How many of the first k stay. -/
def stayP (L M : List SeatV) (k : Nat) : Nat := (L.take k).countP fun s => decide (0 ≤ placeC M s.node s.life)
theorem stay_succ {L M : List SeatV} {k : Nat} {s : SeatV} (hs : L[k]? = some s) : stayP L M (k + 1) = if 0 ≤ placeC M s.node s.life then stayP L M k + 1 else stayP L M k := by
  unfold stayP
  rw [List.take_add_one, hs, Option.toList_some, List.countP_append]
  simp only [List.countP_cons, List.countP_nil, decide_eq_true_eq]
  split <;> rfl
theorem stay_all (L : List SeatV) (G : List (Int × Int)) : stayP L (leftC L G) L.length = (leftC L G).length := by
  unfold stayP
  rw [List.take_length]
  unfold leftC
  rw [← List.countP_eq_length_filter]
  apply List.countP_congr
  intro s hs
  have := placeBy_any (fun t => t.node == s.node && t.life == s.life) (leftC L G)
  show decide (0 ≤ placeBy (fun t => t.node == s.node && t.life == s.life) (leftC L G)) = true ↔ _
  rw [this]
  simp only [List.any_eq_true, Bool.and_eq_true, beq_iff_eq]
  constructor
  · rintro ⟨t, ht, h1, h2⟩
    have := (List.mem_filter.1 ht).2
    rw [h1, h2] at this
    exact this
  · intro h
    exact ⟨s, List.mem_filter.2 ⟨hs, h⟩, rfl, rfl⟩
theorem stay_le (L M : List SeatV) (k : Nat) : stayP L M k ≤ L.length := by
  unfold stayP
  exact Nat.le_trans List.countP_le_length (by rw [List.length_take]; omega)
theorem join_last {L : List SeatV} {n l : Int} (ha : L.any (fun s => s.node == n) = false) : atC (L ++ [⟨n, l, false⟩]) (((L ++ [(⟨n, l, false⟩ : SeatV)]).length : Int) - 1) = (n, l, true) ∧ placeC (L ++ [⟨n, l, false⟩]) n l = (L.length : Nat) := by
  constructor
  · have : (((L ++ [(⟨n, l, false⟩ : SeatV)]).length : Int) - 1) = (L.length : Nat) := by simp
    rw [this]
    exact atC_in (s := ⟨n, l, false⟩) (by simp)
  · refine placeBy_hit (s := ⟨n, l, false⟩) (by simp) (by simp) fun j t hj ht => ?_
    rw [List.getElem?_append_left hj] at ht
    rw [List.any_eq_false] at ha
    have := ha t (List.mem_of_getElem? ht)
    simp_all

set_option maxRecDepth 100000 in
set_option maxHeartbeats 4000000 in

theorem ConfigWithout_go {w : World} {e x y : Int} {a ag : Option Addr} {cap cag : Nat} {L : List SeatV} {G : List (Int × Int)} (hv : ChainAt w (.slice a L.length cap) L) (hg : MemsV w (.slice ag G.length cag) G) (hGl : G.length ≤ maxLen) (hx : W64 x) (hy : W64 y) :
    Calls Try.prog 6 #[.agg #[.int .i64 e, .slice a L.length cap], .slice ag G.length cag, .agg #[.int .i64 x, .int .i64 y]] w fun e w' => e = .returned (.bool true) ∧ Below w.heap.size w w' := by
  have hv0 := hv
  have hg0 := hg
  unfold maxLen at hGl
  have hlen : L.length ≤ 9223372036854775807 := by
    obtain ⟨_, _, h, hs⟩ := hv
    cases h
    exact hs.1
  clear hg
  go_enter Try.func6, Try.ntmps6
  go_upto_region 1 with (fail)
  have hC : BlkAt ((w.alloc (.cells #[.int .i64 e, .slice a L.length cap] 24)).alloc (.cells #[.int .i64 x, .int .i64 y] 27)) w.heap.size 24 [.int .i64 e, .slice a L.length cap] := (BlkAt.new w 24 [.int .i64 e, .slice a L.length cap]).alloc _
  have hM : BlkAt ((w.alloc (.cells #[.int .i64 e, .slice a L.length cap] 24)).alloc (.cells #[.int .i64 x, .int .i64 y] 27)) (w.heap.size + 1) 27 [.int .i64 x, .int .i64 y] := BlkAt.newAt (by simp) 27 [.int .i64 x, .int .i64 y]
  have hb : Below w.heap.size w ((w.alloc (.cells #[.int .i64 e, .slice a L.length cap] 24)).alloc (.cells #[.int .i64 x, .int .i64 y] 27)) := ((Below.refl w.heap.size w).alloc (Nat.le_refl _) _).alloc (by simp) _
  have hWs : w.heap.size + 2 ≤ ((w.alloc (.cells #[.int .i64 e, .slice a L.length cap] 24)).alloc (.cells #[.int .i64 x, .int .i64 y] 27)).heap.size := by simp
  have hv := hv.below hb
  change Code.wp _ _ _ _ ((w.alloc (.cells #[.int .i64 e, .slice a L.length cap] 24)).alloc (.cells #[.int .i64 x, .int .i64 y] 27))
  generalize (w.alloc (.cells #[.int .i64 e, .slice a L.length cap] 24)).alloc (.cells #[.int .i64 x, .int .i64 y] 27) = W at *
  have hM0n : w.heap.size ≤ w.heap.size + 1 := by omega
  have hM0b : w.heap.size + 1 < w.heap.size + 2 := by omega
  have hM00 : w.heap.size + 1 ≠ w.heap.size := by omega
  generalize hM0d : w.heap.size + 1 = M0 at *
  clear hWs
  go_wp2_with fail
  refine (awake_any _).mono ?_
  rintro en w1 ⟨rfl, b1⟩
  have hC := BlkAt.below (by exact hC) b1
  have hM := BlkAt.below (by exact hM) b1
  have hv := hv.below b1
  have hb := below_step hb b1
  clear b1
  by_cases hf : L.length ≤ 40
  · have hfd : decide (L.length ≤ 40) = true := by simpa using hf
    have HF := Lib.hid hfd
    clear hfd
    have fhC0 : w1.cell? ⟨w.heap.size, 0, none⟩ = some (.int .i64 e) := hC.cell rfl
    have fhC1 : w1.cell? ⟨w.heap.size, 1, none⟩ = some (.slice a L.length cap) := hC.cell rfl
    go_wp2_with fail
    refine (few_one (by exact BlkAt.new _ 24 [.int .i64 e, .slice a L.length cap]) (by exact hv.alloc _)).mono ?_
    rintro en w2 ⟨rfl, b2⟩
    have hC := BlkAt.below (by exact hC.alloc (.cells #[.int .i64 e, .slice a L.length cap] 24)) b2
    have hM := BlkAt.below (by exact hM.alloc (.cells #[.int .i64 e, .slice a L.length cap] 24)) b2
    have hv := (hv.alloc (.cells #[.int .i64 e, .slice a L.length cap] 24)).below b2
    have hb := below_step (hb.alloc hb.size (.cells #[.int .i64 e, .slice a L.length cap] 24)) b2
    clear fhC0 fhC1 b2
    rw [HF.out]
    by_cases h4 : G.length ≤ 20
    · have h4' : ¬ (20 : Int) < (G.length : Int) := by omega
      obtain ⟨pe, pL, px, hP⟩ := conf_parts (withoutC ⟨e, L⟩ G)
      have HW := Lib.hid hP
      clear hP
      have hWs : w.heap.size + 2 ≤ w2.heap.size := by have := hM.lt; omega
      go_upto_region 3 with (fail)
      have fC0 : w2.cell? ⟨w.heap.size, 0, none⟩ = some (.int .i64 e) := hC.cell rfl
      have fC1 : w2.cell? ⟨w.heap.size, 1, none⟩ = some (.slice a L.length cap) := hC.cell rfl
      go_cut [7, 8] (fun s7 s8 wx => ∃ (X : Nat) (a2 : Option Addr) (cap2 : Nat), s7 = .pointer (some ⟨X, 0, none⟩) ∧ s8 = .int .i64 px ∧ BlkAt wx X 24 [.int .i64 pe, .slice a2 pL.length cap2] ∧ ChainAt wx (.slice a2 pL.length cap2) pL ∧ BlkAt wx w.heap.size 24 [.int .i64 e, .slice a L.length cap] ∧ BlkAt wx M0 27 [.int .i64 x, .int .i64 y] ∧ Below w.heap.size w wx ∧ w.heap.size + 2 ≤ X)
      case first =>
        go_region_held3 (fun w' => w'.cell? ⟨w.heap.size, 0, none⟩ = some (.int .i64 e) ∧ w'.cell? ⟨w.heap.size, 1, none⟩ = some (.slice a L.length cap))
          (first | exact ⟨fC0, fC1⟩ | exact ⟨(hC.alloc _).cell rfl, (hC.alloc _).cell rfl⟩ | exact ⟨((hC.alloc _).alloc _).cell rfl, ((hC.alloc _).alloc _).cell rfl⟩ | exact ⟨((hC.grown (grown_setCell _ _ 0 _) (by omega)).grown (grown_setCell _ _ 1 _) (by omega)).cell rfl, ((hC.grown (grown_setCell _ _ 0 _) (by omega)).grown (grown_setCell _ _ 1 _) (by omega)).cell rfl⟩ | go_keep)
          (first
          | (have hb1 := hb.alloc hb.size (.cells #[] 27); have hb1 := hb1.drew; refine step_append_mems (by rfl) _ _ (by rfl) (by rfl) (by rfl) (hg0.below (by exact hb1)) (by omega) ?_; intro b6 cap6 w6 hm6 bz; have hm6 := Lib.hid hm6; have hC := BlkAt.below (by exact hC.alloc (.cells #[] 27)) bz; have hM := BlkAt.below (by exact hM.alloc (.cells #[] 27)) bz; have hb : Below w.heap.size w w6 := below_step (by exact hb1) bz; have fC0 : w6.cell? ⟨w.heap.size, 0, none⟩ = some (.int .i64 e) := hC.cell rfl; have fC1 : w6.cell? ⟨w.heap.size, 1, none⟩ = some (.slice a L.length cap) := hC.cell rfl; have hCl := Nat.le_trans (show w.heap.size + 2 ≤ _ by first | exact hWs | (simp <;> omega)) bz.size; clear bz hb1)
          | (have hb1 := hb.alloc hb.size (.cells #[.int .i64 0, .slice none 0 0] 24); have hb1 := hb1.alloc hb1.size (.cells #[] 27); have hb1 := hb1.drew; refine step_append_mems (by rfl) _ _ (by rfl) (by rfl) (by rfl) (hg0.below (by exact hb1)) (by omega) ?_; intro b6 cap6 w6 hm6 bz; have hm6 := Lib.hid hm6; have hC := BlkAt.below (by exact (hC.alloc (.cells #[.int .i64 0, .slice none 0 0] 24)).alloc (.cells #[] 27)) bz; have hM := BlkAt.below (by exact (hM.alloc (.cells #[.int .i64 0, .slice none 0 0] 24)).alloc (.cells #[] 27)) bz; have hb : Below w.heap.size w w6 := below_step (by exact hb1) bz; have fC0 : w6.cell? ⟨w.heap.size, 0, none⟩ = some (.int .i64 e) := hC.cell rfl; have fC1 : w6.cell? ⟨w.heap.size, 1, none⟩ = some (.slice a L.length cap) := hC.cell rfl; have hCl := Nat.le_trans (show w.heap.size + 2 ≤ _ by first | exact hWs | (simp <;> omega)) bz.size; have hX : BlkAt w6 (w2.heap.size) 24 [.int .i64 0, .slice none 0 0] := BlkAt.below (by exact (BlkAt.new w2 24 [.int .i64 0, .slice none 0 0]).alloc (.cells #[] 27)) bz; have hXn : w.heap.size + 2 ≤ w2.heap.size := (by omega); clear bz hb1)
          | (have hb1 := hb.alloc hb.size (.cells #[] 27); have hb1 := hb1.alloc hb1.size (.cells #[.int .i64 0, .slice none 0 0] 24); have hb1 := hb1.drew; refine step_append_mems (by rfl) _ _ (by rfl) (by rfl) (by rfl) (hg0.below (by exact hb1)) (by omega) ?_; intro b6 cap6 w6 hm6 bz; have hm6 := Lib.hid hm6; have hC := BlkAt.below (by exact (hC.alloc (.cells #[] 27)).alloc (.cells #[.int .i64 0, .slice none 0 0] 24)) bz; have hM := BlkAt.below (by exact (hM.alloc (.cells #[] 27)).alloc (.cells #[.int .i64 0, .slice none 0 0] 24)) bz; have hb : Below w.heap.size w w6 := below_step (by exact hb1) bz; have fC0 : w6.cell? ⟨w.heap.size, 0, none⟩ = some (.int .i64 e) := hC.cell rfl; have fC1 : w6.cell? ⟨w.heap.size, 1, none⟩ = some (.slice a L.length cap) := hC.cell rfl; have hCl := Nat.le_trans (show w.heap.size + 2 ≤ _ by first | exact hWs | (simp <;> omega)) bz.size; have hX : BlkAt w6 (w2.heap.size + 1) 24 [.int .i64 0, .slice none 0 0] := BlkAt.below (by exact BlkAt.newAt (w := w2.alloc (.cells #[] 27)) (by simp) 24 [.int .i64 0, .slice none 0 0]) bz; have hXn : w.heap.size + 2 ≤ w2.heap.size + 1 := (by omega); clear bz hb1)
          | (go_at_call 12; refine (cwithout_at (by exact hv0.below hb) (by exact hm6.out) HW.out).mono ?_; rintro en w7 ⟨a2, cap2, rfl, hv2, bz⟩; have hC := BlkAt.below (by exact hC) bz; have hM := BlkAt.below (by exact hM) bz; have hb : Below w.heap.size w w7 := below_step (by exact hb) bz; have fC0 : w7.cell? ⟨w.heap.size, 0, none⟩ = some (.int .i64 e) := hC.cell rfl; have fC1 : w7.cell? ⟨w.heap.size, 1, none⟩ = some (.slice a L.length cap) := hC.cell rfl; have hCl := Nat.le_trans hCl bz.size; (try (have hX := BlkAt.below (by exact hX) bz; have x0 := hX.cell (i := 0) rfl; have x1 := hX.cell (i := 1) rfl; have xf := hX.free)); clear bz)
          | (go_at_call 12; refine (cwithout_at (by exact hv0.below (hb.alloc hb.size (.cells #[.int .i64 0, .slice none 0 0] 24))) (by exact MemsV.below hm6.out ((Below.refl _ _).alloc (Nat.le_refl _) (.cells #[.int .i64 0, .slice none 0 0] 24))) HW.out).mono ?_; rintro en w7 ⟨a2, cap2, rfl, hv2, bz⟩; have hX := BlkAt.below (by exact BlkAt.new w6 24 [.int .i64 0, .slice none 0 0]) bz; have x0 := hX.cell (i := 0) rfl; have x1 := hX.cell (i := 1) rfl; have xf := hX.free; have hC := BlkAt.below (by exact hC.alloc (.cells #[.int .i64 0, .slice none 0 0] 24)) bz; have hM := BlkAt.below (by exact hM.alloc (.cells #[.int .i64 0, .slice none 0 0] 24)) bz; have hb : Below w.heap.size w w7 := below_step (by exact hb.alloc hb.size (.cells #[.int .i64 0, .slice none 0 0] 24)) bz; have fC0 : w7.cell? ⟨w.heap.size, 0, none⟩ = some (.int .i64 e) := hC.cell rfl; have fC1 : w7.cell? ⟨w.heap.size, 1, none⟩ = some (.slice a L.length cap) := hC.cell rfl; have hXn := hCl; have hCl := Nat.le_trans (show w.heap.size + 2 ≤ (w6.alloc (.cells #[.int .i64 0, .slice none 0 0] 24)).heap.size by simp <;> omega) bz.size; clear bz))
        · go_wp2_with fail
          go_meet
          exact ⟨_, a2, cap2, rfl, rfl, BlkAt.new w7 24 [.int .i64 pe, .slice a2 pL.length cap2], hv2.alloc _, hC.alloc _, hM.alloc _, hb.alloc hb.size _, hCl⟩
        all_goals
          go_wp2_with fail
          go_meet
          have hG := gone_end hX hv2 hC hM hb hXn hM0d (.int .i64 pe) (.slice a2 pL.length cap2)
          exact ⟨_, a2, cap2, rfl, rfl, hG.1, hG.2.1, hG.2.2.1, hG.2.2.2.1, hG.2.2.2.2, hXn⟩
      case rest =>
        obtain ⟨X, a2, cap2, rfl, rfl, hX, hv2, hC, hM, hb, hXn⟩ := hcut
        go_upto_if 45 with (fail)
        go_cut [] (fun wx => BlkAt wx w.heap.size 24 [.int .i64 e, .slice a L.length cap] ∧ BlkAt wx M0 27 [.int .i64 x, .int .i64 y] ∧ Below w.heap.size w wx)
        case first =>
          by_cases h0 : px = 0
          · subst h0
            obtain ⟨hr, hd, hll, hz0, hee⟩ := without_facts HW.out
            simp only [ConfV.mk.injEq] at hd
            obtain ⟨rfl, rfl⟩ := hd
            have hpw := seatsOk_nodes (rightC_iff.1 hr).2.2.2.2.2
            have hL8 : L.length ≤ 8 := (rightC_iff.1 hr).2.2.2.1
            have hL1 : 0 < L.length := (rightC_iff.1 hr).2.2.1
            have he1 : 1 ≤ e := (rightC_iff.1 hr).1
            have hsub : (leftC L G).Sublist L := List.filter_sublist
            have HPW := Lib.hid hpw
            have HSUB := Lib.hid hsub
            have HST := Lib.hid (stay_all L G)
            have HIN := Lib.hid (fun (s : SeatV) (hs : s ∈ leftC L G) (g : Int × Int) (hg : g ∈ G) => stays hs hg)
            have hdl : (leftC L G).length ≤ 8 := Nat.le_trans (List.length_filter_le _ _) hL8
            have hdp : 0 < (leftC L G).length := by
              rw [List.length_pos_iff]
              intro h
              rw [h] at hz0
              simp at hz0
            clear hr hll hz0 hpw hsub
            generalize leftC L G = M at *
            obtain ⟨b2, off2, rfl⟩ : ∃ b off, a2 = some ⟨b, off, none⟩ := by
              obtain ⟨a, c, hv, hs⟩ := hv2
              cases hv
              obtain ⟨b, off, h, _⟩ := hs.2.2 hdp
              exact ⟨b, off, h⟩
            obtain ⟨b1, off1, rfl, hb1, hc1⟩ : ∃ b off, a = some ⟨b, off, none⟩ ∧ b < w.heap.size ∧ ∀ i s, L[i]? = some s → SeatAt w b (off + i * 3) s := by
              obtain ⟨a, c, hv, hs⟩ := hv0
              cases hv
              exact hs.2.2 hL1
            have HC1 := Lib.hid hc1
            clear hc1
            have fhX0 : wc.cell? ⟨X, 0, none⟩ = some (.int .i64 (e + 1)) := hX.cell rfl
            have fhX1 : wc.cell? ⟨X, 1, none⟩ = some (.slice (some ⟨b2, off2, none⟩) M.length cap2) := hX.cell rfl
            go_wp2_with fail
            clear fhX0 fhX1
            go_loopw [9, 49] (fun l i wr => ∃ k : Nat, k ≤ M.length ∧ i = .int .i64 k ∧ l = .int .i64 (lastP L M k) ∧ BlkAt wr w.heap.size 24 [.int .i64 e, .slice (some ⟨b1, off1, none⟩) L.length cap] ∧ BlkAt wr M0 27 [.int .i64 x, .int .i64 y] ∧ BlkAt wr X 24 [.int .i64 (e + 1), .slice (some ⟨b2, off2, none⟩) M.length cap2] ∧ ChainAt wr (.slice (some ⟨b2, off2, none⟩) M.length cap2) M ∧ Below w.heap.size w wr) (fun _ i _ => M.length - (intOf i).toNat)
            case atStart => exact ⟨0, Nat.zero_le _, rfl, rfl, hC, hM, hX, hv2, hb⟩
            case round =>
              clear hC hM hX hv2 hb hv
              obtain ⟨k, hk, rfl, rfl, hC, hM, hX, hv2, hb⟩ := hrel
              have hv := hv0.below hb
              by_cases hlt : k < M.length
              · obtain ⟨s, hs'⟩ : ∃ s, M[k]? = some s := ⟨_, List.getElem?_eq_getElem hlt⟩
                have hsw : SeatAt wr b2 (off2 + k * 3) s := by
                  obtain ⟨a, c, hv, hs⟩ := hv2
                  cases hv
                  obtain ⟨b, off, h, _, h3⟩ := hs.2.2 hdp
                  cases h
                  exact h3 k s hs'
                obtain ⟨r0, r1, r2⟩ := hsw
                have hnl := last_less HPW.out HSUB.out hs'
                have HN := Lib.hid (HIN.out s (List.mem_of_getElem? hs'))
                have HLS : Hid (lastP L M (k + 1) = placeC L s.node s.life) := by
                  show lastP L M (k + 1) = _
                  simp [lastP, hs']
                obtain ⟨sn, sl, sz⟩ := s
                simp only at r0 r1 r2
                obtain ⟨pp, hpp⟩ : ∃ p, placeC L sn sl = p := ⟨_, rfl⟩
                simp only [hpp] at hnl
                have HLS : Hid (lastP L M (k + 1) = pp) := HLS.out.trans hpp
                have HPP := Lib.hid hpp
                clear hpp hs'
                generalize lastP L M k = la at *
                go_upto_region 9 with (fail)
                have hT := BlkAt.new wr 50 [.int .i64 sn, .int .i64 sl, .bool sz]
                have hC := hC.alloc (.cells #[.int .i64 sn, .int .i64 sl, .bool sz] 50)
                have hM := hM.alloc (.cells #[.int .i64 sn, .int .i64 sl, .bool sz] 50)
                have hX := hX.alloc (.cells #[.int .i64 sn, .int .i64 sl, .bool sz] 50)
                have hv := hv.alloc (.cells #[.int .i64 sn, .int .i64 sl, .bool sz] 50)
                have hv2 := hv2.alloc (.cells #[.int .i64 sn, .int .i64 sl, .bool sz] 50)
                have hb := hb.alloc hb.size (.cells #[.int .i64 sn, .int .i64 sl, .bool sz] 50)
                change Code.wp _ _ _ _ (wr.alloc (.cells #[.int .i64 sn, .int .i64 sl, .bool sz] 50))
                change BlkAt (wr.alloc (.cells #[.int .i64 sn, .int .i64 sl, .bool sz] 50)) _ _ _ at hT
                generalize wr.alloc (.cells #[.int .i64 sn, .int .i64 sl, .bool sz] 50) = v40_3 at *
                generalize wr.heap.size = T at *
                clear r0 r1 r2
                have fhC0 : v40_3.cell? ⟨w.heap.size, 0, none⟩ = some (.int .i64 e) := hC.cell rfl
                have fhC1 : v40_3.cell? ⟨w.heap.size, 1, none⟩ = some (.slice (some ⟨b1, off1, none⟩) L.length cap) := hC.cell rfl
                have fhT0 : v40_3.cell? ⟨T, 0, none⟩ = some (.int .i64 sn) := hT.cell rfl
                have fhT1 : v40_3.cell? ⟨T, 1, none⟩ = some (.int .i64 sl) := hT.cell rfl
                have fhT2 : v40_3.cell? ⟨T, 2, none⟩ = some (.bool sz) := hT.cell rfl
                go_wp2_with fail
                refine (cplace_at (by exact hv) e HPP.out).mono ?_
                rintro en w41 ⟨rfl, b41⟩
                have hC := BlkAt.below (by exact hC) b41
                have hM := BlkAt.below (by exact hM) b41
                have hX := BlkAt.below (by exact hX) b41
                have hT := BlkAt.below (by exact hT) b41
                have hv := hv.below b41
                have hv2 := hv2.below b41
                have hb := below_step hb b41
                clear fhC0 fhC1 fhT0 fhT1 fhT2 b41
                go_wp2_with fail
                go_loopw [59] (fun i wr => ∃ j : Nat, j ≤ G.length ∧ i = .int .i64 j ∧ BlkAt wr w.heap.size 24 [.int .i64 e, .slice (some ⟨b1, off1, none⟩) L.length cap] ∧ BlkAt wr M0 27 [.int .i64 x, .int .i64 y] ∧ BlkAt wr X 24 [.int .i64 (e + 1), .slice (some ⟨b2, off2, none⟩) M.length cap2] ∧ BlkAt wr T 50 [.int .i64 sn, .int .i64 sl, .bool sz] ∧ ChainAt wr (.slice (some ⟨b2, off2, none⟩) M.length cap2) M ∧ Below w.heap.size w wr) (fun i _ => G.length - (intOf i).toNat)
                case atStart => exact ⟨0, Nat.zero_le _, rfl, hC, hM, hX, hT, hv2, hb⟩
                case round =>
                  clear hC hM hX hT hv2 hb hv
                  obtain ⟨j, hj, rfl, hC, hM, hX, hT, hv2, hb⟩ := hrel
                  by_cases hjl : j < G.length
                  · obtain ⟨bg, offg, rfl, hgc⟩ : ∃ b off, ag = some ⟨b, off, none⟩ ∧ ∀ i g, G[i]? = some g → wr.cell? ⟨b, off + i * 2, none⟩ = some (.int .i64 g.1) ∧ wr.cell? ⟨b, off + i * 2 + 1, none⟩ = some (.int .i64 g.2) := by
                      obtain ⟨a, c, hv, hs⟩ := hg0.below hb
                      cases hv
                      obtain ⟨b, off, h, _, h3⟩ := hs.2 (by omega)
                      exact ⟨b, off, h, h3⟩
                    obtain ⟨g, hg'⟩ : ∃ g, G[j]? = some g := ⟨_, List.getElem?_eq_getElem hjl⟩
                    obtain ⟨r0, r1⟩ := hgc j g hg'
                    have hne := HN.out g (List.mem_of_getElem? hg')
                    obtain ⟨g1, g2⟩ := g
                    simp only at r0 r1 hne
                    have hcmp := mem_eql g1 g2 sn sl
                    rw [hne] at hcmp
                    clear hgc hg' hne
                    go_upto_region 13 with (fail)
                    have hG := BlkAt.new wr 27 [.int .i64 g1, .int .i64 g2]
                    have hC := hC.alloc (.cells #[.int .i64 g1, .int .i64 g2] 27)
                    have hM := hM.alloc (.cells #[.int .i64 g1, .int .i64 g2] 27)
                    have hX := hX.alloc (.cells #[.int .i64 g1, .int .i64 g2] 27)
                    have hT := hT.alloc (.cells #[.int .i64 g1, .int .i64 g2] 27)
                    have hv2 := hv2.alloc (.cells #[.int .i64 g1, .int .i64 g2] 27)
                    have hb := hb.alloc hb.size (.cells #[.int .i64 g1, .int .i64 g2] 27)
                    change Code.wp _ _ _ _ (wr.alloc (.cells #[.int .i64 g1, .int .i64 g2] 27))
                    change BlkAt (wr.alloc (.cells #[.int .i64 g1, .int .i64 g2] 27)) _ _ _ at hG
                    generalize wr.alloc (.cells #[.int .i64 g1, .int .i64 g2] 27) = v50_4 at *
                    generalize wr.heap.size = Gm at *
                    clear r0 r1
                    have fhG0 : v50_4.cell? ⟨Gm, 0, none⟩ = some (.int .i64 g1) := hG.cell rfl
                    have fhG1 : v50_4.cell? ⟨Gm, 1, none⟩ = some (.int .i64 g2) := hG.cell rfl
                    have fhT0 : v50_4.cell? ⟨T, 0, none⟩ = some (.int .i64 sn) := hT.cell rfl
                    have fhT1 : v50_4.cell? ⟨T, 1, none⟩ = some (.int .i64 sl) := hT.cell rfl
                    have fhT2 : v50_4.cell? ⟨T, 2, none⟩ = some (.bool sz) := hT.cell rfl
                    go_wp2_with fail
                    clear fhG0 fhG1 fhT0 fhT1 fhT2
                    go_roundw
                    case rel => exact ⟨j + 1, by omega, by go_num, hC, hM, hX, hT, hv2, hb⟩
                    case measure => simp [intOf]; omega
                  · obtain rfl : j = G.length := by omega
                    go_wp2_with fail
                    go_roundw
                    case rel => exact ⟨k + 1, by omega, by go_num, by rw [HLS.out], hC, hM, hX, hv2, hb⟩
                    case measure => simp [intOf]; omega
              · obtain rfl : k = M.length := by omega
                have hv := hv0.below hb
                generalize lastP L M M.length = la at *
                have fhC0 : wr.cell? ⟨w.heap.size, 0, none⟩ = some (.int .i64 e) := hC.cell rfl
                have fhC1 : wr.cell? ⟨w.heap.size, 1, none⟩ = some (.slice (some ⟨b1, off1, none⟩) L.length cap) := hC.cell rfl
                go_wp2_with fail
                clear fhC0 fhC1
                go_loopw [15, 76] (fun q i wr => ∃ k : Nat, k ≤ L.length ∧ i = .int .i64 k ∧ q = .int .i64 (stayP L M k : Nat) ∧ BlkAt wr w.heap.size 24 [.int .i64 e, .slice (some ⟨b1, off1, none⟩) L.length cap] ∧ BlkAt wr M0 27 [.int .i64 x, .int .i64 y] ∧ BlkAt wr X 24 [.int .i64 (e + 1), .slice (some ⟨b2, off2, none⟩) M.length cap2] ∧ ChainAt wr (.slice (some ⟨b2, off2, none⟩) M.length cap2) M ∧ Below w.heap.size w wr) (fun _ i _ => L.length - (intOf i).toNat)
                case atStart => exact ⟨0, Nat.zero_le _, rfl, rfl, hC, hM, hX, hv2, hb⟩
                case round =>
                  clear hC hM hX hv2 hb hv hlt
                  obtain ⟨k, hk, rfl, rfl, hC, hM, hX, hv2, hb⟩ := hrel
                  by_cases hlt : k < L.length
                  · obtain ⟨s, hs'⟩ : ∃ s, L[k]? = some s := ⟨_, List.getElem?_eq_getElem hlt⟩
                    obtain ⟨r0, r1, r2⟩ := (HC1.out k s hs').of (w' := wr) fun j => hb.cell (p := ⟨b1, j, none⟩) hb1
                    have hstep := stay_succ (M := M) hs'
                    have hsle := stay_le L M k
                    obtain ⟨sn, sl, sz⟩ := s
                    simp only at r0 r1 r2 hstep
                    obtain ⟨pp, hpp⟩ : ∃ p, placeC M sn sl = p := ⟨_, rfl⟩
                    rw [hpp] at hstep
                    have HPP := Lib.hid hpp
                    have HSP := Lib.hid hstep
                    clear hpp hs' hstep
                    go_upto_region 24 with (fail)
                    have hT := BlkAt.new wr 50 [.int .i64 sn, .int .i64 sl, .bool sz]
                    have hC := hC.alloc (.cells #[.int .i64 sn, .int .i64 sl, .bool sz] 50)
                    have hM := hM.alloc (.cells #[.int .i64 sn, .int .i64 sl, .bool sz] 50)
                    have hX := hX.alloc (.cells #[.int .i64 sn, .int .i64 sl, .bool sz] 50)
                    have hv2 := hv2.alloc (.cells #[.int .i64 sn, .int .i64 sl, .bool sz] 50)
                    have hb := hb.alloc hb.size (.cells #[.int .i64 sn, .int .i64 sl, .bool sz] 50)
                    change Code.wp _ _ _ _ (wr.alloc (.cells #[.int .i64 sn, .int .i64 sl, .bool sz] 50))
                    change BlkAt (wr.alloc (.cells #[.int .i64 sn, .int .i64 sl, .bool sz] 50)) _ _ _ at hT
                    generalize wr.alloc (.cells #[.int .i64 sn, .int .i64 sl, .bool sz] 50) = v70_3 at *
                    generalize wr.heap.size = T at *
                    clear r0 r1 r2
                    generalize hgk : stayP L M k = st at *
                    have fhX0 : v70_3.cell? ⟨X, 0, none⟩ = some (.int .i64 (e + 1)) := hX.cell rfl
                    have fhX1 : v70_3.cell? ⟨X, 1, none⟩ = some (.slice (some ⟨b2, off2, none⟩) M.length cap2) := hX.cell rfl
                    have fhT0 : v70_3.cell? ⟨T, 0, none⟩ = some (.int .i64 sn) := hT.cell rfl
                    have fhT1 : v70_3.cell? ⟨T, 1, none⟩ = some (.int .i64 sl) := hT.cell rfl
                    have fhT2 : v70_3.cell? ⟨T, 2, none⟩ = some (.bool sz) := hT.cell rfl
                    go_wp2_with fail
                    refine (cplace_at (by exact hv2) (e + 1) HPP.out).mono ?_
                    rintro en w71 ⟨rfl, b71⟩
                    have hC := BlkAt.below (by exact hC) b71
                    have hM := BlkAt.below (by exact hM) b71
                    have hX := BlkAt.below (by exact hX) b71
                    have hT := BlkAt.below (by exact hT) b71
                    have hv2 := hv2.below b71
                    have hb := below_step hb b71
                    clear fhX0 fhX1 fhT0 fhT1 fhT2 b71
                    clear hT
                    by_cases hp0 : 0 ≤ pp
                    · have hst : stayP L M (k + 1) = st + 1 := by rw [HSP.out, if_pos hp0]
                      have HST1 := Lib.hid hst
                      clear hst
                      go_wp2_with fail
                      go_roundw
                      case rel => exact ⟨k + 1, by omega, by go_num, by rw [HST1.out]; go_num, hC, hM, hX, hv2, hb⟩
                      case measure => simp [intOf]; omega
                    · have hst : stayP L M (k + 1) = st := by rw [HSP.out, if_neg hp0]
                      have HST1 := Lib.hid hst
                      clear hst
                      go_wp2_with fail
                      go_roundw
                      case rel => exact ⟨k + 1, by omega, by go_num, by rw [HST1.out], hC, hM, hX, hv2, hb⟩
                      case measure => simp [intOf]; omega
                  · obtain rfl : k = L.length := by omega
                    have hst := HST.out
                    rw [hst]
                    have hw1 : wrap64 (e + 1) = e + 1 := IntWalk.wrap64_in _ ⟨by omega, by omega⟩
                    have hne1 : ((M.length : Int) != (M.length : Int)) = false := by simp
                    have hne2 : (e + 1 != e + 1) = false := by simp
                    clear hst
                    have fhC0 : wr.cell? ⟨w.heap.size, 0, none⟩ = some (.int .i64 e) := hC.cell rfl
                    have fhC1 : wr.cell? ⟨w.heap.size, 1, none⟩ = some (.slice (some ⟨b1, off1, none⟩) L.length cap) := hC.cell rfl
                    have fhX0 : wr.cell? ⟨X, 0, none⟩ = some (.int .i64 (e + 1)) := hX.cell rfl
                    have fhX1 : wr.cell? ⟨X, 1, none⟩ = some (.slice (some ⟨b2, off2, none⟩) M.length cap2) := hX.cell rfl
                    go_wp2_with fail
                    go_meet
                    exact ⟨hC, hM, hb⟩
          · have h0' : (px == 0) = false := by simpa using h0
            go_wp2_with fail
            go_meet
            exact ⟨hC, hM, hb⟩
        case rest =>
          obtain ⟨hC, hM, hb⟩ := hcut
          clear hX hv2
          have hv := hv0.below hb
          obtain ⟨p1, L1, x1, hJ⟩ := conf_parts (joinC ⟨e, L⟩ x y)
          obtain ⟨n2, l2, b2, h2⟩ : ∃ n l b, atC L1 ((L1.length : Int) - 1) = (n, l, b) := ⟨_, _, _, rfl⟩
          have HJ := Lib.hid hJ
          have H2 := Lib.hid h2
          clear hJ h2
          have fhC0 : wc.cell? ⟨w.heap.size, 0, none⟩ = some (.int .i64 e) := hC.cell rfl
          have fhC1 : wc.cell? ⟨w.heap.size, 1, none⟩ = some (.slice a L.length cap) := hC.cell rfl
          have fhM0 : wc.cell? ⟨M0, 0, none⟩ = some (.int .i64 x) := hM.cell rfl
          have fhM1 : wc.cell? ⟨M0, 1, none⟩ = some (.int .i64 y) := hM.cell rfl
          go_wp2_with fail
          refine (cjoin_at (by exact hv) hx hy HJ.out).mono ?_
          rintro en w91 ⟨a4, cap4, rfl, hv4, b91⟩
          have hC := BlkAt.below (by exact hC) b91
          have hM := BlkAt.below (by exact hM) b91
          have hv := hv.below b91
          have hb := below_step hb b91
          clear fhC0 fhC1 fhM0 fhM1 b91
          go_upto_region 30 with (fail)
          have hB := BlkAt.new w91 24 [.int .i64 p1, .slice a4 L1.length cap4]
          have hC := hC.alloc (.cells #[.int .i64 p1, .slice a4 L1.length cap4] 24)
          have hM := hM.alloc (.cells #[.int .i64 p1, .slice a4 L1.length cap4] 24)
          have hv := hv.alloc (.cells #[.int .i64 p1, .slice a4 L1.length cap4] 24)
          have hv4 := hv4.alloc (.cells #[.int .i64 p1, .slice a4 L1.length cap4] 24)
          have hb := hb.alloc hb.size (.cells #[.int .i64 p1, .slice a4 L1.length cap4] 24)
          change Code.wp _ _ _ _ (w91.alloc (.cells #[.int .i64 p1, .slice a4 L1.length cap4] 24))
          change BlkAt (w91.alloc (.cells #[.int .i64 p1, .slice a4 L1.length cap4] 24)) _ _ _ at hB
          generalize w91.alloc (.cells #[.int .i64 p1, .slice a4 L1.length cap4] 24) = v91_2 at *
          generalize w91.heap.size = B at *
          have fhB0 : v91_2.cell? ⟨B, 0, none⟩ = some (.int .i64 p1) := hB.cell rfl
          have fhB1 : v91_2.cell? ⟨B, 1, none⟩ = some (.slice a4 L1.length cap4) := hB.cell rfl
          go_wp2_with fail
          refine (ctail_at (by exact hv4) p1 H2.out).mono ?_
          rintro en w92 ⟨rfl, b92⟩
          have hC := BlkAt.below (by exact hC) b92
          have hM := BlkAt.below (by exact hM) b92
          have hB := BlkAt.below (by exact hB) b92
          have hv := hv.below b92
          have hv4 := hv4.below b92
          have hb := below_step hb b92
          clear fhB0 fhB1 b92
          go_upto_region 31 with (fail)
          have hT := BlkAt.new w92 27 [.int .i64 n2, .int .i64 l2]
          have hC := hC.alloc (.cells #[.int .i64 n2, .int .i64 l2] 27)
          have hM := hM.alloc (.cells #[.int .i64 n2, .int .i64 l2] 27)
          have hB := hB.alloc (.cells #[.int .i64 n2, .int .i64 l2] 27)
          have hv := hv.alloc (.cells #[.int .i64 n2, .int .i64 l2] 27)
          have hv4 := hv4.alloc (.cells #[.int .i64 n2, .int .i64 l2] 27)
          have hb := hb.alloc hb.size (.cells #[.int .i64 n2, .int .i64 l2] 27)
          change Code.wp _ _ _ _ (w92.alloc (.cells #[.int .i64 n2, .int .i64 l2] 27))
          change BlkAt (w92.alloc (.cells #[.int .i64 n2, .int .i64 l2] 27)) _ _ _ at hT
          generalize w92.alloc (.cells #[.int .i64 n2, .int .i64 l2] 27) = v92_3 at *
          generalize w92.heap.size = T at *
          by_cases h0 : x1 = 0
          · subst h0
            obtain ⟨hr, hm, ha, hd, hee⟩ := join_facts HJ.out
            simp only [ConfV.mk.injEq] at hd
            obtain ⟨rfl, rfl⟩ := hd
            have hL8 : L.length ≤ 8 := (rightC_iff.1 hr).2.2.2.1
            obtain ⟨k1, k2⟩ := join_last (l := y) ha
            have h2 := H2.out
            rw [k1] at h2
            simp only [Prod.mk.injEq] at h2
            obtain ⟨rfl, rfl, rfl⟩ := h2
            have hl1 : (L ++ [(⟨x, y, false⟩ : SeatV)]).length = L.length + 1 := by simp
            have K2 := Lib.hid k2
            clear k1 k2 hr hm ha
            generalize L ++ [(⟨x, y, false⟩ : SeatV)] = L1 at *
            have hcmp := mem_eql x y x y
            rw [show (x == x && y == y) = true by simp] at hcmp
            have hll : (L1.length : Int) = (L.length : Int) + 1 := by omega
            have hq1 : ((L.length : Int) + 1 == (L.length : Int) + 1) = true := by simp
            have hq2 : ((L.length : Int) == (L.length : Int)) = true := by simp
            have hq0 : ((0 : Int) != 0) = false := by simp
            have hw1 : wrap64 ((L.length : Int) + 1) = (L1.length : Int) := (IntWalk.wrap64_in _ ⟨by omega, by omega⟩).trans (by omega)
            have hw2 : IntKind.i64.wrap ((L.length : Int) + 1) = (L1.length : Int) := (i64_wrap64 _).trans hw1
            have hq3 : ((L1.length : Int) == (L1.length : Int)) = true := by simp
            clear hll hl1
            have fhC0 : v92_3.cell? ⟨w.heap.size, 0, none⟩ = some (.int .i64 e) := hC.cell rfl
            have fhC1 : v92_3.cell? ⟨w.heap.size, 1, none⟩ = some (.slice a L.length cap) := hC.cell rfl
            have fhM0 : v92_3.cell? ⟨M0, 0, none⟩ = some (.int .i64 x) := hM.cell rfl
            have fhM1 : v92_3.cell? ⟨M0, 1, none⟩ = some (.int .i64 y) := hM.cell rfl
            have fhB0 : v92_3.cell? ⟨B, 0, none⟩ = some (.int .i64 (e + 1)) := hB.cell rfl
            have fhB1 : v92_3.cell? ⟨B, 1, none⟩ = some (.slice a4 L1.length cap4) := hB.cell rfl
            have fhT0 : v92_3.cell? ⟨T, 0, none⟩ = some (.int .i64 x) := hT.cell rfl
            have fhT1 : v92_3.cell? ⟨T, 1, none⟩ = some (.int .i64 y) := hT.cell rfl
            go_region_held3 (fun w' => w'.cell? ⟨w.heap.size, 0, none⟩ = some (.int .i64 e) ∧ w'.cell? ⟨w.heap.size, 1, none⟩ = some (.slice a L.length cap) ∧ w'.cell? ⟨M0, 0, none⟩ = some (.int .i64 x) ∧ w'.cell? ⟨M0, 1, none⟩ = some (.int .i64 y) ∧ w'.cell? ⟨B, 0, none⟩ = some (.int .i64 (e + 1)) ∧ w'.cell? ⟨B, 1, none⟩ = some (.slice a4 L1.length cap4) ∧ w'.cell? ⟨T, 0, none⟩ = some (.int .i64 x) ∧ w'.cell? ⟨T, 1, none⟩ = some (.int .i64 y))
              (first | exact ⟨fhC0, fhC1, fhM0, fhM1, fhB0, fhB1, fhT0, fhT1⟩ | go_keep)
              ((go_at_call 24; refine (cplace_at (by exact hv4) (e + 1) K2.out).mono ?_; rintro en z ⟨rfl, bz⟩; have hC := BlkAt.below (by exact hC) bz; have hM := BlkAt.below (by exact hM) bz; have hB := BlkAt.below (by exact hB) bz; have hT := BlkAt.below (by exact hT) bz; have hv := ChainAt.below (by exact hv) bz; have hv4 := ChainAt.below (by exact hv4) bz; have hb := below_step (by first | exact hb | exact below_drewN hb 1) bz; have fhC0 : z.cell? ⟨w.heap.size, 0, none⟩ = some (.int .i64 e) := hC.cell rfl; have fhC1 : z.cell? ⟨w.heap.size, 1, none⟩ = some (.slice a L.length cap) := hC.cell rfl; have fhM0 : z.cell? ⟨M0, 0, none⟩ = some (.int .i64 x) := hM.cell rfl; have fhM1 : z.cell? ⟨M0, 1, none⟩ = some (.int .i64 y) := hM.cell rfl; have fhB0 : z.cell? ⟨B, 0, none⟩ = some (.int .i64 (e + 1)) := hB.cell rfl; have fhB1 : z.cell? ⟨B, 1, none⟩ = some (.slice a4 L1.length cap4) := hB.cell rfl; have fhT0 : z.cell? ⟨T, 0, none⟩ = some (.int .i64 x) := hT.cell rfl; have fhT1 : z.cell? ⟨T, 1, none⟩ = some (.int .i64 y) := hT.cell rfl; clear bz))
            go_wp2_with fail
            go_ret
            exact ⟨rfl, hb⟩
          · have h0' : (x1 != 0) = true := by simpa using h0
            refine wp_region_noPanic ?_
            refine wp_region_held_drew (S := fun w' => True) (by kernel_rfl) (by exact ⟨⟩) (fun hHeld => ?_)
            have hb := below_drewN hb 1
            refine wpAnyH_take (i := 0) (oi := ?oq0) (v := ?va0) ?op0 (by kernel_rfl) (by kernel_rfl) (by kernel_rfl) (fun _ _ _ h => h) ?yi0 hHeld ?re0
            case op0 => (simp only [List.getElem?_toArray, List.getElem?_cons_zero]; rfl)
            case yi0 =>
              refine Or.inl ⟨by rfl, ?_⟩
              intro w hSw
              try dsimp only at hSw
              go_simp
              all_goals with_reducible rfl
            try simp only [Act.put, List.setIfInBounds_toArray, List.set_cons_zero, List.set_cons_succ]
            refine wpAnyH_take (i := 1) (oi := ?oq1) (v := ?va1) ?op1 (by kernel_rfl) (by kernel_rfl) (by kernel_rfl) (fun _ _ _ h => h) ?yi1 hHeld ?re1
            case op1 => (simp only [List.getElem?_toArray, List.getElem?_cons_succ, List.getElem?_cons_zero]; rfl)
            case yi1 =>
              refine Or.inl ⟨by rfl, ?_⟩
              intro w hSw
              try dsimp only at hSw
              go_simp
              all_goals with_reducible rfl
            try simp only [Act.put, List.setIfInBounds_toArray, List.set_cons_zero, List.set_cons_succ]
            refine wpAnyH_take (i := 2) (oi := ?oq2) (v := ?va2) ?op2 (by kernel_rfl) (by kernel_rfl) (by kernel_rfl) (fun _ _ _ h => h) ?yi2 hHeld ?re2
            case op2 => (simp only [List.getElem?_toArray, List.getElem?_cons_succ, List.getElem?_cons_zero]; rfl)
            case yi2 =>
              refine Or.inl ⟨by rfl, ?_⟩
              intro w hSw
              try dsimp only at hSw
              go_simp
              all_goals with_reducible rfl
            try simp only [Act.put, List.setIfInBounds_toArray, List.set_cons_zero, List.set_cons_succ]
            refine wpAnyH_take (i := 3) (oi := ?oq3) (v := undef) ?op3 (by kernel_rfl) (by kernel_rfl) (by kernel_rfl) (fun _ _ _ h => h) ?yi3 hHeld ?re3
            case op3 => (simp only [List.getElem?_toArray, List.getElem?_cons_succ, List.getElem?_cons_zero]; rfl)
            case yi3 => exact Or.inr ⟨by rfl, rfl⟩
            try simp only [Act.put, List.setIfInBounds_toArray, List.set_cons_zero, List.set_cons_succ]
            refine wpAnyH_take (i := 4) (oi := ?oq4) (v := undef) ?op4 (by kernel_rfl) (by kernel_rfl) (by kernel_rfl) (fun _ _ _ h => h) ?yi4 hHeld ?re4
            case op4 => (simp only [List.getElem?_toArray, List.getElem?_cons_succ, List.getElem?_cons_zero]; rfl)
            case yi4 => exact Or.inr ⟨by rfl, rfl⟩
            try simp only [Act.put, List.setIfInBounds_toArray, List.set_cons_zero, List.set_cons_succ]
            refine wpAnyH_take (i := 5) (oi := ?oq5) (v := undef) ?op5 (by kernel_rfl) (by kernel_rfl) (by kernel_rfl) (fun _ _ _ h => h) ?yi5 hHeld ?re5
            case op5 => (simp only [List.getElem?_toArray, List.getElem?_cons_succ, List.getElem?_cons_zero]; rfl)
            case yi5 => exact Or.inr ⟨by rfl, rfl⟩
            try simp only [Act.put, List.setIfInBounds_toArray, List.set_cons_zero, List.set_cons_succ]
            refine wpAnyH_take (i := 6) (oi := ?oq6) (v := undef) ?op6 (by kernel_rfl) (by kernel_rfl) (by kernel_rfl) (fun _ _ _ h => h) ?yi6 hHeld ?re6
            case op6 => (simp only [List.getElem?_toArray, List.getElem?_cons_succ, List.getElem?_cons_zero]; rfl)
            case yi6 => exact Or.inr ⟨by rfl, rfl⟩
            try simp only [Act.put, List.setIfInBounds_toArray, List.set_cons_zero, List.set_cons_succ]
            refine wpAnyH_take (i := 7) (oi := ?oq7) (v := undef) ?op7 (by kernel_rfl) (by kernel_rfl) (by kernel_rfl) (fun _ _ _ h => h) ?yi7 hHeld ?re7
            case op7 => (simp only [List.getElem?_toArray, List.getElem?_cons_succ, List.getElem?_cons_zero]; rfl)
            case yi7 => exact Or.inr ⟨by rfl, rfl⟩
            try simp only [Act.put, List.setIfInBounds_toArray, List.set_cons_zero, List.set_cons_succ]
            refine wpAnyH_take (i := 8) (oi := ?oq8) (v := undef) ?op8 (by kernel_rfl) (by kernel_rfl) (by kernel_rfl) (fun _ _ _ h => h) ?yi8 hHeld ?re8
            case op8 => (simp only [List.getElem?_toArray, List.getElem?_cons_succ, List.getElem?_cons_zero]; rfl)
            case yi8 => exact Or.inr ⟨by rfl, rfl⟩
            try simp only [Act.put, List.setIfInBounds_toArray, List.set_cons_zero, List.set_cons_succ]
            refine wpAnyH_take (i := 9) (oi := ?oq9) (v := undef) ?op9 (by kernel_rfl) (by kernel_rfl) (by kernel_rfl) (fun _ _ _ h => h) ?yi9 hHeld ?re9
            case op9 => (simp only [List.getElem?_toArray, List.getElem?_cons_succ, List.getElem?_cons_zero]; rfl)
            case yi9 => exact Or.inr ⟨by rfl, rfl⟩
            try simp only [Act.put, List.setIfInBounds_toArray, List.set_cons_zero, List.set_cons_succ]
            refine wpAnyH_take (i := 10) (oi := ?oq10) (v := undef) ?op10 (by kernel_rfl) (by kernel_rfl) (by kernel_rfl) (fun _ _ _ h => h) ?yi10 hHeld ?re10
            case op10 => (simp only [List.getElem?_toArray, List.getElem?_cons_succ, List.getElem?_cons_zero]; rfl)
            case yi10 => exact Or.inr ⟨by rfl, rfl⟩
            try simp only [Act.put, List.setIfInBounds_toArray, List.set_cons_zero, List.set_cons_succ]
            refine wpAnyH_take (i := 11) (oi := ?oq11) (v := undef) ?op11 (by kernel_rfl) (by kernel_rfl) (by kernel_rfl) (fun _ _ _ h => h) ?yi11 hHeld ?re11
            case op11 => (simp only [List.getElem?_toArray, List.getElem?_cons_succ, List.getElem?_cons_zero]; rfl)
            case yi11 => exact Or.inr ⟨by rfl, rfl⟩
            try simp only [Act.put, List.setIfInBounds_toArray, List.set_cons_zero, List.set_cons_succ]
            refine wpAnyH_take (i := 12) (oi := ?oq12) (v := undef) ?op12 (by kernel_rfl) (by kernel_rfl) (by kernel_rfl) (fun _ _ _ h => h) ?yi12 hHeld ?re12
            case op12 => (simp only [List.getElem?_toArray, List.getElem?_cons_succ, List.getElem?_cons_zero]; rfl)
            case yi12 => exact Or.inr ⟨by rfl, rfl⟩
            try simp only [Act.put, List.setIfInBounds_toArray, List.set_cons_zero, List.set_cons_succ]
            refine wpAnyH_take (i := 13) (oi := ?oq13) (v := undef) ?op13 (by kernel_rfl) (by kernel_rfl) (by kernel_rfl) (fun _ _ _ h => h) ?yi13 hHeld ?re13
            case op13 => (simp only [List.getElem?_toArray, List.getElem?_cons_succ, List.getElem?_cons_zero]; rfl)
            case yi13 => exact Or.inr ⟨by rfl, rfl⟩
            try simp only [Act.put, List.setIfInBounds_toArray, List.set_cons_zero, List.set_cons_succ]
            refine wpAnyH_take (i := 14) (oi := ?oq14) (v := undef) ?op14 (by kernel_rfl) (by kernel_rfl) (by kernel_rfl) (fun _ _ _ h => h) ?yi14 hHeld ?re14
            case op14 => (simp only [List.getElem?_toArray, List.getElem?_cons_succ, List.getElem?_cons_zero]; rfl)
            case yi14 => exact Or.inr ⟨by rfl, rfl⟩
            try simp only [Act.put, List.setIfInBounds_toArray, List.set_cons_zero, List.set_cons_succ]
            refine wpAnyH_take (i := 15) (oi := ?oq15) (v := undef) ?op15 (by kernel_rfl) (by kernel_rfl) (by kernel_rfl) (fun _ _ _ h => h) ?yi15 hHeld ?re15
            case op15 => (simp only [List.getElem?_toArray, List.getElem?_cons_succ, List.getElem?_cons_zero]; rfl)
            case yi15 => exact Or.inr ⟨by rfl, rfl⟩
            try simp only [Act.put, List.setIfInBounds_toArray, List.set_cons_zero, List.set_cons_succ]
            refine wpAnyH_take (i := 16) (oi := ?oq16) (v := undef) ?op16 (by kernel_rfl) (by kernel_rfl) (by kernel_rfl) (fun _ _ _ h => h) ?yi16 hHeld ?re16
            case op16 => (simp only [List.getElem?_toArray, List.getElem?_cons_succ, List.getElem?_cons_zero]; rfl)
            case yi16 => exact Or.inr ⟨by rfl, rfl⟩
            try simp only [Act.put, List.setIfInBounds_toArray, List.set_cons_zero, List.set_cons_succ]
            refine wpAnyH_take (i := 17) (oi := ?oq17) (v := undef) ?op17 (by kernel_rfl) (by kernel_rfl) (by kernel_rfl) (fun _ _ _ h => h) ?yi17 hHeld ?re17
            case op17 => (simp only [List.getElem?_toArray, List.getElem?_cons_succ, List.getElem?_cons_zero]; rfl)
            case yi17 => exact Or.inr ⟨by rfl, rfl⟩
            try simp only [Act.put, List.setIfInBounds_toArray, List.set_cons_zero, List.set_cons_succ]
            refine wpAnyH_take (i := 18) (oi := ?oq18) (v := undef) ?op18 (by kernel_rfl) (by kernel_rfl) (by kernel_rfl) (fun _ _ _ h => h) ?yi18 hHeld ?re18
            case op18 => (simp only [List.getElem?_toArray, List.getElem?_cons_succ, List.getElem?_cons_zero]; rfl)
            case yi18 => exact Or.inr ⟨by rfl, rfl⟩
            try simp only [Act.put, List.setIfInBounds_toArray, List.set_cons_zero, List.set_cons_succ]
            refine wpAnyH_take (i := 19) (oi := ?oq19) (v := undef) ?op19 (by kernel_rfl) (by kernel_rfl) (by kernel_rfl) (fun _ _ _ h => h) ?yi19 hHeld ?re19
            case op19 => (simp only [List.getElem?_toArray, List.getElem?_cons_succ, List.getElem?_cons_zero]; rfl)
            case yi19 => exact Or.inr ⟨by rfl, rfl⟩
            try simp only [Act.put, List.setIfInBounds_toArray, List.set_cons_zero, List.set_cons_succ]
            refine wpAnyH_take (i := 20) (oi := ?oq20) (v := undef) ?op20 (by kernel_rfl) (by kernel_rfl) (by kernel_rfl) (fun _ _ _ h => h) ?yi20 hHeld ?re20
            case op20 => (simp only [List.getElem?_toArray, List.getElem?_cons_succ, List.getElem?_cons_zero]; rfl)
            case yi20 => exact Or.inr ⟨by rfl, rfl⟩
            try simp only [Act.put, List.setIfInBounds_toArray, List.set_cons_zero, List.set_cons_succ]
            refine wpAnyH_take (i := 21) (oi := ?oq21) (v := undef) ?op21 (by kernel_rfl) (by kernel_rfl) (by kernel_rfl) (fun _ _ _ h => h) ?yi21 hHeld ?re21
            case op21 => (simp only [List.getElem?_toArray, List.getElem?_cons_succ, List.getElem?_cons_zero]; rfl)
            case yi21 => exact Or.inr ⟨by rfl, rfl⟩
            try simp only [Act.put, List.setIfInBounds_toArray, List.set_cons_zero, List.set_cons_succ]
            refine wpAnyH_take (i := 22) (oi := ?oq22) (v := undef) ?op22 (by kernel_rfl) (by kernel_rfl) (by kernel_rfl) (fun _ _ _ h => h) ?yi22 hHeld ?re22
            case op22 => (simp only [List.getElem?_toArray, List.getElem?_cons_succ, List.getElem?_cons_zero]; rfl)
            case yi22 => exact Or.inr ⟨by rfl, rfl⟩
            try simp only [Act.put, List.setIfInBounds_toArray, List.set_cons_zero, List.set_cons_succ]
            refine wpAnyH_take (i := 23) (oi := ?oq23) (v := undef) ?op23 (by kernel_rfl) (by kernel_rfl) (by kernel_rfl) (fun _ _ _ h => h) ?yi23 hHeld ?re23
            case op23 => (simp only [List.getElem?_toArray, List.getElem?_cons_succ, List.getElem?_cons_zero]; rfl)
            case yi23 => exact Or.inr ⟨by rfl, rfl⟩
            try simp only [Act.put, List.setIfInBounds_toArray, List.set_cons_zero, List.set_cons_succ]
            refine wpAnyH_take (i := 24) (oi := ?oq24) (v := undef) ?op24 (by kernel_rfl) (by kernel_rfl) (by kernel_rfl) (fun _ _ _ h => h) ?yi24 hHeld ?re24
            case op24 => (simp only [List.getElem?_toArray, List.getElem?_cons_succ, List.getElem?_cons_zero]; rfl)
            case yi24 => exact Or.inr ⟨by rfl, rfl⟩
            try simp only [Act.put, List.setIfInBounds_toArray, List.set_cons_zero, List.set_cons_succ]
            refine wpAnyH_take (i := 25) (oi := ?oq25) (v := undef) ?op25 (by kernel_rfl) (by kernel_rfl) (by kernel_rfl) (fun _ _ _ h => h) ?yi25 hHeld ?re25
            case op25 => (simp only [List.getElem?_toArray, List.getElem?_cons_succ, List.getElem?_cons_zero]; rfl)
            case yi25 => exact Or.inr ⟨by rfl, rfl⟩
            try simp only [Act.put, List.setIfInBounds_toArray, List.set_cons_zero, List.set_cons_succ]
            refine wpAnyH_take (i := 26) (oi := ?oq26) (v := undef) ?op26 (by kernel_rfl) (by kernel_rfl) (by kernel_rfl) (fun _ _ _ h => h) ?yi26 hHeld ?re26
            case op26 => (simp only [List.getElem?_toArray, List.getElem?_cons_succ, List.getElem?_cons_zero]; rfl)
            case yi26 => exact Or.inr ⟨by rfl, rfl⟩
            try simp only [Act.put, List.setIfInBounds_toArray, List.set_cons_zero, List.set_cons_succ]
            refine wpAnyH_take (i := 27) (oi := ?oq27) (v := undef) ?op27 (by kernel_rfl) (by kernel_rfl) (by kernel_rfl) (fun _ _ _ h => h) ?yi27 hHeld ?re27
            case op27 => (simp only [List.getElem?_toArray, List.getElem?_cons_succ, List.getElem?_cons_zero]; rfl)
            case yi27 => exact Or.inr ⟨by rfl, rfl⟩
            try simp only [Act.put, List.setIfInBounds_toArray, List.set_cons_zero, List.set_cons_succ]
            refine wpAnyH_take (i := 28) (oi := ?oq28) (v := ?va28) ?op28 (by kernel_rfl) (by kernel_rfl) (by kernel_rfl) (fun _ _ _ h => h) ?yi28 hHeld ?re28
            case op28 => (simp only [List.getElem?_toArray, List.getElem?_cons_succ, List.getElem?_cons_zero]; rfl)
            case yi28 =>
              refine Or.inl ⟨by rfl, ?_⟩
              intro w hSw
              try dsimp only at hSw
              go_simp
              all_goals with_reducible rfl
            try simp only [Act.put, List.setIfInBounds_toArray, List.set_cons_zero, List.set_cons_succ]
            refine wpAnyH_take (i := 29) (oi := ?oq29) (v := ?va29) ?op29 (by kernel_rfl) (by kernel_rfl) (by kernel_rfl) (fun _ _ _ h => h) ?yi29 hHeld ?re29
            case op29 => (simp only [List.getElem?_toArray, List.getElem?_cons_succ, List.getElem?_cons_zero]; rfl)
            case yi29 =>
              refine Or.inl ⟨by rfl, ?_⟩
              intro w hSw
              try dsimp only at hSw
              go_simp
              all_goals with_reducible rfl
            try simp only [Act.put, List.setIfInBounds_toArray, List.set_cons_zero, List.set_cons_succ]
            refine wpAnyH_done (by kernel_rfl) ?_ _
            refine NoPanic.normal ?_
            go_wp2_with fail
            go_ret
            exact ⟨rfl, hb⟩
    · have h4' : (20 : Int) < (G.length : Int) := by omega
      go_wp2_with fail
      refine (awake_any _).mono ?_
      rintro en w9 ⟨rfl, b9⟩
      have hb := below_step hb b9
      go_wp2_with fail
      go_ret
      exact ⟨rfl, hb⟩
  · have hfd : decide (L.length ≤ 40) = false := by simpa using hf
    have HF := Lib.hid hfd
    clear hfd
    have fhC0 : w1.cell? ⟨w.heap.size, 0, none⟩ = some (.int .i64 e) := hC.cell rfl
    have fhC1 : w1.cell? ⟨w.heap.size, 1, none⟩ = some (.slice a L.length cap) := hC.cell rfl
    go_wp2_with fail
    refine (few_one (by exact BlkAt.new _ 24 [.int .i64 e, .slice a L.length cap]) (by exact hv.alloc _)).mono ?_
    rintro en w2 ⟨rfl, b2⟩
    have hC := BlkAt.below (by exact hC.alloc (.cells #[.int .i64 e, .slice a L.length cap] 24)) b2
    have hM := BlkAt.below (by exact hM.alloc (.cells #[.int .i64 e, .slice a L.length cap] 24)) b2
    have hv := (hv.alloc (.cells #[.int .i64 e, .slice a L.length cap] 24)).below b2
    have hb := below_step (hb.alloc hb.size (.cells #[.int .i64 e, .slice a L.length cap] 24)) b2
    clear fhC0 fhC1 b2
    rw [HF.out]
    go_wp2_with fail
    refine (awake_any _).mono ?_
    rintro en w9 ⟨rfl, b9⟩
    have hb := below_step hb b9
    go_wp2_with fail
    go_ret
    exact ⟨rfl, hb⟩

set_option maxRecDepth 100000 in
theorem ConfigWithout_walk {H : Type} {enc : TypeId × Value → H} {base : Nat} {d d2 : DataW H} {p p2 : List MemPlace} (v v2 : Value) (x y : Int) (w : World) (hv : Value.okWide Try.prog w .any base 24 v) (ht : DataW.Trod enc Try.prog w 0 (fun _ => true) true 24 v d p)
    (hv2 : Value.okWide Try.prog w .any base 25 v2) (ht2 : DataW.Trod enc Try.prog w 0 (fun _ => true) true 25 v2 d2 p2) (hx : W64 x) (hy : W64 y) :
    Calls Try.prog 6 #[v, v2, .agg #[.int .i64 x, .int .i64 y]] w fun e w' => e = .returned (.bool true) ∧ Below w.heap.size w w' := by
  obtain ⟨e, a, cap, L, he, hc, rfl⟩ := open_conf hv ht
  obtain ⟨ag, G, cag, rfl, hG, _⟩ := open_mems hv2 ht2
  exact ConfigWithout_go hc ⟨ag, cag, rfl, hG⟩ hG.1 hx hy


set_option maxRecDepth 100000 in
theorem ConfigWithout_calls (H : Type) (enc : TypeId × Value → H) (W : World) (base : Nat) (args : Array Value) (ds gs : List (DataW H)) (before : List MemPlace)
    (hval : ∀ (j : Nat) t v, Try.f6.params[j]? = some t → args[j]? = some v → Value.okWide Try.prog W .any base t v)
    (hW : DataW.Whole enc Try.prog Try.f6.params.toList Rows.configWithoutSpec.vars false W args.toList ds gs before) :
    Calls Try.prog 6 args W fun e W' => e = .returned (.bool true) ∧ Below W.heap.size W W' := by
  obtain ⟨p, q, hA, hV, rfl, hfz, hnd⟩ := hW
  rw [Try.params6] at hA hval
  obtain ⟨v0, vs0, d0, ds0, p0, q0, hargs, rfl, rfl, h0, r0⟩ := trodAll_cons hA
  obtain ⟨v1, vs1, d1, ds1, p1, q1, rfl, rfl, rfl, h1, r1⟩ := trodAll_cons r0
  obtain ⟨v2, vs2, d2, ds2, p2, q2, rfl, rfl, rfl, h2, r2⟩ := trodAll_cons r1
  obtain ⟨rfl, rfl, rfl⟩ := trodAll_nil r2
  obtain rfl : args = #[v0, v1, v2] := Array.toList_inj.1 hargs
  obtain ⟨c2, e2, z2, z2_, m2, rfl, rfl, rfl, hz2, hz2_⟩ := Joins.open_agg2 Try.underlying27 (by kernel_rfl) (by kernel_rfl) (hval 2 27 v2 rfl rfl) h2
  obtain ⟨x2, g2, rfl, w2⟩ := DataW.trod_int Try.underlying3 hz2
  obtain ⟨y2, g2_, rfl, w2_⟩ := DataW.trod_int Try.underlying3 hz2_
  simp at g2 g2_; subst g2 g2_
  exact ConfigWithout_walk v0 v1 x2 y2 W (hval 0 24 v0 rfl rfl) h0 (hval 1 25 v1 rfl rfl) h1 w2 w2_

set_option maxRecDepth 100000 in
theorem ConfigWithout_lifted (os : Os) (started : os.Started) (H : Type) (enc : TypeId × Value → H) :
    ReturnsInHanded {} Try.checked os 6 .any (Rows.configWithoutSpec.pre6 enc Try.prog Try.f6 Rows.configWithoutRow.domain false) (Rows.configWithoutSpec.post enc Try.prog Try.f6 false true false false) := by
  refine returnsInHanded_of_change (C := Try.checked) own started (by kernel_rfl) Try.func6
    (ChangeSpec.witness6 (enc := enc) (C := Try.checked) false ⟨#[], #[.agg #[.int .i64 0, .slice none 0 0], .slice none 0 0, .agg #[.int .i64 0, .int .i64 0]], []⟩ 8 (by kernel_rfl) (by kernel_rfl) (by kernel_rfl) (by kernel_rfl)) ?_
  intro W base args ds gs before hval0 hW hcnd _
  have hval : ∀ (j : Nat) t v, Try.f6.params[j]? = some t → args[j]? = some v → Value.okWide Try.prog W .any base t v := hval0
  refine (ConfigWithout_calls H enc W base args ds gs before hval hW).mono fun e W' ⟨he, bel⟩ => ?_
  exact ⟨_, he, law_post (ts := [24, 25, 27]) (by rw [Try.params6]) (by intro t ht; simp only [List.mem_cons, List.not_mem_nil, or_false] at ht; rcases ht with rfl | rfl | rfl <;> exact ⟨by kernel_rfl, of_decide_eq_true (by kernel_rfl)⟩) hW rfl
    (fun ds h => by match ds, h with | [_, _, _], _ => rfl) (by kernel_rfl) bel⟩

theorem ConfigWithout_over : Rows.configWithoutRow.holds Try.pinned (OpenSpec.ofChange Rows.configWithoutSpec) :=
  OpenClaim.holds_of_wide 6 Try.f6 rfl rfl rfl rfl rfl rfl rfl ⟨rfl, rfl, rfl, rfl, rfl⟩ rfl rfl rfl rfl rfl (by kernel_rfl) Try.func6 (by kernel_rfl)
    (of_decide_eq_true (by kernel_rfl)) (by unfold Func.isWrapper; first | (rw [if_pos (by decide +kernel)]; kernel_rfl) | (rw [if_neg (by decide +kernel)]; exact ⟨rfl, rfl⟩))
    (fun os started H enc _ => ConfigWithout_lifted os started H enc)

/-- The statement. -/
theorem ConfigWithout_proved : Rows.ConfigWithoutSaid := ConfigWithout_over

end Go.Proofs.Ytofdmdpnobhnlaa
