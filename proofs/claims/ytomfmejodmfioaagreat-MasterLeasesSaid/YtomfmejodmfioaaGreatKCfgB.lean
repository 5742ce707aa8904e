/- First, and the document's First. The document's First. Without. Join. Synced. The document's Without. The document's Join. -/
import Derived.Test.YtomfmejodmfioaaGreatCfgRight
import Derived.Deep.RegionLaw
import Derived.Deep.DeepCutAuto
namespace Go.Proofs.YtomfmejodmfioaaGreat
open Go.RowKit Go.ChangeShapes Go.WideShapes Go.Joins
set_option linter.unusedVariables false

/-- What is handed back: a chain, and something beside it. -/
def ConfRes (w w' : World) (en : Ending) (c : ConfV) (x : Value) : Prop := ∃ v, en = .returned (.tuple #[.agg #[.int .i64 c.epoch, v], x]) ∧ ChainAt w' v c.chain ∧ Below w.heap.size w w'
/-- .. its row seats'. -/
def ConfResS (w w' : World) (en : Ending) (c : ConfV) (x : Value) : Prop := ∃ v, en = .returned (.tuple #[.agg #[.int .i64 c.epoch, v], x]) ∧ ChainS w' v c.chain ∧ Below w.heap.size w w'
theorem ConfResS.res {w w' : World} {en : Ending} {c : ConfV} {x : Value} (h : ConfResS w w' en c x) : ConfRes w w' en c x := by
  obtain ⟨v, h1, h2, h3⟩ := h
  exact ⟨v, h1, h2.1, h3⟩
/-- A chain alone. -/
def ConfOne (w w' : World) (en : Ending) (c : ConfV) : Prop := ∃ v, en = .returned (.agg #[.int .i64 c.epoch, v]) ∧ ChainAt w' v c.chain ∧ Below w.heap.size w w'

theorem below_any' {w w' : World} {row : Option Nat} (h : Below w.heap.size w w') : w.grownBy w' row := ⟨h.os, h.tape, h.output, h.size, fun k hk _ => h.block k hk⟩
theorem own_set {w : World} {base D i : Nat} {e : TypeId} {size : Nat} {v u : Value} {n : Nat} {xs : List Value} (h : w.ownsRow base e size v n xs) (hD : D < base) : (w.setCell ⟨D, i, none⟩ u).ownsRow base e size v n xs := by
  refine h.kept (grown_setCell w D i u) (.inr fun e => ?_)
  have := (h.lt D e).1
  omega
theorem own_below {w w' : World} {base : Nat} {e : TypeId} {size : Nat} {v : Value} {n : Nat} {xs : List Value} (h : w.ownsRow base e size v n xs) (hb : Below w.heap.size w w') : w'.ownsRow base e size v n xs := h.kept (below_any' (row := none) hb) (Classical.em _)
theorem own_ne {w : World} {base D : Nat} {e : TypeId} {size : Nat} {v : Value} {n : Nat} {xs : List Value} (h : w.ownsRow base e size v n xs) (hD : D < base) : some D ≠ v.ownBlock := fun he => by
  have := (h.lt _ he.symm).1
  omega
theorem own_form {w : World} {base : Nat} {e : TypeId} {size : Nat} {v : Value} {n : Nat} {xs : List Value} (h : w.ownsRow base e size v n xs) : ∃ A cap, v = .slice A n cap := by
  rcases h.2 with ⟨rfl, rfl⟩ | ⟨g, cap, cur, rfl, _⟩
  · exact ⟨none, 0, rfl⟩
  · exact ⟨_, cap, rfl⟩
theorem firstSeats_ok (n : Nat) (h : n ≤ 1000) : ∀ s ∈ firstSeats n, SeatOk s := by
  intro s hs
  obtain ⟨i, hi, rfl⟩ := List.mem_map.1 hs
  have := List.mem_range.1 hi
  exact ⟨W64.mk (by show (-9223372036854775808 : Int) ≤ (i : Int); omega) (by show (i : Int) ≤ 9223372036854775807; omega), W64.mk (by show (-9223372036854775808 : Int) ≤ 1; omega) (by show (1 : Int) ≤ 9223372036854775807; omega)⟩
theorem firstSeats_len (n : Nat) : (firstSeats n).length = n := by simp [firstSeats]


set_option maxRecDepth 100000 in
set_option maxHeartbeats 2000000 in
theorem cfirst_s (n : Int) (hn : W64 n) (w : World) :
    Calls Tryz.prog 50 #[.int .i64 n] w fun en w' => ConfResS w w' en (firstC n).1 (.int .i64 (firstC n).2) := by
  obtain ⟨i0, hi0, hz0, hz1, hz2⟩ := info_parts seat_full
  unfold W64 at hn
  go_enter Tryz.func50, Tryz.ntmps50
  go_upto_region 1 with (fail)
  have hD : BlkAt (w.alloc (.cells #[.int .i64 0, .slice none 0 0] 35)) w.heap.size 35 [.int .i64 0, .slice none 0 0] := BlkAt.new w 35 [.int .i64 0, .slice none 0 0]
  have hb : Below w.heap.size w (w.alloc (.cells #[.int .i64 0, .slice none 0 0] 35)) := (Below.refl w.heap.size w).alloc (Nat.le_refl _) _
  have hWs : w.heap.size + 1 ≤ (w.alloc (.cells #[.int .i64 0, .slice none 0 0] 35)).heap.size := by simp
  change Code.wp _ _ _ _ (w.alloc (.cells #[.int .i64 0, .slice none 0 0] 35))
  generalize w.alloc (.cells #[.int .i64 0, .slice none 0 0] 35) = W at *
  have hDn : w.heap.size ≤ w.heap.size := Nat.le_refl _
  have d0 : W.cell? ⟨w.heap.size, 0, none⟩ = some (.int .i64 0) := hD.cell rfl
  have d1 : W.cell? ⟨w.heap.size, 1, none⟩ = some (.slice none 0 0) := hD.cell rfl
  have hf := hD.free
  by_cases t1 : n < 1
  · have HE := Lib.hid (show firstC n = (⟨0, []⟩, 1) by rw [firstC, if_neg (by omega)])
    go_wp2_with fail
    obtain ⟨hE, hbE⟩ := fin2 (p := .int .i64 0) (q := .slice none 0 0) hD hb hDn
    change bodyPost _ _ _ _ _ ((W.setCell ⟨w.heap.size, 0, none⟩ (.int .i64 0)).setCell ⟨w.heap.size, 1, none⟩ (.slice none 0 0))
    generalize (W.setCell ⟨w.heap.size, 0, none⟩ (.int .i64 0)).setCell ⟨w.heap.size, 1, none⟩ (.slice none 0 0) = W9 at *
    clear d0 d1
    have d0 := hE.cell (i := 0) rfl
    have d1 := hE.cell (i := 1) rfl
    exact bodyPost_ret (v := .tuple #[.agg #[.int .i64 0, .slice none 0 0], .int .i64 1]) (by simp [results, Tryz.results50, go_sem, d0, d1] <;> rfl) rfl ⟨.slice none 0 0, by rw [HE.out], by rw [HE.out]; exact ChainS.nil _, hbE⟩
  · by_cases t2 : 8 < n
    · have HE := Lib.hid (show firstC n = (⟨0, []⟩, 1) by rw [firstC, if_neg (by omega)])
      go_wp2_with fail
      obtain ⟨hE, hbE⟩ := fin2 (p := .int .i64 0) (q := .slice none 0 0) hD hb hDn
      change bodyPost _ _ _ _ _ ((W.setCell ⟨w.heap.size, 0, none⟩ (.int .i64 0)).setCell ⟨w.heap.size, 1, none⟩ (.slice none 0 0))
      generalize (W.setCell ⟨w.heap.size, 0, none⟩ (.int .i64 0)).setCell ⟨w.heap.size, 1, none⟩ (.slice none 0 0) = W9 at *
      clear d0 d1
      have d0 := hE.cell (i := 0) rfl
      have d1 := hE.cell (i := 1) rfl
      exact bodyPost_ret (v := .tuple #[.agg #[.int .i64 0, .slice none 0 0], .int .i64 1]) (by simp [results, Tryz.results50, go_sem, d0, d1] <;> rfl) rfl ⟨.slice none 0 0, by rw [HE.out], by rw [HE.out]; exact ChainS.nil _, hbE⟩
    · have HE := Lib.hid (show firstC n = (⟨1, firstSeats n.toNat⟩, 0) by rw [firstC, if_pos (by omega)])
      obtain ⟨N, rfl⟩ : ∃ N : Nat, n = N := ⟨n.toNat, by omega⟩
      have hDs := hD.set 0 (.int .i64 1)
      have hbs := grown_below hb (grown_setCell W w.heap.size 0 (.int .i64 1)) hDn
      have hWs' : w.heap.size + 1 ≤ (W.setCell ⟨w.heap.size, 0, none⟩ (.int .i64 1)).heap.size := by simp [World.setCell]; omega
      go_upto_region 4 with (fail)
      generalize W.setCell ⟨w.heap.size, 0, none⟩ (.int .i64 1) = W1 at *
      clear d0 d1 hf hD hb hWs
      go_wp2_with fail
      go_loopw [14] (fun i wr => ∃ (k : Nat) (v : Value), k ≤ N ∧ i = .int .i64 k ∧ BlkAt wr w.heap.size 35 [.int .i64 1, v] ∧ wr.ownsRow (w.heap.size + 1) 49 3 v k (seatsCells (firstSeats k)) ∧ Below w.heap.size w wr ∧ w.heap.size + 1 ≤ wr.heap.size) (fun i _ => N - (intOf i).toNat)
      case atStart => exact ⟨0, .slice none 0 0, Nat.zero_le _, rfl, hDs, World.ownsRow_nil _ _ _ _, hbs, hWs'⟩
      case round =>
        obtain ⟨k, v, hk, rfl, hD, hown, hb, hsz⟩ := hrel
        clear hDs hbs hWs'
        by_cases hlt : k < N
        · have d1 : wr.cell? ⟨w.heap.size, 1, none⟩ = some v := hD.cell rfl
          go_wp2_with (at_builtin; refine wpList_append_lies _ rfl (.tmp 18) (.tmp 22) 33 rfl (w.heap.size + 1) 49 i0 _ 3 24 Tryz.underlying33 hi0 hz0 hz1 hz2 rfl (by omega) _ _ _ rfl (hown.alloc _) ⟨wr.heap.size, 0, none⟩ 1 1 (seatCells ⟨k, 1, true⟩) rfl rfl ?c1 ?c2 (by omega) ?c3 ?c4 ?c5 (wr.heap.size + 1) ?c6 ?_)
          case c1 => exact World.news_of_block (heap_alloc_new _ _)
          case c2 => exact seatCells_one
          case c3 => unfold maxLen; omega
          case c4 => omega
          case c5 => simp; omega
          case c6 => simp
          intro g' cap' w' hown' hg' hat' hlt'
          have hne : some w.heap.size ≠ v.ownBlock := fun e => by have := (hown.lt _ e.symm).1; omega
          have hDl := hD.lt
          have hD2 : BlkAt w' w.heap.size 35 [.int .i64 1, v] := (hg'.block _ (by simp; omega) hne).trans (hD.alloc (.cells (seatCells ⟨k, 1, true⟩).toArray 49))
          have hb2 : Below w.heap.size w w' := (hb.alloc hb.size _).grown hg' (by simp; omega) (fun j hj => by have := (hown.lt j hj).1; omega)
          have hsz2 : w.heap.size + 1 ≤ w'.heap.size := by have := hg'.size; simp at this; omega
          clear hg' hat' hD hown d1 hb hsz
          have d1 : w'.cell? ⟨w.heap.size, 1, none⟩ = some v := hD2.cell rfl
          have hf := hD2.free 1
          go_wp2_with fail
          go_roundw
          case rel => exact ⟨k + 1, _, by omega, by go_num, hD2.set 1 _, by rw [firstSeats_snoc, seatsCells_snoc]; exact own_set hown' (by omega), grown_below hb2 (grown_setCell w' w.heap.size 1 _) (Nat.le_refl _), by simp [World.setCell]; omega⟩
          case measure => simp [intOf]; omega
        · obtain rfl : k = N := by omega
          obtain ⟨A, capv, rfl⟩ := own_form hown
          have d0 : wr.cell? ⟨w.heap.size, 0, none⟩ = some (.int .i64 1) := hD.cell rfl
          have d1 : wr.cell? ⟨w.heap.size, 1, none⟩ = some (.slice A k capv) := hD.cell rfl
          have hf := hD.free
          go_wp2_with fail
          obtain ⟨hE, hbE⟩ := fin2 (p := .int .i64 1) (q := .slice A k capv) hD hb (Nat.le_refl _)
          have hoE := own_set (D := w.heap.size) (i := 1) (u := .slice A k capv) (own_set (D := w.heap.size) (i := 0) (u := .int .i64 1) hown (Nat.lt_succ_self _)) (Nat.lt_succ_self _)
          change bodyPost _ _ _ _ _ ((wr.setCell ⟨w.heap.size, 0, none⟩ (.int .i64 1)).setCell ⟨w.heap.size, 1, none⟩ (.slice A k capv))
          generalize (wr.setCell ⟨w.heap.size, 0, none⟩ (.int .i64 1)).setCell ⟨w.heap.size, 1, none⟩ (.slice A k capv) = W9 at *
          clear d0 d1
          have d0 := hE.cell (i := 0) rfl
          have d1 := hE.cell (i := 1) rfl
          exact bodyPost_ret (v := .tuple #[.agg #[.int .i64 1, .slice A k capv], .int .i64 0]) (by simp [results, Tryz.results50, go_sem, d0, d1] <;> rfl) rfl ⟨_, by rw [HE.out], by rw [HE.out, Int.toNat_natCast]; exact chainS_of_own (by rw [firstSeats_len]; exact hoE) (firstSeats_ok k (by omega)), hbE⟩
theorem cfirst_any (n : Int) (hn : W64 n) (w : World) :
    Calls Tryz.prog 50 #[.int .i64 n] w fun en w' => ConfRes w w' en (firstC n).1 (.int .i64 (firstC n).2) := (cfirst_s n hn w).mono fun _ _ r => r.res
end Go.Proofs.YtomfmejodmfioaaGreat
namespace Go.Proofs.YtomfmejodmfioaaGreat
open Go.RowKit Go.ChangeShapes Go.WideShapes Go.Joins
set_option linter.unusedVariables false

end Go.Proofs.YtomfmejodmfioaaGreat
namespace Go.Proofs.YtomfmejodmfioaaGreat
open Go.RowKit Go.ChangeShapes Go.WideShapes Go.Joins
set_option linter.unusedVariables false

theorem leftC_snoc {L : List SeatV} {G : List (Int × Int)} {k : Nat} {s : SeatV} (h : L[k]? = some s) : leftC (L.take (k + 1)) G = if G.contains (s.node, s.life) = true then leftC (L.take k) G else leftC (L.take k) G ++ [s] := by
  rw [take_snoc h, leftC, List.filter_append]
  cases hc : G.contains (s.node, s.life) with
  | true => rw [if_pos rfl]; simp only [List.filter_cons, hc, Bool.not_true, Bool.false_eq_true, if_false, List.filter_nil, List.append_nil]; rfl
  | false => rw [if_neg (by simp)]; simp only [List.filter_cons, hc, Bool.not_false, if_true, List.filter_nil]; rfl
theorem leftC_mem {L : List SeatV} {G : List (Int × Int)} {s : SeatV} (h : s ∈ leftC L G) : s ∈ L := (List.mem_filter.1 h).1
theorem leftC_len (L : List SeatV) (G : List (Int × Int)) : (leftC L G).length ≤ L.length := List.length_filter_le _ _

set_option maxRecDepth 100000 in
set_option maxHeartbeats 4000000 in
theorem cwithout_s {w : World} {v vg : Value} {L : List SeatV} {G : List (Int × Int)} (hv : ChainAt w v L) (hg : MemsV w vg G) (e : Int) :
    Calls Tryz.prog 43 #[.agg #[.int .i64 e, v], vg] w fun en w' => ConfResS w w' en (withoutC ⟨e, L⟩ G).1 (.int .i64 (withoutC ⟨e, L⟩ G).2) := by
  obtain ⟨i0, hi0, hz0, hz1, hz2⟩ := info_parts seat_full
  obtain ⟨a, cap, rfl, hs⟩ := hv
  obtain ⟨a2, cap2, rfl, hg2⟩ := hg
  have hg : MemsV w (.slice a2 G.length cap2) G := ⟨a2, cap2, rfl, hg2⟩
  have hv : ChainAt w (.slice a L.length cap) L := ⟨a, cap, rfl, hs⟩
  have hlen := hs.1
  unfold maxLen at hlen
  go_enter Tryz.func43, Tryz.ntmps43
  go_upto_region 1 with (fail)
  have hC : BlkAt ((w.alloc (.cells #[.int .i64 e, .slice a L.length cap] 35)).alloc (.cells #[.int .i64 0, .slice none 0 0] 35)) w.heap.size 35 [.int .i64 e, .slice a L.length cap] := (BlkAt.new w 35 [.int .i64 e, .slice a L.length cap]).alloc _
  have hD : BlkAt ((w.alloc (.cells #[.int .i64 e, .slice a L.length cap] 35)).alloc (.cells #[.int .i64 0, .slice none 0 0] 35)) (w.heap.size + 1) 35 [.int .i64 0, .slice none 0 0] := BlkAt.newAt (by simp) 35 [.int .i64 0, .slice none 0 0]
  have hb : Below w.heap.size w ((w.alloc (.cells #[.int .i64 e, .slice a L.length cap] 35)).alloc (.cells #[.int .i64 0, .slice none 0 0] 35)) := ((Below.refl w.heap.size w).alloc (Nat.le_refl _) _).alloc (by simp) _
  have hWs : w.heap.size + 2 ≤ ((w.alloc (.cells #[.int .i64 e, .slice a L.length cap] 35)).alloc (.cells #[.int .i64 0, .slice none 0 0] 35)).heap.size := by simp
  change Code.wp _ _ _ _ ((w.alloc (.cells #[.int .i64 e, .slice a L.length cap] 35)).alloc (.cells #[.int .i64 0, .slice none 0 0] 35))
  generalize (w.alloc (.cells #[.int .i64 e, .slice a L.length cap] 35)).alloc (.cells #[.int .i64 0, .slice none 0 0] 35) = W at *
  have hDn : w.heap.size ≤ w.heap.size + 1 := by omega
  have hDb : w.heap.size + 1 < w.heap.size + 2 := by omega
  have hDC : w.heap.size ≠ w.heap.size + 1 := by omega
  generalize hDd : w.heap.size + 1 = D at *
  have c0 : W.cell? ⟨w.heap.size, 0, none⟩ = some (.int .i64 e) := hC.cell rfl
  have c1 : W.cell? ⟨w.heap.size, 1, none⟩ = some (.slice a L.length cap) := hC.cell rfl
  have hvW := hv.below hb
  go_wp2_with fail
  refine (cright_any (by exact hvW) e).mono ?_
  rintro en w2 ⟨rfl, b2⟩
  have hC := hC.below b2
  have hD := hD.below b2
  have hb := below_step hb b2
  have hWs : w.heap.size + 2 ≤ w2.heap.size := by have := b2.size; omega
  clear c0 c1 hvW b2
  cases hr : rightC ⟨e, L⟩ with
  | false =>
    have HE := Lib.hid (show withoutC ⟨e, L⟩ G = (⟨0, []⟩, 3) by rw [withoutC, if_pos hr])
    clear hr
    have d0 : w2.cell? ⟨D, 0, none⟩ = some (.int .i64 0) := hD.cell rfl
    have d1 : w2.cell? ⟨D, 1, none⟩ = some (.slice none 0 0) := hD.cell rfl
    have hf := hD.free
    go_wp2_with fail
    obtain ⟨hE, hbE⟩ := fin2 (p := .int .i64 0) (q := .slice none 0 0) hD hb hDn
    change bodyPost _ _ _ _ _ ((w2.setCell ⟨D, 0, none⟩ (.int .i64 0)).setCell ⟨D, 1, none⟩ (.slice none 0 0))
    generalize (w2.setCell ⟨D, 0, none⟩ (.int .i64 0)).setCell ⟨D, 1, none⟩ (.slice none 0 0) = W9 at *
    clear d0 d1
    have d0 := hE.cell (i := 0) rfl
    have d1 := hE.cell (i := 1) rfl
    exact bodyPost_ret (v := .tuple #[.agg #[.int .i64 0, .slice none 0 0], .int .i64 3]) (by simp [results, Tryz.results43, go_sem, d0, d1] <;> rfl) rfl ⟨.slice none 0 0, by rw [HE.out], by rw [HE.out]; exact ChainS.nil _, hbE⟩
  | true =>
    have hri := rightC_iff.1 hr
    have he1 : 1 ≤ e := hri.1
    have he2 : e ≤ 1099511627776 := hri.2.1
    have hl8 : L.length ≤ 8 := hri.2.2.2.1
    have HR := Lib.hid hr
    have c1 : w2.cell? ⟨w.heap.size, 1, none⟩ = some (.slice a L.length cap) := hC.cell rfl
    clear hr hri
    go_wp2_with fail
    go_loopw [6, 16] (fun lv i wr => ∃ k : Nat, k ≤ L.length ∧ i = .int .i64 k ∧ wr.ownsRow (w.heap.size + 2) 49 3 lv (leftC (L.take k) G).length (seatsCells (leftC (L.take k) G)) ∧ BlkAt wr w.heap.size 35 [.int .i64 e, .slice a L.length cap] ∧ BlkAt wr D 35 [.int .i64 0, .slice none 0 0] ∧ Below w.heap.size w wr ∧ w.heap.size + 2 ≤ wr.heap.size) (fun _ i _ => L.length - (intOf i).toNat)
    case atStart => exact ⟨0, Nat.zero_le _, rfl, World.ownsRow_nil _ _ _ _, hC, hD, hb, hWs⟩
    case round =>
      obtain ⟨k, hk, rfl, hown, hC, hD, hb, hsz⟩ := hrel
      clear c1 hWs
      by_cases hlt : k < L.length
      · obtain ⟨b, off, rfl, hab, hc⟩ := hs.2.2 (by omega)
        obtain ⟨s, hs'⟩ : ∃ s, L[k]? = some s := ⟨_, List.getElem?_eq_getElem hlt⟩
        obtain ⟨s0, s1, s2⟩ := (hc k s hs').of (w' := wr) fun j => hb.cell (p := ⟨b, j, none⟩) hab
        have HL := Lib.hid (leftC_snoc (G := G) hs')
        have hll : (leftC (L.take k) G).length ≤ 8 := Nat.le_trans (leftC_len _ _) (by rw [List.length_take]; omega)
        obtain ⟨x, y, z⟩ := s
        simp only at s0 s1 s2 HL
        have hHs := Lib.hid hs
        clear hc hs' hs
        go_upto_region 7 with (fail)
        have hP := BlkAt.new wr 49 [.int .i64 x, .int .i64 y, .bool z]
        have hC := hC.alloc (.cells #[.int .i64 x, .int .i64 y, .bool z] 49)
        have hD := hD.alloc (.cells #[.int .i64 x, .int .i64 y, .bool z] 49)
        have hown := hown.alloc (.cells #[.int .i64 x, .int .i64 y, .bool z] 49)
        have hb := hb.alloc hb.size (.cells #[.int .i64 x, .int .i64 y, .bool z] 49)
        have hsz : w.heap.size + 2 ≤ (wr.alloc (.cells #[.int .i64 x, .int .i64 y, .bool z] 49)).heap.size := by simp; omega
        change Code.wp _ _ _ _ (wr.alloc (.cells #[.int .i64 x, .int .i64 y, .bool z] 49))
        change BlkAt (wr.alloc (.cells #[.int .i64 x, .int .i64 y, .bool z] 49)) _ _ _ at hP
        generalize wr.alloc (.cells #[.int .i64 x, .int .i64 y, .bool z] 49) = w3 at *
        generalize wr.heap.size = X at *
        clear s0 s1 s2
        have p0 : w3.cell? ⟨X, 0, none⟩ = some (.int .i64 x) := hP.cell rfl
        have p1 : w3.cell? ⟨X, 1, none⟩ = some (.int .i64 y) := hP.cell rfl
        have hgw := hg.below hb
        go_wp2_with fail
        refine (contmem_any (by exact hgw) x y).mono ?_
        rintro en w4 ⟨rfl, b4⟩
        have hP := hP.below b4
        have hC := hC.below b4
        have hD := hD.below b4
        have hown := own_below hown b4
        have hb := below_step hb b4
        have hsz : w.heap.size + 2 ≤ w4.heap.size := by have := b4.size; omega
        clear p0 p1 hgw b4
        cases hq : G.contains (x, y) with
        | true =>
          have HK := Lib.hid (show leftC (L.take (k + 1)) G = leftC (L.take k) G by rw [HL.out, hq]; rfl)
          go_wp2_with fail
          go_roundw
          case rel => exact ⟨k + 1, by omega, by go_num, by rw [HK.out]; exact hown, hC, hD, hb, hsz⟩
          case measure => simp [intOf]; omega
        | false =>
          have HK := Lib.hid (show leftC (L.take (k + 1)) G = leftC (L.take k) G ++ [⟨x, y, z⟩] by rw [HL.out, hq]; rfl)
          have p0 : w4.cell? ⟨X, 0, none⟩ = some (.int .i64 x) := hP.cell rfl
          have p1 : w4.cell? ⟨X, 1, none⟩ = some (.int .i64 y) := hP.cell rfl
          have p2 : w4.cell? ⟨X, 2, none⟩ = some (.bool z) := hP.cell rfl
          go_wp2_with (at_builtin; refine wpList_append_lies _ rfl (.tmp 25) (.tmp 27) 33 rfl (w.heap.size + 2) 49 i0 _ 3 24 Tryz.underlying33 hi0 hz0 hz1 hz2 rfl (by omega) _ _ _ rfl (hown.alloc _) ⟨w4.heap.size, 0, none⟩ 1 1 (seatCells ⟨x, y, z⟩) rfl rfl ?c1 ?c2 (by omega) ?c3 ?c4 ?c5 (w4.heap.size + 1) ?c6 ?_)
          case c1 => exact World.news_of_block (heap_alloc_new _ _)
          case c2 => exact seatCells_one
          case c3 => unfold maxLen; omega
          case c4 => omega
          case c5 => simp; omega
          case c6 => simp
          intro g' cap' w' hown' hg' hat' hlt'
          have hne1 := own_ne hown (D := w.heap.size) (by omega)
          have hne2 := own_ne hown (D := D) (by omega)
          have hCl := hC.lt
          have hDl := hD.lt
          have hC2 : BlkAt w' w.heap.size 35 [.int .i64 e, .slice (some ⟨b, off, none⟩) L.length cap] := (hg'.block _ (by simp; omega) hne1).trans (hC.alloc (.cells (seatCells ⟨x, y, z⟩).toArray 49))
          have hD2 : BlkAt w' D 35 [.int .i64 0, .slice none 0 0] := (hg'.block _ (by simp; omega) hne2).trans (hD.alloc (.cells (seatCells ⟨x, y, z⟩).toArray 49))
          have hb2 : Below w.heap.size w w' := (hb.alloc hb.size _).grown hg' (by simp; omega) (fun j hj => by have := (hown.lt j hj).1; omega)
          have hsz2 : w.heap.size + 2 ≤ w'.heap.size := by have := hg'.size; simp at this; omega
          clear hg' hat' hD hC hown hb hsz p0 p1 p2
          go_wp2_with fail
          go_roundw
          case rel => exact ⟨k + 1, by omega, by go_num, by rw [HK.out, seatsCells_snoc, List.length_append]; exact hown', hC2, hD2, hb2, hsz2⟩
          case measure => simp [intOf]; omega
      · have hkl : L.take k = L := List.take_of_length_le (by omega)
        rw [hkl] at hown
        have hll := leftC_len L G
        have hLok : ∀ s ∈ leftC L G, SeatOk s := fun s h => hs.2.1 s (leftC_mem h)
        have HW := Lib.hid (show withoutC ⟨e, L⟩ G = if (leftC L G).length = L.length then (⟨0, []⟩, 10) else if (leftC L G)[0]?.map SeatV.sync = some true then laterC e (leftC L G) else (⟨0, []⟩, 13) by rw [withoutC, if_neg (by rw [HR.out]; simp)])
        clear hkl hs hv
        generalize leftC L G = M at *
        have c1 : wr.cell? ⟨w.heap.size, 1, none⟩ = some (.slice a L.length cap) := hC.cell rfl
        by_cases h1 : M.length = L.length
        · have HE := Lib.hid (show withoutC ⟨e, L⟩ G = (⟨0, []⟩, 10) by rw [HW.out, if_pos h1])
          obtain ⟨A, capv, rfl⟩ := own_form hown
          have h1' : ((M.length : Int) == (L.length : Int)) = true := by simp; omega
          have h1'' : (M.length : Int) = (L.length : Int) := by omega
          have d0 : wr.cell? ⟨D, 0, none⟩ = some (.int .i64 0) := hD.cell rfl
          have d1 : wr.cell? ⟨D, 1, none⟩ = some (.slice none 0 0) := hD.cell rfl
          have hf := hD.free
          go_wp2_with fail
          obtain ⟨hE, hbE⟩ := fin2 (p := .int .i64 0) (q := .slice none 0 0) hD hb hDn
          change bodyPost _ _ _ _ _ ((wr.setCell ⟨D, 0, none⟩ (.int .i64 0)).setCell ⟨D, 1, none⟩ (.slice none 0 0))
          generalize (wr.setCell ⟨D, 0, none⟩ (.int .i64 0)).setCell ⟨D, 1, none⟩ (.slice none 0 0) = W9 at *
          clear d0 d1
          have d0 := hE.cell (i := 0) rfl
          have d1 := hE.cell (i := 1) rfl
          exact bodyPost_ret (v := .tuple #[.agg #[.int .i64 0, .slice none 0 0], .int .i64 10]) (by simp [results, Tryz.results43, go_sem, d0, d1] <;> rfl) rfl ⟨.slice none 0 0, by rw [HE.out], by rw [HE.out]; exact ChainS.nil _, hbE⟩
        · have h1' : ((M.length : Int) == (L.length : Int)) = false := by simp; omega
          have h1'' : ¬ (M.length : Int) = (L.length : Int) := by omega
          cases M with
          | nil =>
            have HE := Lib.hid (show withoutC ⟨e, L⟩ G = (⟨0, []⟩, 13) by rw [HW.out, if_neg h1]; rfl)
            obtain ⟨A, capv, rfl⟩ := own_form hown
            simp only [List.length_nil] at h1' h1'' hown ⊢
            have d0 : wr.cell? ⟨D, 0, none⟩ = some (.int .i64 0) := hD.cell rfl
            have d1 : wr.cell? ⟨D, 1, none⟩ = some (.slice none 0 0) := hD.cell rfl
            have hf := hD.free
            go_wp2_with fail
            obtain ⟨hE, hbE⟩ := fin2 (p := .int .i64 0) (q := .slice none 0 0) hD hb hDn
            change bodyPost _ _ _ _ _ ((wr.setCell ⟨D, 0, none⟩ (.int .i64 0)).setCell ⟨D, 1, none⟩ (.slice none 0 0))
            generalize (wr.setCell ⟨D, 0, none⟩ (.int .i64 0)).setCell ⟨D, 1, none⟩ (.slice none 0 0) = W9 at *
            clear d0 d1
            have d0 := hE.cell (i := 0) rfl
            have d1 := hE.cell (i := 1) rfl
            exact bodyPost_ret (v := .tuple #[.agg #[.int .i64 0, .slice none 0 0], .int .i64 13]) (by simp [results, Tryz.results43, go_sem, d0, d1] <;> rfl) rfl ⟨.slice none 0 0, by rw [HE.out], by rw [HE.out]; exact ChainS.nil _, hbE⟩
          | cons s M =>
            obtain ⟨g, capv, rfl, hgb, hgl⟩ := hown.form (by simp)
            have q2 : wr.cell? ⟨g, 2, none⟩ = some (.bool s.sync) := hown.cellAt 2 (by simp; omega)
            have hn2 : 0 < (s :: M).length := by simp
            generalize hMn : (s :: M).length = n at *
            have hn0 : ((n : Int) == 0) = false := by rw [beq_eq_false_iff_ne]; omega
            have hn1 : (0 : Int) < (n : Int) := by omega
            have hn3 : ¬ (n : Int) = 0 := by omega
            cases hz : s.sync with
            | false =>
              rw [hz] at q2
              have HE := Lib.hid (show withoutC ⟨e, L⟩ G = (⟨0, []⟩, 13) by rw [HW.out, if_neg h1, if_neg (by simp [hz])])
              have d0 : wr.cell? ⟨D, 0, none⟩ = some (.int .i64 0) := hD.cell rfl
              have d1 : wr.cell? ⟨D, 1, none⟩ = some (.slice none 0 0) := hD.cell rfl
              have hf := hD.free
              go_wp2_with fail
              obtain ⟨hE, hbE⟩ := fin2 (p := .int .i64 0) (q := .slice none 0 0) hD hb hDn
              change bodyPost _ _ _ _ _ ((wr.setCell ⟨D, 0, none⟩ (.int .i64 0)).setCell ⟨D, 1, none⟩ (.slice none 0 0))
              generalize (wr.setCell ⟨D, 0, none⟩ (.int .i64 0)).setCell ⟨D, 1, none⟩ (.slice none 0 0) = W9 at *
              clear d0 d1
              have d0 := hE.cell (i := 0) rfl
              have d1 := hE.cell (i := 1) rfl
              exact bodyPost_ret (v := .tuple #[.agg #[.int .i64 0, .slice none 0 0], .int .i64 13]) (by simp [results, Tryz.results43, go_sem, d0, d1] <;> rfl) rfl ⟨.slice none 0 0, by rw [HE.out], by rw [HE.out]; exact ChainS.nil _, hbE⟩
            | true =>
              rw [hz] at q2
              have HW := Lib.hid (show withoutC ⟨e, L⟩ G = laterC e (s :: M) by rw [HW.out, if_neg h1, if_pos (by simp [hz])])
              by_cases h2 : 1099511627776 ≤ e
              · have HE := Lib.hid (show withoutC ⟨e, L⟩ G = (⟨0, []⟩, 5) by rw [HW.out, laterC, if_pos h2])
                go_wp2_with fail
                refine (later_full (by exact hC) h2).mono ?_
                rintro en w4 ⟨rfl, b4⟩
                have hD := hD.below b4
                have hb := below_step hb b4
                clear b4 q2 c1
                have d0 : w4.cell? ⟨D, 0, none⟩ = some (.int .i64 0) := hD.cell rfl
                have d1 : w4.cell? ⟨D, 1, none⟩ = some (.slice none 0 0) := hD.cell rfl
                have hf := hD.free
                go_wp2_with fail
                obtain ⟨hE, hbE⟩ := fin2 (p := .int .i64 0) (q := .slice none 0 0) hD hb hDn
                change bodyPost _ _ _ _ _ ((w4.setCell ⟨D, 0, none⟩ (.int .i64 0)).setCell ⟨D, 1, none⟩ (.slice none 0 0))
                generalize (w4.setCell ⟨D, 0, none⟩ (.int .i64 0)).setCell ⟨D, 1, none⟩ (.slice none 0 0) = W9 at *
                clear d0 d1
                have d0 := hE.cell (i := 0) rfl
                have d1 := hE.cell (i := 1) rfl
                exact bodyPost_ret (v := .tuple #[.agg #[.int .i64 0, .slice none 0 0], .int .i64 5]) (by simp [results, Tryz.results43, go_sem, d0, d1] <;> rfl) rfl ⟨.slice none 0 0, by rw [HE.out], by rw [HE.out]; exact ChainS.nil _, hbE⟩
              · have HE := Lib.hid (show withoutC ⟨e, L⟩ G = (⟨e + 1, s :: M⟩, 0) by rw [HW.out, laterC, if_neg h2])
                have HO := Lib.hid hLok
                generalize hMd : s :: M = N at *
                subst hMn
                clear hLok hMd
                go_wp2_with fail
                refine (later_ok (by exact hC) (by omega) (by omega)).mono ?_
                rintro en w4 ⟨rfl, b4⟩
                have hD := hD.below b4
                have hown := own_below hown b4
                have hb := below_step hb b4
                clear b4 q2 c1
                have d0 : w4.cell? ⟨D, 0, none⟩ = some (.int .i64 0) := hD.cell rfl
                have d1 : w4.cell? ⟨D, 1, none⟩ = some (.slice none 0 0) := hD.cell rfl
                have hf := hD.free
                have hoE := own_set (D := D) (i := 1) (u := .slice (some ⟨g, 0, none⟩) N.length capv) (own_set (D := D) (i := 0) (u := .int .i64 (e + 1)) hown (by omega)) (by omega)
                go_wp2_with fail
                obtain ⟨hE, hbE⟩ := fin2 (p := .int .i64 (e + 1)) (q := .slice (some ⟨g, 0, none⟩) N.length capv) hD hb hDn
                change bodyPost _ _ _ _ _ ((w4.setCell ⟨D, 0, none⟩ (.int .i64 (e + 1))).setCell ⟨D, 1, none⟩ (.slice (some ⟨g, 0, none⟩) N.length capv))
                generalize (w4.setCell ⟨D, 0, none⟩ (.int .i64 (e + 1))).setCell ⟨D, 1, none⟩ (.slice (some ⟨g, 0, none⟩) N.length capv) = W9 at *
                clear d0 d1
                have d0 := hE.cell (i := 0) rfl
                have d1 := hE.cell (i := 1) rfl
                exact bodyPost_ret (v := .tuple #[.agg #[.int .i64 (e + 1), .slice (some ⟨g, 0, none⟩) N.length capv], .int .i64 0]) (by simp [results, Tryz.results43, go_sem, d0, d1] <;> rfl) rfl ⟨_, by rw [HE.out], by rw [HE.out]; exact chainS_of_own hoE HO.out, hbE⟩
theorem cwithout_any {w : World} {v vg : Value} {L : List SeatV} {G : List (Int × Int)} (hv : ChainAt w v L) (hg : MemsV w vg G) (e : Int) :
    Calls Tryz.prog 43 #[.agg #[.int .i64 e, v], vg] w fun en w' => ConfRes w w' en (withoutC ⟨e, L⟩ G).1 (.int .i64 (withoutC ⟨e, L⟩ G).2) := (cwithout_s hv hg e).mono fun _ _ r => r.res
end Go.Proofs.YtomfmejodmfioaaGreat
namespace Go.Proofs.YtomfmejodmfioaaGreat
open Go.RowKit Go.ChangeShapes Go.WideShapes Go.Joins
set_option linter.unusedVariables false

theorem news_below {w0 w : World} {B : Nat} {cs : Array Value} {t : TypeId} {fr : Nat × Nat} (hb : w0.heap[B]? = some (.cells cs t fr)) (h : Below w0.heap.size w0 w) : ∀ j u, cs.toList[j]? = some u → w.cell? ((⟨B, 0, none⟩ : Addr).add j) = some u :=
  World.news_of_block ((h.block B (Array.getElem?_eq_some_iff.1 hb).1).trans hb)
theorem own_base' {w : World} {base base' : Nat} {e : TypeId} {size : Nat} {v : Value} {n : Nat} {xs : List Value} (h : w.ownsRow base e size v n xs) (hb : base' ≤ base) : w.ownsRow base' e size v n xs := by
  refine ⟨h.1, ?_⟩
  rcases h.2 with h0 | ⟨g, cap, cur, hv, hg, r⟩
  · exact .inl h0
  · exact .inr ⟨g, cap, cur, hv, Nat.le_trans hb hg, r⟩
theorem seatsOk_all {L : List SeatV} {n l : Int} {b : Bool} (h : ∀ s ∈ L, SeatOk s) (hn : W64 n) (hl : W64 l) : ∀ s ∈ L ++ [⟨n, l, b⟩], SeatOk s := by
  intro s hs
  rcases List.mem_append.1 hs with hs | hs
  · exact h s hs
  · obtain rfl : s = ⟨n, l, b⟩ := by simpa using hs
    exact ⟨hn, hl⟩

set_option maxRecDepth 100000 in
set_option maxHeartbeats 4000000 in
theorem cjoin_s {w : World} {v : Value} {L : List SeatV} (hv : ChainAt w v L) (e n l : Int) (hn : W64 n) (hl : W64 l) :
    Calls Tryz.prog 40 #[.agg #[.int .i64 e, v], .agg #[.int .i64 n, .int .i64 l]] w fun en w' => ConfResS w w' en (joinC ⟨e, L⟩ n l).1 (.int .i64 (joinC ⟨e, L⟩ n l).2) := by
  obtain ⟨i0, hi0, hz0, hz1, hz2⟩ := info_parts seat_full
  obtain ⟨a, cap, rfl, hs⟩ := hv
  have hLok := hs.2.1
  have hv0 : ChainAt w (.slice a L.length cap) L := ⟨a, cap, rfl, hs⟩
  have hlen := hs.1
  unfold maxLen at hlen
  go_enter Tryz.func40, Tryz.ntmps40
  go_upto_region 1 with (fail)
  have hC : BlkAt (((w.alloc (.cells #[.int .i64 e, .slice a L.length cap] 35)).alloc (.cells #[.int .i64 n, .int .i64 l] 42)).alloc (.cells #[.int .i64 0, .slice none 0 0] 35)) w.heap.size 35 [.int .i64 e, .slice a L.length cap] := ((BlkAt.new w 35 [.int .i64 e, .slice a L.length cap]).alloc _).alloc _
  have hM : BlkAt (((w.alloc (.cells #[.int .i64 e, .slice a L.length cap] 35)).alloc (.cells #[.int .i64 n, .int .i64 l] 42)).alloc (.cells #[.int .i64 0, .slice none 0 0] 35)) (w.heap.size + 1) 42 [.int .i64 n, .int .i64 l] := (BlkAt.newAt (by simp) 42 [.int .i64 n, .int .i64 l]).alloc _
  have hD : BlkAt (((w.alloc (.cells #[.int .i64 e, .slice a L.length cap] 35)).alloc (.cells #[.int .i64 n, .int .i64 l] 42)).alloc (.cells #[.int .i64 0, .slice none 0 0] 35)) (w.heap.size + 2) 35 [.int .i64 0, .slice none 0 0] := BlkAt.newAt (by simp) 35 [.int .i64 0, .slice none 0 0]
  have hb : Below w.heap.size w (((w.alloc (.cells #[.int .i64 e, .slice a L.length cap] 35)).alloc (.cells #[.int .i64 n, .int .i64 l] 42)).alloc (.cells #[.int .i64 0, .slice none 0 0] 35)) := (((Below.refl w.heap.size w).alloc (Nat.le_refl _) _).alloc (by simp) _).alloc (by simp; omega) _
  have hWs : w.heap.size + 3 ≤ (((w.alloc (.cells #[.int .i64 e, .slice a L.length cap] 35)).alloc (.cells #[.int .i64 n, .int .i64 l] 42)).alloc (.cells #[.int .i64 0, .slice none 0 0] 35)).heap.size := by simp
  have hv := hv0.below hb
  change Code.wp _ _ _ _ (((w.alloc (.cells #[.int .i64 e, .slice a L.length cap] 35)).alloc (.cells #[.int .i64 n, .int .i64 l] 42)).alloc (.cells #[.int .i64 0, .slice none 0 0] 35))
  generalize ((w.alloc (.cells #[.int .i64 e, .slice a L.length cap] 35)).alloc (.cells #[.int .i64 n, .int .i64 l] 42)).alloc (.cells #[.int .i64 0, .slice none 0 0] 35) = W at *
  have hDn : w.heap.size ≤ w.heap.size + 2 := by omega
  have hDb : w.heap.size + 2 < w.heap.size + 3 := by omega
  generalize hDd : w.heap.size + 2 = D at *
  generalize hMd : w.heap.size + 1 = M at *
  clear hs hv0
  have c0 : W.cell? ⟨w.heap.size, 0, none⟩ = some (.int .i64 e) := hC.cell rfl
  have c1 : W.cell? ⟨w.heap.size, 1, none⟩ = some (.slice a L.length cap) := hC.cell rfl
  go_wp2_with fail
  refine (cright_any (by exact hv) e).mono ?_
  rintro en w2 ⟨rfl, b2⟩
  have hC := hC.below b2
  have hM := hM.below b2
  have hD := hD.below b2
  have hv := hv.below b2
  have hWs : w.heap.size + 3 ≤ w2.heap.size := by have := b2.size; omega
  have hb := below_step hb b2
  clear b2
  clear c0 c1
  cases hr : rightC ⟨e, L⟩ with
  | false =>
    have HE := Lib.hid (show joinC ⟨e, L⟩ n l = (⟨0, []⟩, 3) by rw [joinC, if_pos hr])
    clear hr
    have d0 : w2.cell? ⟨D, 0, none⟩ = some (.int .i64 0) := hD.cell rfl
    have d1 : w2.cell? ⟨D, 1, none⟩ = some (.slice none 0 0) := hD.cell rfl
    have hf := hD.free
    go_wp2_with fail
    obtain ⟨hE, hbE⟩ := fin2 (p := .int .i64 0) (q := .slice none 0 0) hD hb hDn
    change bodyPost _ _ _ _ _ ((w2.setCell ⟨D, 0, none⟩ (.int .i64 0)).setCell ⟨D, 1, none⟩ (.slice none 0 0))
    generalize (w2.setCell ⟨D, 0, none⟩ (.int .i64 0)).setCell ⟨D, 1, none⟩ (.slice none 0 0) = W9 at *
    clear d0 d1
    have d0 := hE.cell (i := 0) rfl
    have d1 := hE.cell (i := 1) rfl
    exact bodyPost_ret (v := .tuple #[.agg #[.int .i64 0, .slice none 0 0], .int .i64 3]) (by simp [results, Tryz.results40, go_sem, d0, d1] <;> rfl) rfl ⟨.slice none 0 0, by rw [HE.out], by rw [HE.out]; exact ChainS.nil _, hbE⟩
  | true =>
    have hri := rightC_iff.1 hr
    have he1 : 1 ≤ e := hri.1
    have he2 : e ≤ 1099511627776 := hri.2.1
    have hl1 : 1 ≤ L.length := hri.2.2.1
    have hl8 : L.length ≤ 8 := hri.2.2.2.1
    have HR := Lib.hid hr
    have m0 : w2.cell? ⟨M, 0, none⟩ = some (.int .i64 n) := hM.cell rfl
    have m1 : w2.cell? ⟨M, 1, none⟩ = some (.int .i64 l) := hM.cell rfl
    clear hr hri
    go_wp2_with fail
    refine (cmay_any n l _).mono ?_
    rintro en w3 ⟨rfl, b2⟩
    have hC := hC.below b2
    have hM := hM.below b2
    have hD := hD.below b2
    have hv := hv.below b2
    have hWs : w.heap.size + 3 ≤ w3.heap.size := by have := b2.size; omega
    have hb := below_step hb b2
    clear b2
    clear m0 m1
    cases hm : mayM n l with
    | false =>
      have HE := Lib.hid (show joinC ⟨e, L⟩ n l = (⟨0, []⟩, 1) by rw [joinC, if_neg (by rw [HR.out]; simp), if_pos hm])
      clear hm
      have d0 : w3.cell? ⟨D, 0, none⟩ = some (.int .i64 0) := hD.cell rfl
      have d1 : w3.cell? ⟨D, 1, none⟩ = some (.slice none 0 0) := hD.cell rfl
      have hf := hD.free
      go_wp2_with fail
      obtain ⟨hE, hbE⟩ := fin2 (p := .int .i64 0) (q := .slice none 0 0) hD hb hDn
      change bodyPost _ _ _ _ _ ((w3.setCell ⟨D, 0, none⟩ (.int .i64 0)).setCell ⟨D, 1, none⟩ (.slice none 0 0))
      generalize (w3.setCell ⟨D, 0, none⟩ (.int .i64 0)).setCell ⟨D, 1, none⟩ (.slice none 0 0) = W9 at *
      clear d0 d1
      have d0 := hE.cell (i := 0) rfl
      have d1 := hE.cell (i := 1) rfl
      exact bodyPost_ret (v := .tuple #[.agg #[.int .i64 0, .slice none 0 0], .int .i64 1]) (by simp [results, Tryz.results40, go_sem, d0, d1] <;> rfl) rfl ⟨.slice none 0 0, by rw [HE.out], by rw [HE.out]; exact ChainS.nil _, hbE⟩
    | true =>
      have HM := Lib.hid hm
      clear hm
      have c1 : w3.cell? ⟨w.heap.size, 1, none⟩ = some (.slice a L.length cap) := hC.cell rfl
      go_wp2_with fail
      refine (contfunc_any (fun s => s.node == n) 69 #[.pointer (some ⟨M, 0, none⟩)] (fun _ _ => rfl) (by exact hv) (fun W' x y b _ _ hb' => (join1_any (hM.below hb') x y b).mono fun _ _ ⟨h, g⟩ => ⟨h, hb'.trans (g.mono hb'.size)⟩)).mono ?_
      rintro en w4 ⟨rfl, b2⟩
      have hC := hC.below b2
      have hM := hM.below b2
      have hD := hD.below b2
      have hv := hv.below b2
      have hWs : w.heap.size + 3 ≤ w4.heap.size := by have := b2.size; omega
      have hb := below_step hb b2
      clear b2
      clear c1
      cases hq : L.any (fun s => s.node == n) with
      | true =>
        have HE := Lib.hid (show joinC ⟨e, L⟩ n l = (⟨0, []⟩, 11) by rw [joinC, if_neg (by rw [HR.out]; simp), if_neg (by rw [HM.out]; simp), if_pos hq])
        clear hq
        have d0 : w4.cell? ⟨D, 0, none⟩ = some (.int .i64 0) := hD.cell rfl
        have d1 : w4.cell? ⟨D, 1, none⟩ = some (.slice none 0 0) := hD.cell rfl
        have hf := hD.free
        go_wp2_with fail
        obtain ⟨hE, hbE⟩ := fin2 (p := .int .i64 0) (q := .slice none 0 0) hD hb hDn
        change bodyPost _ _ _ _ _ ((w4.setCell ⟨D, 0, none⟩ (.int .i64 0)).setCell ⟨D, 1, none⟩ (.slice none 0 0))
        generalize (w4.setCell ⟨D, 0, none⟩ (.int .i64 0)).setCell ⟨D, 1, none⟩ (.slice none 0 0) = W9 at *
        clear d0 d1
        have d0 := hE.cell (i := 0) rfl
        have d1 := hE.cell (i := 1) rfl
        exact bodyPost_ret (v := .tuple #[.agg #[.int .i64 0, .slice none 0 0], .int .i64 11]) (by simp [results, Tryz.results40, go_sem, d0, d1] <;> rfl) rfl ⟨.slice none 0 0, by rw [HE.out], by rw [HE.out]; exact ChainS.nil _, hbE⟩
      | false =>
        have HW := Lib.hid (show joinC ⟨e, L⟩ n l = laterC e (L ++ [⟨n, l, false⟩]) by rw [joinC, if_neg (by rw [HR.out]; simp), if_neg (by rw [HM.out]; simp), if_neg (by rw [hq]; simp)])
        clear hq
        have k1 : w4.drew.cell? ⟨w.heap.size, 1, none⟩ = some (.slice a L.length cap) := hC.drew.cell rfl
        have k2 : (w4.alloc (.cells #[.int .i64 n, .int .i64 l, .bool false] 49)).cell? ⟨w.heap.size, 1, none⟩ = some (.slice a L.length cap) := (hC.alloc _).cell rfl
        have k3 : w4.cell? ⟨w.heap.size, 1, none⟩ = some (.slice a L.length cap) := hC.cell rfl
        have m4 : w4.cell? ⟨M, 0, none⟩ = some (.int .i64 n) := hM.cell rfl
        have m5 : w4.cell? ⟨M, 1, none⟩ = some (.int .i64 l) := hM.cell rfl
        have m2 : w4.drew.cell? ⟨M, 0, none⟩ = some (.int .i64 n) := hM.drew.cell rfl
        have m3 : w4.drew.cell? ⟨M, 1, none⟩ = some (.int .i64 l) := hM.drew.cell rfl
        by_cases h2 : 1099511627776 ≤ e
        · have HE := Lib.hid (show joinC ⟨e, L⟩ n l = (⟨0, []⟩, 5) by rw [HW.out, laterC, if_pos h2])
          clear HW
          go_wp2_with fail
          go_region_law (first
            | (refine step_append_lies _ (by rfl) _ _ _ (by rfl) (w.heap.size + 3) 49 i0 _ 3 24 Tryz.underlying33 hi0 hz0 hz1 hz2 rfl (by omega) _ _ _ (by rfl) (hown6.alloc _) ⟨w6.heap.size, 0, none⟩ 1 1 (seatCells ⟨n, l, false⟩) (by rfl) (by rfl) (World.news_of_block (heap_alloc_new _ _)) seatCells_one (by omega) (by unfold maxLen; omega) (by omega) (by simp; omega) _ rfl ?_; intro g7 cap7 w7 hown7 hg7 hat7 hlt7; have hX := hD6.alloc (.cells (seatCells ⟨n, l, false⟩).toArray 49); have hY := hC6.alloc (.cells (seatCells ⟨n, l, false⟩).toArray 49); have hD7 : BlkAt w7 D 35 [.int .i64 0, .slice none 0 0] := (hg7.block _ hX.lt (own_ne hown6 (by omega))).trans hX; have hC7 : BlkAt w7 w.heap.size 35 [.int .i64 e, .slice a L.length cap] := (hg7.block _ hY.lt (own_ne hown6 (by omega))).trans hY; have hb7 : Below w.heap.size w w7 := (hb6.alloc hb6.size _).grown hg7 (by have := hb6.size; simp; omega) (fun j hj => by have := (hown6.lt j hj).1; omega))
            | (refine step_append_lies _ (by rfl) _ _ _ (by rfl) (w.heap.size + 3) 49 i0 _ 3 24 Tryz.underlying33 hi0 hz0 hz1 hz2 rfl (by omega) _ _ _ (by rfl) hown6 ⟨w4.heap.size, 0, none⟩ 1 1 (seatCells ⟨n, l, false⟩) (by rfl) (by rfl) (news_below (w0 := (w4.alloc (.cells (seatCells ⟨n, l, false⟩).toArray 49)).drew) (heap_alloc_new w4 _) b6) seatCells_one (by omega) (by unfold maxLen; omega) (by omega) hsz6 _ rfl ?_; intro g7 cap7 w7 hown7 hg7 hat7 hlt7; have hD7 : BlkAt w7 D 35 [.int .i64 0, .slice none 0 0] := (hg7.block _ hD6.lt (own_ne hown6 (by omega))).trans hD6; have hC7 : BlkAt w7 w.heap.size 35 [.int .i64 e, .slice a L.length cap] := (hg7.block _ hC6.lt (own_ne hown6 (by omega))).trans hC6; have hb7 : Below w.heap.size w w7 := hb6.grown hg7 hb6.size (fun j hj => by have := (hown6.lt j hj).1; omega))
            | (go_simp; go_at_call 32; refine (clone_any (by exact hv.drew) (by omega) (by omega)).mono ?_; rintro en w6 ⟨g6, cap6, rfl, hown6', b6⟩; have hsz5 : w.heap.size + 3 ≤ (w4.drew).heap.size := (by first | exact hWs | (simp; omega)); have hown6 := own_base' hown6' hsz5; have hsz6 := Nat.le_trans hsz5 b6.size; have hD6 := (hD.drew).below b6; have hC6 := (hC.drew).below b6; have hM6 := (hM.drew).below b6; have hb6 : Below w.heap.size w w6 := below_step (by exact hb.drew) b6; have m0 : w6.cell? ⟨M, 0, none⟩ = some (.int .i64 n) := hM6.cell rfl; have m1 : w6.cell? ⟨M, 1, none⟩ = some (.int .i64 l) := hM6.cell rfl)
            | (go_simp; go_at_call 32; refine (clone_any (by exact (hv.alloc (.cells (seatCells ⟨n, l, false⟩).toArray 49)).drew) (by omega) (by omega)).mono ?_; rintro en w6 ⟨g6, cap6, rfl, hown6', b6⟩; have hsz5 : w.heap.size + 3 ≤ ((w4.alloc (.cells (seatCells ⟨n, l, false⟩).toArray 49)).drew).heap.size := (by first | exact hWs | (simp; omega)); have hown6 := own_base' hown6' hsz5; have hsz6 := Nat.le_trans hsz5 b6.size; have hD6 := ((hD.alloc (.cells (seatCells ⟨n, l, false⟩).toArray 49)).drew).below b6; have hC6 := ((hC.alloc (.cells (seatCells ⟨n, l, false⟩).toArray 49)).drew).below b6; have hM6 := ((hM.alloc (.cells (seatCells ⟨n, l, false⟩).toArray 49)).drew).below b6; have hb6 : Below w.heap.size w w6 := below_step (by exact (hb.alloc hb.size (.cells (seatCells ⟨n, l, false⟩).toArray 49)).drew) b6; have m0 : w6.cell? ⟨M, 0, none⟩ = some (.int .i64 n) := hM6.cell rfl; have m1 : w6.cell? ⟨M, 1, none⟩ = some (.int .i64 l) := hM6.cell rfl)
            | (go_simp; go_at_call 70; refine (later_full (by exact hC7) h2).mono ?_; rintro en w8 ⟨rfl, b8⟩; have hD8 := hD7.below b8; have hown8 := own_below hown7 b8; have hb8 := below_step hb7 b8; have d0 : w8.cell? ⟨D, 0, none⟩ = some (.int .i64 0) := hD8.cell rfl; have d1 : w8.cell? ⟨D, 1, none⟩ = some (.slice none 0 0) := hD8.cell rfl; have hf := hD8.free))
          all_goals
            have hD := hD8
            have hb := hb8
            clear hown8 hown7 hown6 hb7 hb6 hD7 hC7 hD6 hC6 hM6 k1 k2 k3 m2 m3 m4 m5
            go_wp2_with fail
            obtain ⟨hE, hbE⟩ := fin2 (p := .int .i64 0) (q := .slice none 0 0) hD hb hDn
            change bodyPost _ _ _ _ _ ((w8.setCell ⟨D, 0, none⟩ (.int .i64 0)).setCell ⟨D, 1, none⟩ (.slice none 0 0))
            generalize (w8.setCell ⟨D, 0, none⟩ (.int .i64 0)).setCell ⟨D, 1, none⟩ (.slice none 0 0) = W9 at *
            clear d0 d1
            have d0 := hE.cell (i := 0) rfl
            have d1 := hE.cell (i := 1) rfl
            exact bodyPost_ret (v := .tuple #[.agg #[.int .i64 0, .slice none 0 0], .int .i64 5]) (by simp [results, Tryz.results40, go_sem, d0, d1] <;> rfl) rfl ⟨.slice none 0 0, by rw [HE.out], by rw [HE.out]; exact ChainS.nil _, hbE⟩
        · have HE := Lib.hid (show joinC ⟨e, L⟩ n l = (⟨e + 1, L ++ [⟨n, l, false⟩]⟩, 0) by rw [HW.out, laterC, if_neg h2])
          clear HW
          go_wp2_with fail
          go_region_law (first
            | (refine step_append_lies _ (by rfl) _ _ _ (by rfl) (w.heap.size + 3) 49 i0 _ 3 24 Tryz.underlying33 hi0 hz0 hz1 hz2 rfl (by omega) _ _ _ (by rfl) (hown6.alloc _) ⟨w6.heap.size, 0, none⟩ 1 1 (seatCells ⟨n, l, false⟩) (by rfl) (by rfl) (World.news_of_block (heap_alloc_new _ _)) seatCells_one (by omega) (by unfold maxLen; omega) (by omega) (by simp; omega) _ rfl ?_; intro g7 cap7 w7 hown7 hg7 hat7 hlt7; have hX := hD6.alloc (.cells (seatCells ⟨n, l, false⟩).toArray 49); have hY := hC6.alloc (.cells (seatCells ⟨n, l, false⟩).toArray 49); have hD7 : BlkAt w7 D 35 [.int .i64 0, .slice none 0 0] := (hg7.block _ hX.lt (own_ne hown6 (by omega))).trans hX; have hC7 : BlkAt w7 w.heap.size 35 [.int .i64 e, .slice a L.length cap] := (hg7.block _ hY.lt (own_ne hown6 (by omega))).trans hY; have hb7 : Below w.heap.size w w7 := (hb6.alloc hb6.size _).grown hg7 (by have := hb6.size; simp; omega) (fun j hj => by have := (hown6.lt j hj).1; omega))
            | (refine step_append_lies _ (by rfl) _ _ _ (by rfl) (w.heap.size + 3) 49 i0 _ 3 24 Tryz.underlying33 hi0 hz0 hz1 hz2 rfl (by omega) _ _ _ (by rfl) hown6 ⟨w4.heap.size, 0, none⟩ 1 1 (seatCells ⟨n, l, false⟩) (by rfl) (by rfl) (news_below (w0 := (w4.alloc (.cells (seatCells ⟨n, l, false⟩).toArray 49)).drew) (heap_alloc_new w4 _) b6) seatCells_one (by omega) (by unfold maxLen; omega) (by omega) hsz6 _ rfl ?_; intro g7 cap7 w7 hown7 hg7 hat7 hlt7; have hD7 : BlkAt w7 D 35 [.int .i64 0, .slice none 0 0] := (hg7.block _ hD6.lt (own_ne hown6 (by omega))).trans hD6; have hC7 : BlkAt w7 w.heap.size 35 [.int .i64 e, .slice a L.length cap] := (hg7.block _ hC6.lt (own_ne hown6 (by omega))).trans hC6; have hb7 : Below w.heap.size w w7 := hb6.grown hg7 hb6.size (fun j hj => by have := (hown6.lt j hj).1; omega))
            | (go_simp; go_at_call 32; refine (clone_any (by exact hv.drew) (by omega) (by omega)).mono ?_; rintro en w6 ⟨g6, cap6, rfl, hown6', b6⟩; have hsz5 : w.heap.size + 3 ≤ (w4.drew).heap.size := (by first | exact hWs | (simp; omega)); have hown6 := own_base' hown6' hsz5; have hsz6 := Nat.le_trans hsz5 b6.size; have hD6 := (hD.drew).below b6; have hC6 := (hC.drew).below b6; have hM6 := (hM.drew).below b6; have hb6 : Below w.heap.size w w6 := below_step (by exact hb.drew) b6; have m0 : w6.cell? ⟨M, 0, none⟩ = some (.int .i64 n) := hM6.cell rfl; have m1 : w6.cell? ⟨M, 1, none⟩ = some (.int .i64 l) := hM6.cell rfl)
            | (go_simp; go_at_call 32; refine (clone_any (by exact (hv.alloc (.cells (seatCells ⟨n, l, false⟩).toArray 49)).drew) (by omega) (by omega)).mono ?_; rintro en w6 ⟨g6, cap6, rfl, hown6', b6⟩; have hsz5 : w.heap.size + 3 ≤ ((w4.alloc (.cells (seatCells ⟨n, l, false⟩).toArray 49)).drew).heap.size := (by first | exact hWs | (simp; omega)); have hown6 := own_base' hown6' hsz5; have hsz6 := Nat.le_trans hsz5 b6.size; have hD6 := ((hD.alloc (.cells (seatCells ⟨n, l, false⟩).toArray 49)).drew).below b6; have hC6 := ((hC.alloc (.cells (seatCells ⟨n, l, false⟩).toArray 49)).drew).below b6; have hM6 := ((hM.alloc (.cells (seatCells ⟨n, l, false⟩).toArray 49)).drew).below b6; have hb6 : Below w.heap.size w w6 := below_step (by exact (hb.alloc hb.size (.cells (seatCells ⟨n, l, false⟩).toArray 49)).drew) b6; have m0 : w6.cell? ⟨M, 0, none⟩ = some (.int .i64 n) := hM6.cell rfl; have m1 : w6.cell? ⟨M, 1, none⟩ = some (.int .i64 l) := hM6.cell rfl)
            | (go_simp; go_at_call 70; refine (later_ok (by exact hC7) (by omega) (by omega)).mono ?_; rintro en w8 ⟨rfl, b8⟩; have hD8 := hD7.below b8; have hown8 := own_below hown7 b8; have hb8 := below_step hb7 b8; have d0 : w8.cell? ⟨D, 0, none⟩ = some (.int .i64 0) := hD8.cell rfl; have d1 : w8.cell? ⟨D, 1, none⟩ = some (.slice none 0 0) := hD8.cell rfl; have hf := hD8.free))
          all_goals
            have hD := hD8
            have hb := hb8
            clear hown7 hown6 hb7 hb6 hD7 hC7 hD6 hC6 hM6 k1 k2 k3 m2 m3 m4 m5
            have hoE := own_set (D := D) (i := 1) (u := .slice (some ⟨g7, 0, none⟩) (L.length + 1) cap7) (own_set (D := D) (i := 0) (u := .int .i64 (e + 1)) hown8 (by omega)) (by omega)
            go_wp2_with fail
            obtain ⟨hE, hbE⟩ := fin2 (p := .int .i64 (e + 1)) (q := .slice (some ⟨g7, 0, none⟩) (L.length + 1) cap7) hD hb hDn
            change bodyPost _ _ _ _ _ ((w8.setCell ⟨D, 0, none⟩ (.int .i64 (e + 1))).setCell ⟨D, 1, none⟩ (.slice (some ⟨g7, 0, none⟩) (L.length + 1) cap7))
            generalize (w8.setCell ⟨D, 0, none⟩ (.int .i64 (e + 1))).setCell ⟨D, 1, none⟩ (.slice (some ⟨g7, 0, none⟩) (L.length + 1) cap7) = W9 at *
            clear d0 d1
            have d0 := hE.cell (i := 0) rfl
            have d1 := hE.cell (i := 1) rfl
            exact bodyPost_ret (v := .tuple #[.agg #[.int .i64 (e + 1), .slice (some ⟨g7, 0, none⟩) (L.length + 1) cap7], .int .i64 0]) (by simp [results, Tryz.results40, go_sem, d0, d1] <;> rfl) rfl ⟨_, by rw [HE.out], by rw [HE.out]; exact chainS_of_own (by rw [List.length_append, seatsCells_append]; exact hoE) (seatsOk_all hLok hn hl), hbE⟩
theorem cjoin_any {w : World} {v : Value} {L : List SeatV} (hv : ChainAt w v L) (e n l : Int) (hn : W64 n) (hl : W64 l) :
    Calls Tryz.prog 40 #[.agg #[.int .i64 e, v], .agg #[.int .i64 n, .int .i64 l]] w fun en w' => ConfRes w w' en (joinC ⟨e, L⟩ n l).1 (.int .i64 (joinC ⟨e, L⟩ n l).2) := (cjoin_s hv e n l hn hl).mono fun _ _ r => r.res
end Go.Proofs.YtomfmejodmfioaaGreat
namespace Go.Proofs.YtomfmejodmfioaaGreat
open Go.RowKit Go.ChangeShapes Go.WideShapes Go.Joins
set_option linter.unusedVariables false

theorem seatsCells_set : ∀ (L : List SeatV) (k : Nat) (s t : SeatV), L[k]? = some s → t.node = s.node → t.life = s.life → (seatsCells L).set (k * 3 + 2) (.bool t.sync) = seatsCells (L.set k t)
  | [], k, s, t, h, _, _ => by simp at h
  | x :: L, 0, s, t, h, hn, hl => by
    obtain rfl : x = s := by simpa using h
    obtain ⟨n, l, b⟩ := t
    simp only at hn hl
    subst hn hl
    rfl
  | x :: L, k + 1, s, t, h, hn, hl => by
    have ih := seatsCells_set L k s t (by simpa using h) hn hl
    have e1 : seatsCells (x :: L) = seatCells x ++ seatsCells L := rfl
    have e2 : seatsCells ((x :: L).set (k + 1) t) = seatCells x ++ seatsCells (L.set k t) := rfl
    rw [e1, e2, ← ih, List.set_append_right _ _ (by simp [seatCells]; omega)]
    congr 2
    simp [seatCells]
    omega
theorem own_store {w : World} {base g cap : Nat} {e : TypeId} {size : Nat} {n j : Nat} {u : Value} {xs : List Value} (h : w.ownsRow base e size (.slice (some ⟨g, 0, none⟩) n cap) n xs) (hj : j < n * size) :
    (w.setCell ⟨g, j, none⟩ u).ownsRow base e size (.slice (some ⟨g, 0, none⟩) n cap) n (xs.set j u) := by
  obtain ⟨h1, h2⟩ := h
  refine ⟨by rw [List.length_set]; exact h1, ?_⟩
  rcases h2 with ⟨h0, _⟩ | ⟨g', cap', cur, hv, hb, hg, hn, hc, hs, ht⟩
  · cases h0
  · cases hv
    refine .inr ⟨g, cap, cur.setIfInBounds j u, rfl, hb, ?_, hn, hc, by simp [hs], ?_⟩
    · simp [World.setCell, Array.getElem?_modify, hg]
    · rw [← ht]
      simp [List.take_set]
theorem seatsOk_set {L : List SeatV} {k : Nat} {t : SeatV} (h : ∀ s ∈ L, SeatOk s) (ht : SeatOk t) : ∀ s ∈ L.set k t, SeatOk s := by
  intro s hs
  rcases List.mem_or_eq_of_mem_set hs with hs | rfl
  · exact h s hs
  · exact ht
theorem place_idx (L : List SeatV) (n l : Int) : placeC L n l = match L.findIdx? (fun s => s.node == n && s.life == l) with | some i => (i : Int) | none => -1 := rfl

set_option maxRecDepth 100000 in
set_option maxHeartbeats 4000000 in
theorem csynced_s {w : World} {v : Value} {L : List SeatV} (hv : ChainAt w v L) (e n l : Int) (hn : W64 n) (hl : W64 l) :
    Calls Tryz.prog 38 #[.agg #[.int .i64 e, v], .agg #[.int .i64 n, .int .i64 l]] w fun en w' => ConfResS w w' en (syncedC ⟨e, L⟩ n l).1 (.int .i64 (syncedC ⟨e, L⟩ n l).2) := by
  obtain ⟨i0, hi0, hz0, hz1, hz2⟩ := info_parts seat_full
  obtain ⟨a, cap, rfl, hs⟩ := hv
  have hLok := hs.2.1
  have hv0 : ChainAt w (.slice a L.length cap) L := ⟨a, cap, rfl, hs⟩
  have hlen := hs.1
  unfold maxLen at hlen
  go_enter Tryz.func38, Tryz.ntmps38
  go_upto_region 1 with (fail)
  have hC : BlkAt (((w.alloc (.cells #[.int .i64 e, .slice a L.length cap] 35)).alloc (.cells #[.int .i64 n, .int .i64 l] 42)).alloc (.cells #[.int .i64 0, .slice none 0 0] 35)) w.heap.size 35 [.int .i64 e, .slice a L.length cap] := ((BlkAt.new w 35 [.int .i64 e, .slice a L.length cap]).alloc _).alloc _
  have hM : BlkAt (((w.alloc (.cells #[.int .i64 e, .slice a L.length cap] 35)).alloc (.cells #[.int .i64 n, .int .i64 l] 42)).alloc (.cells #[.int .i64 0, .slice none 0 0] 35)) (w.heap.size + 1) 42 [.int .i64 n, .int .i64 l] := (BlkAt.newAt (by simp) 42 [.int .i64 n, .int .i64 l]).alloc _
  have hD : BlkAt (((w.alloc (.cells #[.int .i64 e, .slice a L.length cap] 35)).alloc (.cells #[.int .i64 n, .int .i64 l] 42)).alloc (.cells #[.int .i64 0, .slice none 0 0] 35)) (w.heap.size + 2) 35 [.int .i64 0, .slice none 0 0] := BlkAt.newAt (by simp) 35 [.int .i64 0, .slice none 0 0]
  have hb : Below w.heap.size w (((w.alloc (.cells #[.int .i64 e, .slice a L.length cap] 35)).alloc (.cells #[.int .i64 n, .int .i64 l] 42)).alloc (.cells #[.int .i64 0, .slice none 0 0] 35)) := (((Below.refl w.heap.size w).alloc (Nat.le_refl _) _).alloc (by simp) _).alloc (by simp; omega) _
  have hWs : w.heap.size + 3 ≤ (((w.alloc (.cells #[.int .i64 e, .slice a L.length cap] 35)).alloc (.cells #[.int .i64 n, .int .i64 l] 42)).alloc (.cells #[.int .i64 0, .slice none 0 0] 35)).heap.size := by simp
  have hv := hv0.below hb
  change Code.wp _ _ _ _ (((w.alloc (.cells #[.int .i64 e, .slice a L.length cap] 35)).alloc (.cells #[.int .i64 n, .int .i64 l] 42)).alloc (.cells #[.int .i64 0, .slice none 0 0] 35))
  generalize ((w.alloc (.cells #[.int .i64 e, .slice a L.length cap] 35)).alloc (.cells #[.int .i64 n, .int .i64 l] 42)).alloc (.cells #[.int .i64 0, .slice none 0 0] 35) = W at *
  have hDn : w.heap.size ≤ w.heap.size + 2 := by omega
  have hDb : w.heap.size + 2 < w.heap.size + 3 := by omega
  generalize hDd : w.heap.size + 2 = D at *
  generalize hMd : w.heap.size + 1 = M at *
  clear hs hv0
  have c0 : W.cell? ⟨w.heap.size, 0, none⟩ = some (.int .i64 e) := hC.cell rfl
  have c1 : W.cell? ⟨w.heap.size, 1, none⟩ = some (.slice a L.length cap) := hC.cell rfl
  go_wp2_with fail
  refine (cright_any (by exact hv) e).mono ?_
  rintro en w2 ⟨rfl, b2⟩
  have hC := hC.below b2
  have hM := hM.below b2
  have hD := hD.below b2
  have hv := hv.below b2
  have hWs : w.heap.size + 3 ≤ w2.heap.size := by have := b2.size; omega
  have hb := below_step hb b2
  clear b2
  clear c0 c1
  cases hr : rightC ⟨e, L⟩ with
  | false =>
    have HE := Lib.hid (show syncedC ⟨e, L⟩ n l = (⟨0, []⟩, 3) by rw [syncedC, if_pos hr])
    clear hr
    have d0 : w2.cell? ⟨D, 0, none⟩ = some (.int .i64 0) := hD.cell rfl
    have d1 : w2.cell? ⟨D, 1, none⟩ = some (.slice none 0 0) := hD.cell rfl
    have hf := hD.free
    go_wp2_with fail
    obtain ⟨hE, hbE⟩ := fin2 (p := .int .i64 0) (q := .slice none 0 0) hD hb hDn
    change bodyPost _ _ _ _ _ ((w2.setCell ⟨D, 0, none⟩ (.int .i64 0)).setCell ⟨D, 1, none⟩ (.slice none 0 0))
    generalize (w2.setCell ⟨D, 0, none⟩ (.int .i64 0)).setCell ⟨D, 1, none⟩ (.slice none 0 0) = W9 at *
    clear d0 d1
    have d0 := hE.cell (i := 0) rfl
    have d1 := hE.cell (i := 1) rfl
    exact bodyPost_ret (v := .tuple #[.agg #[.int .i64 0, .slice none 0 0], .int .i64 3]) (by simp [results, Tryz.results38, go_sem, d0, d1] <;> rfl) rfl ⟨.slice none 0 0, by rw [HE.out], by rw [HE.out]; exact ChainS.nil _, hbE⟩
  | true =>
    have hri := rightC_iff.1 hr
    have he1 : 1 ≤ e := hri.1
    have he2 : e ≤ 1099511627776 := hri.2.1
    have hl1 : 1 ≤ L.length := hri.2.2.1
    have hl8 : L.length ≤ 8 := hri.2.2.2.1
    have HR := Lib.hid hr
    have c0 : w2.cell? ⟨w.heap.size, 0, none⟩ = some (.int .i64 e) := hC.cell rfl
    have c1 : w2.cell? ⟨w.heap.size, 1, none⟩ = some (.slice a L.length cap) := hC.cell rfl
    have m0 : w2.cell? ⟨M, 0, none⟩ = some (.int .i64 n) := hM.cell rfl
    have m1 : w2.cell? ⟨M, 1, none⟩ = some (.int .i64 l) := hM.cell rfl
    clear hr hri
    go_wp2_with fail
    refine (cplace_any (by exact hv) e n l).mono ?_
    rintro en w3 ⟨rfl, b2⟩
    have hC := hC.below b2
    have hM := hM.below b2
    have hD := hD.below b2
    have hv := hv.below b2
    have hWs : w.heap.size + 3 ≤ w3.heap.size := by have := b2.size; omega
    have hb := below_step hb b2
    clear b2
    clear m0 m1 c0 c1
    rw [place_idx]
    cases hfi : L.findIdx? (fun s => s.node == n && s.life == l) with
    | none =>
      have HE := Lib.hid (show syncedC ⟨e, L⟩ n l = (⟨0, []⟩, 10) by rw [syncedC, if_neg (by rw [HR.out]; simp)]; simp only [hfi])
      clear hfi
      simp only
      have d0 : w3.cell? ⟨D, 0, none⟩ = some (.int .i64 0) := hD.cell rfl
      have d1 : w3.cell? ⟨D, 1, none⟩ = some (.slice none 0 0) := hD.cell rfl
      have hf := hD.free
      go_wp2_with fail
      obtain ⟨hE, hbE⟩ := fin2 (p := .int .i64 0) (q := .slice none 0 0) hD hb hDn
      change bodyPost _ _ _ _ _ ((w3.setCell ⟨D, 0, none⟩ (.int .i64 0)).setCell ⟨D, 1, none⟩ (.slice none 0 0))
      generalize (w3.setCell ⟨D, 0, none⟩ (.int .i64 0)).setCell ⟨D, 1, none⟩ (.slice none 0 0) = W9 at *
      clear d0 d1
      have d0 := hE.cell (i := 0) rfl
      have d1 := hE.cell (i := 1) rfl
      exact bodyPost_ret (v := .tuple #[.agg #[.int .i64 0, .slice none 0 0], .int .i64 10]) (by simp [results, Tryz.results38, go_sem, d0, d1] <;> rfl) rfl ⟨.slice none 0 0, by rw [HE.out], by rw [HE.out]; exact ChainS.nil _, hbE⟩
    | some k =>
      have hk := hfi
      rw [List.findIdx?_eq_some_iff_getElem] at hk
      obtain ⟨hkl, hkp, _⟩ := hk
      obtain ⟨s, hs⟩ : ∃ s, L[k]? = some s := ⟨_, List.getElem?_eq_getElem hkl⟩
      have hse : L[k] = s := (List.getElem?_eq_some_iff.1 hs).2
      rw [hse] at hkp
      have hnl : s.node = n ∧ s.life = l := by simpa using hkp
      have HF := Lib.hid (show syncedC ⟨e, L⟩ n l = if s.sync = true then (⟨0, []⟩, 11) else (⟨e, L.set k ⟨n, l, true⟩⟩, 0) by
        rw [syncedC, if_neg (by rw [HR.out]; simp)]
        simp only [hfi, hs, Option.map_some, Option.some.injEq])
      obtain ⟨a', cap', hcv, hs3⟩ := hv
      obtain ⟨rfl, rfl⟩ : a' = a ∧ cap' = cap := by cases hcv; exact ⟨rfl, rfl⟩
      obtain ⟨b, off, rfl, hab, hc⟩ := hs3.2.2 (by omega)
      have hv : ChainAt w3 (.slice (some ⟨b, off, none⟩) L.length cap') L := ⟨_, _, rfl, hs3⟩
      obtain ⟨_, _, s2⟩ := hc k s hs
      have HS := Lib.hid hs
      have HNL := Lib.hid hnl
      clear hfi hkp hse hcv hs3 hc hs hnl
      simp only
      have c1 : w3.cell? ⟨w.heap.size, 1, none⟩ = some (.slice (some ⟨b, off, none⟩) L.length cap') := hC.cell rfl
      cases hz : s.sync with
      | true =>
        rw [hz] at s2
        have HE := Lib.hid (show syncedC ⟨e, L⟩ n l = (⟨0, []⟩, 11) by rw [HF.out, if_pos hz])
        have d0 : w3.cell? ⟨D, 0, none⟩ = some (.int .i64 0) := hD.cell rfl
        have d1 : w3.cell? ⟨D, 1, none⟩ = some (.slice none 0 0) := hD.cell rfl
        have hf := hD.free
        go_wp2_with fail
        obtain ⟨hE, hbE⟩ := fin2 (p := .int .i64 0) (q := .slice none 0 0) hD hb hDn
        change bodyPost _ _ _ _ _ ((w3.setCell ⟨D, 0, none⟩ (.int .i64 0)).setCell ⟨D, 1, none⟩ (.slice none 0 0))
        generalize (w3.setCell ⟨D, 0, none⟩ (.int .i64 0)).setCell ⟨D, 1, none⟩ (.slice none 0 0) = W9 at *
        clear d0 d1
        have d0 := hE.cell (i := 0) rfl
        have d1 := hE.cell (i := 1) rfl
        exact bodyPost_ret (v := .tuple #[.agg #[.int .i64 0, .slice none 0 0], .int .i64 11]) (by simp [results, Tryz.results38, go_sem, d0, d1] <;> rfl) rfl ⟨.slice none 0 0, by rw [HE.out], by rw [HE.out]; exact ChainS.nil _, hbE⟩
      | false =>
        rw [hz] at s2
        have HE := Lib.hid (show syncedC ⟨e, L⟩ n l = (⟨e, L.set k ⟨n, l, true⟩⟩, 0) by rw [HF.out, if_neg (by rw [hz]; simp)])
        go_wp2_with fail
        have hc0 : w3.cell? ⟨w.heap.size, 0, none⟩ = some (.int .i64 e) := hC.cell rfl
        have e0 := World.new_ne w3 _ hc0
        have hmt : w.heap.size + 3 ≤ w3.heap.size := hWs
        go_upto_region 8 with (fail)
        go_cut [7] (fun s7 wx => ∃ g cg X : Nat, s7 = .pointer (some ⟨X, 0, none⟩) ∧ BlkAt wx X 35 [.int .i64 e, .slice (some ⟨g, 0, none⟩) L.length cg] ∧ BlkAt wx D 35 [.int .i64 0, .slice none 0 0] ∧ wx.ownsRow (w.heap.size + 3) 49 3 (.slice (some ⟨g, 0, none⟩) L.length cg) L.length (seatsCells L) ∧ Below w.heap.size w wx ∧ X ≠ g ∧ w.heap.size + 3 ≤ X)
        case first =>
          clear s2
          go_region_held (fun w' => w'.cell? ⟨w.heap.size, 0, none⟩ = some (.int .i64 e) ∧ w'.cell? ⟨w.heap.size, 1, none⟩ = some (.slice (some ⟨b, off, none⟩) L.length cap')) (first | exact ⟨c0, c6⟩ | exact ⟨(hC6.alloc _).cell rfl, (hC6.alloc _).cell rfl⟩ | exact ⟨(hC.alloc _).cell rfl, (hC.alloc _).cell rfl⟩ | exact ⟨(hC6.alloc _).drew.cell rfl, (hC6.alloc _).drew.cell rfl⟩ | exact ⟨(hC.alloc _).drew.cell rfl, (hC.alloc _).drew.cell rfl⟩ | exact ⟨((hC6.grown (grown_setCell _ _ 0 (.int .i64 e)) (by omega)).grown (grown_setCell _ _ 1 _) (by omega)).cell rfl, ((hC6.grown (grown_setCell _ _ 0 (.int .i64 e)) (by omega)).grown (grown_setCell _ _ 1 _) (by omega)).cell rfl⟩ | go_keep) (first | (go_simp; go_at_call 32; refine (clone_any (by exact hv.drew) (by omega) (by omega)).mono ?_; rintro en w6 ⟨g6, cap6, rfl, hown6', b6⟩; have hsz5 : w.heap.size + 3 ≤ (w3.drew).heap.size := (by first | exact hWs | (simp; omega)); have hown6 := own_base' hown6' hsz5; have hsz6 := Nat.le_trans hsz5 b6.size; have hD6 := (hD.drew).below b6; have hC6 := (hC.drew).below b6; have hb6 : Below w.heap.size w w6 := below_step (by exact hb.drew) b6; have c0 : w6.cell? ⟨w.heap.size, 0, none⟩ = some (.int .i64 e) := hC6.cell rfl; have c6 : w6.cell? ⟨w.heap.size, 1, none⟩ = some (.slice (some ⟨b, off, none⟩) L.length cap') := hC6.cell rfl) | (go_simp; go_at_call 32; refine (clone_any (by exact (hv.alloc (.cells #[.int .i64 0, .slice none 0 0] 35)).drew) (by omega) (by omega)).mono ?_; rintro en w6 ⟨g6, cap6, rfl, hown6', b6⟩; have hsz5 : w.heap.size + 3 ≤ ((w3.alloc (.cells #[.int .i64 0, .slice none 0 0] 35)).drew).heap.size := (by first | exact hWs | (simp; omega)); have hown6 := own_base' hown6' hsz5; have hsz6 := Nat.le_trans hsz5 b6.size; have hD6 := ((hD.alloc (.cells #[.int .i64 0, .slice none 0 0] 35)).drew).below b6; have hC6 := ((hC.alloc (.cells #[.int .i64 0, .slice none 0 0] 35)).drew).below b6; have hb6 : Below w.heap.size w w6 := below_step (by exact (hb.alloc hb.size (.cells #[.int .i64 0, .slice none 0 0] 35)).drew) b6; have c0 : w6.cell? ⟨w.heap.size, 0, none⟩ = some (.int .i64 e) := hC6.cell rfl; have c6 : w6.cell? ⟨w.heap.size, 1, none⟩ = some (.slice (some ⟨b, off, none⟩) L.length cap') := hC6.cell rfl; have hX6 : BlkAt w6 w3.heap.size 35 [.int .i64 0, .slice none 0 0] := BlkAt.below (w := (w3.alloc (.cells #[.int .i64 0, .slice none 0 0] 35)).drew) (BlkAt.new w3 35 [.int .i64 0, .slice none 0 0]) b6; have x0 : w6.cell? ⟨w3.heap.size, 0, none⟩ = some (.int .i64 0) := hX6.cell rfl; have x1 : w6.cell? ⟨w3.heap.size, 1, none⟩ = some (.slice none 0 0) := hX6.cell rfl; have xf := hX6.free))
          · have hgl := hown6.lt g6 rfl
            have Q : ∃ g cg X : Nat, (.pointer (some ⟨w6.heap.size, 0, none⟩) : Value) = .pointer (some ⟨X, 0, none⟩) ∧ BlkAt (w6.alloc (.cells #[.int .i64 e, .slice (some ⟨g6, 0, none⟩) L.length cap6] 35)) X 35 [.int .i64 e, .slice (some ⟨g, 0, none⟩) L.length cg] ∧ BlkAt (w6.alloc (.cells #[.int .i64 e, .slice (some ⟨g6, 0, none⟩) L.length cap6] 35)) D 35 [.int .i64 0, .slice none 0 0] ∧ (w6.alloc (.cells #[.int .i64 e, .slice (some ⟨g6, 0, none⟩) L.length cap6] 35)).ownsRow (w.heap.size + 3) 49 3 (.slice (some ⟨g, 0, none⟩) L.length cg) L.length (seatsCells L) ∧ Below w.heap.size w (w6.alloc (.cells #[.int .i64 e, .slice (some ⟨g6, 0, none⟩) L.length cap6] 35)) ∧ X ≠ g ∧ w.heap.size + 3 ≤ X :=
              ⟨g6, cap6, w6.heap.size, rfl, BlkAt.new w6 35 [.int .i64 e, .slice (some ⟨g6, 0, none⟩) L.length cap6], hD6.alloc _, hown6.alloc _, hb6.alloc hb6.size _, by omega, by omega⟩
            have Q := Lib.hid Q
            clear hgl
            go_wp2_with fail
            go_meet
            exact Q.out
          · have hgl := hown6'.lt g6 rfl
            have hXD : w3.heap.size ≠ D := by omega
            have Q : ∃ g cg X : Nat, (.pointer (some ⟨w3.heap.size, 0, none⟩) : Value) = .pointer (some ⟨X, 0, none⟩) ∧ BlkAt ((w6.setCell ⟨w3.heap.size, 0, none⟩ (.int .i64 e)).setCell ⟨w3.heap.size, 1, none⟩ (.slice (some ⟨g6, 0, none⟩) L.length cap6)) X 35 [.int .i64 e, .slice (some ⟨g, 0, none⟩) L.length cg] ∧ BlkAt ((w6.setCell ⟨w3.heap.size, 0, none⟩ (.int .i64 e)).setCell ⟨w3.heap.size, 1, none⟩ (.slice (some ⟨g6, 0, none⟩) L.length cap6)) D 35 [.int .i64 0, .slice none 0 0] ∧ ((w6.setCell ⟨w3.heap.size, 0, none⟩ (.int .i64 e)).setCell ⟨w3.heap.size, 1, none⟩ (.slice (some ⟨g6, 0, none⟩) L.length cap6)).ownsRow (w.heap.size + 3) 49 3 (.slice (some ⟨g, 0, none⟩) L.length cg) L.length (seatsCells L) ∧ Below w.heap.size w ((w6.setCell ⟨w3.heap.size, 0, none⟩ (.int .i64 e)).setCell ⟨w3.heap.size, 1, none⟩ (.slice (some ⟨g6, 0, none⟩) L.length cap6)) ∧ X ≠ g ∧ w.heap.size + 3 ≤ X :=
              ⟨g6, cap6, w3.heap.size, rfl, (hX6.set 0 (.int .i64 e)).set 1 (.slice (some ⟨g6, 0, none⟩) L.length cap6), (hD6.grown (grown_setCell w6 w3.heap.size 0 (.int .i64 e)) hXD.symm).grown (grown_setCell _ w3.heap.size 1 (.slice (some ⟨g6, 0, none⟩) L.length cap6)) hXD.symm, own_base' (own_set (D := w3.heap.size) (own_set (D := w3.heap.size) hown6' (by simp)) (by simp)) hsz5, grown_below (grown_below hb6 (grown_setCell w6 w3.heap.size 0 (.int .i64 e)) (by omega)) (grown_setCell _ w3.heap.size 1 (.slice (some ⟨g6, 0, none⟩) L.length cap6)) (by omega), by simp at hgl; omega, hmt⟩
            have Q := Lib.hid Q
            clear hgl hXD
            go_wp2_with fail
            go_meet
            exact Q.out
        case rest =>
          obtain ⟨g6, cap6, X, rfl, hX7, hD7, hown7, hb7, hXg, hXw⟩ := hcut
          clear s2 c1
          have x1 : wc.cell? ⟨X, 1, none⟩ = some (.slice (some ⟨g6, 0, none⟩) L.length cap6) := hX7.cell rfl
          have gf := hown7.frozenAt (k * 3 + 2)
          have gc : wc.cell? ⟨g6, k * 3 + 2, none⟩ = some (.bool s.sync) := (hown7.cellAt (k * 3 + 2) (by omega)).trans (seatsCells_at L k s HS.out).2.2
          have hgb := hown7.lt g6 rfl
          go_upto_region 10 with (fail)
          have hown8 := own_store (u := .bool true) hown7 (j := k * 3 + 2) (by omega)
          have hset := seatsCells_set L k s ⟨n, l, true⟩ HS.out HNL.out.1.symm HNL.out.2.symm
          simp only at hset
          rw [hset] at hown8
          have hX8 := hX7.grown (grown_setCell wc g6 (k * 3 + 2) (.bool true)) hXg
          have hD8 := hD7.grown (grown_setCell wc g6 (k * 3 + 2) (.bool true)) (by omega)
          have hb := grown_below hb7 (grown_setCell wc g6 (k * 3 + 2) (.bool true)) (by omega)
          clear x1 gf gc hown7 hX7 hD7 hb7 hset
          change Code.wp _ _ _ _ (wc.setCell ⟨g6, k * 3 + 2, none⟩ (.bool true))
          generalize wc.setCell ⟨g6, k * 3 + 2, none⟩ (.bool true) = w8 at *
          have hD := hD8
          have y0 : w8.cell? ⟨X, 0, none⟩ = some (.int .i64 e) := hX8.cell rfl
          have y1 : w8.cell? ⟨X, 1, none⟩ = some (.slice (some ⟨g6, 0, none⟩) L.length cap6) := hX8.cell rfl
          have d0 : w8.cell? ⟨D, 0, none⟩ = some (.int .i64 0) := hD.cell rfl
          have d1 : w8.cell? ⟨D, 1, none⟩ = some (.slice none 0 0) := hD.cell rfl
          have hf := hD.free
          have hoE := own_set (D := D) (i := 1) (u := .slice (some ⟨g6, 0, none⟩) L.length cap6) (own_set (D := D) (i := 0) (u := .int .i64 e) hown8 (by omega)) (by omega)
          go_wp2_with fail
          obtain ⟨hE, hbE⟩ := fin2 (p := .int .i64 e) (q := .slice (some ⟨g6, 0, none⟩) L.length cap6) hD hb hDn
          change bodyPost _ _ _ _ _ ((w8.setCell ⟨D, 0, none⟩ (.int .i64 e)).setCell ⟨D, 1, none⟩ (.slice (some ⟨g6, 0, none⟩) L.length cap6))
          generalize (w8.setCell ⟨D, 0, none⟩ (.int .i64 e)).setCell ⟨D, 1, none⟩ (.slice (some ⟨g6, 0, none⟩) L.length cap6) = W9 at *
          clear d0 d1
          have d0 := hE.cell (i := 0) rfl
          have d1 := hE.cell (i := 1) rfl
          exact bodyPost_ret (v := .tuple #[.agg #[.int .i64 e, .slice (some ⟨g6, 0, none⟩) L.length cap6], .int .i64 0]) (by simp [results, Tryz.results38, go_sem, d0, d1] <;> rfl) rfl ⟨_, by rw [HE.out], by rw [HE.out]; exact chainS_of_own (by rw [List.length_set]; exact hoE) (seatsOk_set hLok ⟨hn, hl⟩), hbE⟩
theorem csynced_any {w : World} {v : Value} {L : List SeatV} (hv : ChainAt w v L) (e n l : Int) (hn : W64 n) (hl : W64 l) :
    Calls Tryz.prog 38 #[.agg #[.int .i64 e, v], .agg #[.int .i64 n, .int .i64 l]] w fun en w' => ConfRes w w' en (syncedC ⟨e, L⟩ n l).1 (.int .i64 (syncedC ⟨e, L⟩ n l).2) := (csynced_s hv e n l hn hl).mono fun _ _ r => r.res
end Go.Proofs.YtomfmejodmfioaaGreat
namespace Go.Proofs.YtomfmejodmfioaaGreat
open Go.RowKit Go.ChangeShapes Go.WideShapes Go.Joins
set_option linter.unusedVariables false

/-- Is a member among those that go? -/
def goneB (G : List (Int × Int)) (x y : Int) : Bool := G.contains (x, y)
theorem goneB_snoc {G : List (Int × Int)} {m : Nat} {g : Int × Int} (h : G[m]? = some g) (x y : Int) : goneB (G.take (m + 1)) x y = (goneB (G.take m) x y || (g.1 == x && g.2 == y)) := by
  have hm := (List.getElem?_eq_some_iff.1 h).1
  have e : G.take (m + 1) = G.take m ++ [g] := by rw [List.take_add_one, h]; rfl
  rw [goneB, goneB, e, List.contains_append]
  congr 1
  rw [Bool.eq_iff_iff]
  obtain ⟨a, b⟩ := g
  simp
  exact ⟨fun ⟨h, h'⟩ => ⟨h.symm, h'.symm⟩, fun ⟨h, h'⟩ => ⟨h.symm, h'.symm⟩⟩
theorem cell_set_ne {w : World} {b o X i : Nat} {u v : Value} (h : w.cell? ⟨b, o, none⟩ = some v) (hne : b ≠ X) : (w.setCell ⟨X, i, none⟩ u).cell? ⟨b, o, none⟩ = some v :=
  (World.cell?_setCell_other w ⟨X, i, none⟩ ⟨b, o, none⟩ u (fun e => hne (by injection e with h1; exact h1.symm))).trans h
theorem cell_alloc_old {w : World} {b o : Nat} {v : Value} (h : w.cell? ⟨b, o, none⟩ = some v) (ob : Obj) : (w.alloc ob).cell? ⟨b, o, none⟩ = some v :=
  (World.cell?_alloc_lt w ob ⟨b, o, none⟩ (World.block_lt_of_cell? _ _ h)).trans h

end Go.Proofs.YtomfmejodmfioaaGreat
namespace Go.Proofs.YtomfmejodmfioaaGreat
open Go.RowKit Go.ChangeShapes Go.WideShapes Go.Joins
set_option linter.unusedVariables false
theorem any_false {p : SeatV → Bool} {L : List SeatV} (h : ∀ j t, j < L.length → L[j]? = some t → p t = false) : L.any p = false := by
  rw [List.any_eq_false]
  intro t ht
  obtain ⟨j, hj⟩ := List.getElem?_of_mem ht
  simp [h j t (List.getElem?_eq_some_iff.1 hj).1 hj]
theorem any_true {p : SeatV → Bool} {L : List SeatV} {k : Nat} {t : SeatV} (h : L[k]? = some t) (hp : p t = true) : L.any p = true :=
  List.any_eq_true.2 ⟨t, List.mem_of_getElem? h, hp⟩
theorem own_drewN {w : World} {base : Nat} {e : TypeId} {size : Nat} {v : Value} {n : Nat} {xs : List Value} (h : w.ownsRow base e size v n xs) (m : Nat) : (w.drewN m).ownsRow base e size v n xs := h
theorem take_snoc_len {L : List SeatV} {k : Nat} (h : k ≤ L.length) : (L.take k).length = k := by rw [List.length_take]; omega

end Go.Proofs.YtomfmejodmfioaaGreat
