/- The contracts of the document's book of leases (a slice of rows): what each call computes and what it leaves of memory. -/
import Derived.Test.YtmnlcmnipkjelaaLease
import Derived.Deep.RegionHeld3
import Derived.Deep.RegionLaw
import Derived.Deep.AppendLies
import Derived.Maps.AppendAt
import Derived.Laws.StructEq
import Derived.Deep.LoopGhost
import Derived.Outline
namespace Go.Proofs.Ytmnlcmnipkjelaa
open Go.RowKit Go.Maps Go.ChangeShapes Go.WideShapes Go.Joins
set_option linter.unusedVariables false

abbrev LRow := Int × Int × Int
def rUntil : List LRow → Int → Int → Int
  | [], _, _ => 0
  | r :: l, x, y => if r.1 = x ∧ r.2.1 = y then r.2.2 else rUntil l x y
def rCells (l : List LRow) : List Value := l.flatMap fun r => [.int .i64 r.1, .int .i64 r.2.1, .int .i64 r.2.2]

theorem rCells_len (l : List LRow) : (rCells l).length = l.length * 3 := by
  induction l with
  | nil => rfl
  | cons r l ih => simp [rCells] at ih ⊢; omega
theorem rCells_at (l : List LRow) (k : Nat) (r : LRow) (h : l[k]? = some r) : (rCells l)[k * 3]? = some (.int .i64 r.1) ∧ (rCells l)[k * 3 + 1]? = some (.int .i64 r.2.1) ∧ (rCells l)[k * 3 + 2]? = some (.int .i64 r.2.2) := by
  induction l generalizing k with
  | nil => simp at h
  | cons q l ih =>
    cases k with
    | zero => simp at h; subst h; simp [rCells]
    | succ k =>
      simp at h
      have := ih k h
      have e : (k + 1) * 3 = k * 3 + 3 := by omega
      simp only [rCells, List.flatMap_cons, e] at this ⊢
      simpa [List.getElem?_cons_succ] using this

/-- Block c is the document's book: its rows are 'rows', in memory from block 'base' on. -/
structure RBookAt (w : World) (base c : Nat) (rows : List LRow) (held : Int) : Prop where
  ex : ∃ v, w.heap[c]? = some (.cells #[v, .int .i64 held] 39 (0, 0)) ∧ w.ownsRow base 49 3 v rows.length (rCells rows)

theorem owns_slice {w : World} {base : Nat} {e : TypeId} {size : Nat} {v : Value} {n : Nat} {xs : List Value} (h : w.ownsRow base e size v n xs) : ∃ A cap, v = .slice A n cap ∧ n ≤ cap ∧ cap ≤ maxLen ∧ (0 < n → ∃ g, A = some ⟨g, 0, none⟩ ∧ base ≤ g ∧ g < w.heap.size ∧ ∀ j, j < n * size → w.cell? ⟨g, j, none⟩ = xs[j]?) := by
  obtain ⟨h1, h2⟩ := h
  rcases h2 with ⟨rfl, rfl⟩ | ⟨g, cap, cur, rfl, hb, hg, hn, hc, hs, ht⟩
  · exact ⟨none, 0, rfl, Nat.le_refl _, Nat.zero_le _, by omega⟩
  · refine ⟨_, cap, rfl, hn, hc, fun _ => ⟨g, rfl, hb, (Array.getElem?_eq_some_iff.1 hg).1, fun j hj => ?_⟩⟩
    have := World.ownsRow.cellAt (w := w) (base := base) (e := e) (size := size) (g := g) (cap := cap) (n := n) (xs := xs) ⟨h1, .inr ⟨g, cap, cur, rfl, hb, hg, hn, hc, hs, ht⟩⟩ j hj
    exact this

theorem eq_mem (a b c d : Int) (w : World) : (Op.equalIn 10000 23 (.agg #[.int .i64 a, .int .i64 b]) (.agg #[.int .i64 c, .int .i64 d])).run Try.prog w = .ok (a == c && b == d) w := by
  have u3 := Try.underlying3
  have a3 := Try.isAgg3
  have z3 := Try.sizeOf3
  have hS : Try.prog.underlying 23 = some (.struct (Try.prog.fieldsOf 23)) := by kernel_rfl
  rw [show (10000 : Nat) = 9999 + 1 from rfl, run_equalIn_agg w 9999 23 _ _ hS (by kernel_rfl)]
  simp only [Program.fieldsOf, Try.underlying23]
  go_simp
  by_cases h1 : a = c <;> by_cases h2 : b = d <;> simp [h1, h2]

theorem rUntil_drop (rows : List LRow) (k : Nat) (r : LRow) (h : rows[k]? = some r) (x y : Int) : rUntil (rows.drop k) x y = if r.1 = x ∧ r.2.1 = y then r.2.2 else rUntil (rows.drop (k + 1)) x y := by
  obtain ⟨hk, e⟩ := List.getElem?_eq_some_iff.1 h
  rw [List.drop_eq_getElem_cons hk, e]
  rfl

set_option maxHeartbeats 1000000 in
theorem runtil_any {w : World} {base c : Nat} {rows : List LRow} {held x y : Int} (hR : RBookAt w base c rows held) :
    Calls Try.prog 19 #[.pointer (some ⟨c, 0, none⟩), .agg #[.int .i64 x, .int .i64 y]] w fun e w' => e = .returned (.int .i64 (rUntil rows x y)) ∧ Below w.heap.size w w' := by
  obtain ⟨v, hblk, hown⟩ := hR.ex
  obtain ⟨A, cap, rfl, hnc, hcap, hform⟩ := owns_slice hown
  have hclt : c < w.heap.size := (Array.getElem?_eq_some_iff.1 hblk).1
  have hc0 : w.cell? ⟨c, 0, none⟩ = some (.slice A rows.length cap) := by simp [World.cell?, hblk]
  have hm : rows.length ≤ 9223372036854775807 := by unfold maxLen at hcap; omega
  have heq := eq_mem
  have q0 : (w.alloc (.cells #[.int .i64 x, .int .i64 y] 23)).cell? ⟨w.heap.size, 0, none⟩ = some (.int .i64 x) := by simp
  have q1 : (w.alloc (.cells #[.int .i64 x, .int .i64 y] 23)).cell? ⟨w.heap.size, 1, none⟩ = some (.int .i64 y) := by simp
  have q2 : (w.alloc (.cells #[.int .i64 x, .int .i64 y] 23)).cell? ⟨c, 0, none⟩ = some (.slice A rows.length cap) := by rw [World.cell?_alloc_lt _ _ _ hclt]; exact hc0
  have q3 : ∀ k r, rows[k]? = some r → ∃ g, A = some ⟨g, 0, none⟩ ∧ (w.alloc (.cells #[.int .i64 x, .int .i64 y] 23)).cell? ⟨g, k * 3, none⟩ = some (.int .i64 r.1) ∧
      (w.alloc (.cells #[.int .i64 x, .int .i64 y] 23)).cell? ⟨g, k * 3 + 1, none⟩ = some (.int .i64 r.2.1) ∧ (w.alloc (.cells #[.int .i64 x, .int .i64 y] 23)).cell? ⟨g, k * 3 + 2, none⟩ = some (.int .i64 r.2.2) := by
    intro k r hr
    have hk := (List.getElem?_eq_some_iff.1 hr).1
    obtain ⟨g, hA, _, hg, hcell⟩ := hform (by omega)
    obtain ⟨t0, t1, t2⟩ := rCells_at rows k r hr
    exact ⟨g, hA, by rw [World.cell?_alloc_lt _ _ _ hg, hcell _ (by omega), t0], by rw [World.cell?_alloc_lt _ _ _ hg, hcell _ (by omega), t1], by rw [World.cell?_alloc_lt _ _ _ hg, hcell _ (by omega), t2]⟩
  have hb : Below w.heap.size w (w.alloc (.cells #[.int .i64 x, .int .i64 y] 23)) := (Below.refl _ _).alloc (Nat.le_refl _) _
  have Q3 := Lib.hid q3
  clear q3 hR hblk hown hform hc0
  go_enter Try.func19, Try.ntmps19
  go_wp2_with fail
  generalize w.alloc (.cells #[.int .i64 x, .int .i64 y] 23) = W at *
  go_loopw [5] (fun i wr => ∃ k q : Nat, k ≤ rows.length ∧ i = .int .i64 k ∧ rUntil (rows.drop k) x y = rUntil rows x y ∧ wr = W.drewN q) (fun i _ => rows.length - (intOf i).toNat)
  case atStart => exact ⟨0, 0, Nat.zero_le _, rfl, rfl, rfl⟩
  case round =>
    obtain ⟨k, q, hk, rfl, hu, rfl⟩ := hrel
    have HU := Lib.hid hu
    clear hu
    by_cases hlt : k < rows.length
    · obtain ⟨r, hr⟩ : ∃ r, rows[k]? = some r := ⟨_, List.getElem?_eq_getElem hlt⟩
      obtain ⟨g, rfl, t0, t1, t2⟩ := Q3.out k r hr
      have HD := Lib.hid (rUntil_drop rows k r hr x y)
      clear hr
      by_cases h : r.1 = x ∧ r.2.1 = y
      · have HE := Lib.hid (show rUntil rows x y = r.2.2 by rw [← HU.out, HD.out, if_pos h])
        obtain ⟨h1, h2⟩ := h
        have h1 : (r.1 == x) = true := by simp [h1]
        have h2 : (r.2.1 == y) = true := by simp [h2]
        go_wp2_with fail
        go_quiet (fail)
        go_wp2_with fail
        go_ret
        exact ⟨by rw [HE.out]; rfl, below_drewN hb _⟩
      · have HE := Lib.hid (show rUntil (rows.drop (k + 1)) x y = rUntil rows x y by rw [← HU.out, HD.out, if_neg h])
        have h : (r.1 == x && r.2.1 == y) = false := by simpa using h
        go_wp2_with fail
        go_quiet (fail)
        go_wp2_with fail
        go_roundw
        case rel => exact ⟨k + 1, _, by omega, by go_num, HE.out, rfl⟩
        case measure => simp [intOf]; omega
    · have HK := Lib.hid (show rUntil rows x y = 0 by rw [← HU.out, List.drop_eq_nil_of_le (by omega)]; rfl)
      go_wp2_with fail
      go_ret
      exact ⟨by rw [HK.out]; rfl, below_drewN hb _⟩
theorem owns_drewN {w : World} {base : Nat} {e : TypeId} {size : Nat} {v : Value} {n : Nat} {xs : List Value} (h : w.ownsRow base e size v n xs) (k : Nat) : (w.drewN k).ownsRow base e size v n xs := h
theorem owns_base {w : World} {base base' : Nat} {e : TypeId} {size : Nat} {v : Value} {n : Nat} {xs : List Value} (h : w.ownsRow base e size v n xs) (hb : base' ≤ base) : w.ownsRow base' e size v n xs := by
  refine ⟨h.1, ?_⟩
  rcases h.2 with h0 | ⟨g, cap, cur, hv, hg, r⟩
  · exact .inl h0
  · exact .inr ⟨g, cap, cur, hv, Nat.le_trans hb hg, r⟩
theorem owns_setCell {w : World} {base : Nat} {e : TypeId} {size : Nat} {v : Value} {n : Nat} {xs : List Value} (h : w.ownsRow base e size v n xs) (p : Addr) (u : Value) (hne : v.ownBlock = none ∨ v.ownBlock ≠ some p.block) : (w.setCell p u).ownsRow base e size v n xs := by
  refine h.kept (row := some p.block) ?_ hne
  exact ⟨rfl, rfl, rfl, by simp [World.setCell], fun k _ hk => Below.heap_setCell _ _ _ _ (fun e => hk (by rw [e]))⟩

theorem row_info : (Try.prog.info? 49).map (fun i => (i.zero, i.size, i.bytes)) = some (some (.agg #[.int .i64 0, .int .i64 0, .int .i64 0]), 3, 24) := by kernel_rfl

/-- All rows but one member's. -/
def rDrop (l : List LRow) (x y : Int) : List LRow := l.filter fun r => !(r.1 == x && r.2.1 == y)
theorem rDrop_snoc (l : List LRow) (r : LRow) (x y : Int) : rDrop (l ++ [r]) x y = if r.1 = x ∧ r.2.1 = y then rDrop l x y else rDrop l x y ++ [r] := by
  unfold rDrop
  rw [List.filter_append]
  by_cases h : r.1 = x ∧ r.2.1 = y
  · simp [h]
  · simp [h, List.filter_cons]
theorem rDrop_len (l : List LRow) (x y : Int) : (rDrop l x y).length ≤ l.length := List.length_filter_le _ _
theorem rCells_snoc (l : List LRow) (r : LRow) : rCells (l ++ [r]) = rCells l ++ [.int .i64 r.1, .int .i64 r.2.1, .int .i64 r.2.2] := by simp [rCells]

theorem rforget_end {w wr : World} {base base' c : Nat} {v0 v : Value} {held : Int} {rows : List LRow} (hB : wr.heap[c]? = some (.cells #[v0, .int .i64 held] 39 (0, 0))) (hown : wr.ownsRow base' 49 3 v rows.length (rCells rows))
    (hb : base ≤ base') (hc : c < base') (hbw : Below w.heap.size w wr) : RBookAt (wr.setCell ⟨c, 0, none⟩ v) base c rows held ∧ w.grownBy (wr.setCell ⟨c, 0, none⟩ v) (some c) := by
  refine ⟨⟨v, ?_, owns_base (owns_setCell hown ⟨c, 0, none⟩ v ?_) hb⟩, ?_⟩
  · simp [World.setCell, Array.getElem?_modify, hB]
  · right
    intro e
    have := (hown.lt c e).1
    omega
  · have hs := grown_setCell wr c 0 v
    exact ⟨hs.os.trans hbw.os, hs.tape.trans hbw.tape, hs.output.trans hbw.output, Nat.le_trans hbw.size hs.size, fun k hk hne => (hs.block k (Nat.lt_of_lt_of_le hk hbw.size) hne).trans (hbw.block k hk)⟩

set_option maxHeartbeats 1000000 in
theorem rforget_any {w : World} {base c : Nat} {rows : List LRow} {held x y : Int} (hR : RBookAt w base c rows held) (hlen : rows.length ≤ 1000000) :
    Calls Try.prog 18 #[.pointer (some ⟨c, 0, none⟩), .agg #[.int .i64 x, .int .i64 y]] w fun e w' => e = .returned (.tuple #[]) ∧ RBookAt w' w.heap.size c (rDrop rows x y) held ∧ w.grownBy w' (some c) := by
  obtain ⟨v, hblk, hown⟩ := hR.ex
  obtain ⟨A, cap, rfl, hnc, hcap, hform⟩ := owns_slice hown
  obtain ⟨i0, hi0, hz0, hz1, hz2⟩ := info_parts row_info
  have hclt : c < w.heap.size := (Array.getElem?_eq_some_iff.1 hblk).1
  have heq := eq_mem
  have hBW : Below w.heap.size w (w.alloc (.cells #[.int .i64 x, .int .i64 y] 23)) := (Below.refl _ _).alloc (Nat.le_refl _) _
  have hBlk : (w.alloc (.cells #[.int .i64 x, .int .i64 y] 23)).heap[c]? = some (.cells #[.slice A rows.length cap, .int .i64 held] 39 (0, 0)) := (hBW.block c hclt).trans hblk
  have q0 : (w.alloc (.cells #[.int .i64 x, .int .i64 y] 23)).cell? ⟨w.heap.size, 0, none⟩ = some (.int .i64 x) := by simp
  have q1 : (w.alloc (.cells #[.int .i64 x, .int .i64 y] 23)).cell? ⟨w.heap.size, 1, none⟩ = some (.int .i64 y) := by simp
  have q3 : ∀ k r, rows[k]? = some r → ∃ g, A = some ⟨g, 0, none⟩ ∧ g < w.heap.size ∧ (w.alloc (.cells #[.int .i64 x, .int .i64 y] 23)).cell? ⟨g, k * 3, none⟩ = some (.int .i64 r.1) ∧
      (w.alloc (.cells #[.int .i64 x, .int .i64 y] 23)).cell? ⟨g, k * 3 + 1, none⟩ = some (.int .i64 r.2.1) ∧ (w.alloc (.cells #[.int .i64 x, .int .i64 y] 23)).cell? ⟨g, k * 3 + 2, none⟩ = some (.int .i64 r.2.2) := by
    intro k r hr
    have hk := (List.getElem?_eq_some_iff.1 hr).1
    obtain ⟨g, hA, _, hg, hcell⟩ := hform (by omega)
    obtain ⟨t0, t1, t2⟩ := rCells_at rows k r hr
    exact ⟨g, hA, hg, by rw [World.cell?_alloc_lt _ _ _ hg, hcell _ (by omega), t0], by rw [World.cell?_alloc_lt _ _ _ hg, hcell _ (by omega), t1], by rw [World.cell?_alloc_lt _ _ _ hg, hcell _ (by omega), t2]⟩
  have hsz : (w.alloc (.cells #[.int .i64 x, .int .i64 y] 23)).heap.size = w.heap.size + 1 := by simp
  have Q3 := Lib.hid q3
  have HSZ := Lib.hid hsz
  clear q3 hR hown hform hsz hblk
  go_enter Try.func18, Try.ntmps18
  go_wp2_with fail
  generalize w.alloc (.cells #[.int .i64 x, .int .i64 y] 23) = W at *
  go_loopw [4, 5] (fun v i wr => ∃ k : Nat, k ≤ rows.length ∧ i = .int .i64 k ∧ wr.ownsRow (w.heap.size + 1) 49 3 v (rDrop (rows.take k) x y).length (rCells (rDrop (rows.take k) x y)) ∧ Below W.heap.size W wr) (fun _ i _ => rows.length - (intOf i).toNat)
  case atStart => exact ⟨0, Nat.zero_le _, rfl, World.ownsRow_nil _ _ _ _, Below.refl _ _⟩
  case round =>
    obtain ⟨k, hk, rfl, hown, hb⟩ := hrel
    have hcW : c < W.heap.size := by rw [HSZ.out]; omega
    have hNW : w.heap.size < W.heap.size := by rw [HSZ.out]; omega
    have hc0 : wr.cell? ⟨c, 0, none⟩ = some (.slice A rows.length cap) := by rw [hb.cell hcW]; simp [World.cell?, hBlk]
    have e0 := (hb.cell (p := ⟨w.heap.size, 0, none⟩) hNW).trans q0
    have e1 := (hb.cell (p := ⟨w.heap.size, 1, none⟩) hNW).trans q1
    by_cases hlt : k < rows.length
    · obtain ⟨r, hr⟩ : ∃ r, rows[k]? = some r := ⟨_, List.getElem?_eq_getElem hlt⟩
      obtain ⟨g, rfl, hg, t0, t1, t2⟩ := Q3.out k r hr
      have HS := Lib.hid (show rDrop (rows.take (k + 1)) x y = if r.1 = x ∧ r.2.1 = y then rDrop (rows.take k) x y else rDrop (rows.take k) x y ++ [r] by rw [List.take_succ_eq_append_getElem hlt, (List.getElem?_eq_some_iff.1 hr).2, rDrop_snoc])
      have hgW : g < W.heap.size := by omega
      have t0 := (hb.cell (p := ⟨g, k * 3, none⟩) hgW).trans t0
      have t1 := (hb.cell (p := ⟨g, k * 3 + 1, none⟩) hgW).trans t1
      have t2 := (hb.cell (p := ⟨g, k * 3 + 2, none⟩) hgW).trans t2
      have hdl : (rDrop (rows.take k) x y).length ≤ 1000000 := Nat.le_trans (rDrop_len _ _ _) (by rw [List.length_take]; omega)
      clear hr q0 q1 hBlk
      by_cases h : r.1 = x ∧ r.2.1 = y
      · obtain ⟨h1, h2⟩ := h
        have HE := Lib.hid (show rDrop (rows.take (k + 1)) x y = rDrop (rows.take k) x y by rw [HS.out, if_pos ⟨h1, h2⟩])
        have h1 : (r.1 == x) = true := by simp [h1]
        have h2 : (r.2.1 == y) = true := by simp [h2]
        go_wp2_with fail
        go_quiet (fail)
        go_wp2_with fail
        go_roundw
        case rel => exact ⟨k + 1, by omega, by go_num, by rw [HE.out]; exact owns_drewN hown _, below_drewN hb _⟩
        case measure => simp [intOf]; omega
      · have HE := Lib.hid (show rDrop (rows.take (k + 1)) x y = rDrop (rows.take k) x y ++ [r] by rw [HS.out, if_neg h])
        have h : (r.1 == x && r.2.1 == y) = false := by simpa using h
        go_wp2_with fail
        go_quiet (fail)
        go_wp2_with (at_builtin; refine wpList_append_lies _ rfl (.tmp 25) (.tmp 33) 37 rfl (w.heap.size + 1) 49 i0 _ 3 24 Try.underlying37 hi0 hz0 hz1 hz2 rfl (by omega) _ _ _ rfl ((owns_drewN hown _).alloc _) ⟨wr.heap.size, 0, none⟩ 1 1 [.int .i64 r.1, .int .i64 r.2.1, .int .i64 r.2.2] rfl rfl ?c1 ?c2 (by omega) ?c3 ?c4 ?c5 (wr.heap.size + 1) ?c6 ?_)
        case c1 => exact World.news_of_block (heap_alloc_new _ _)
        case c2 => intro u hu; simp at hu; rcases hu with rfl | rfl | rfl <;> rfl
        case c3 => unfold maxLen; omega
        case c4 => omega
        case c5 => have := hb.size; simp; omega
        case c6 => simp
        intro g' cap' w' hown' hg' hat' hlt'
        have hb2 : Below W.heap.size W w' := ((below_drewN hb _).alloc hb.size _).grown hg' (by have := hb.size; simp; omega) (fun k hk => by have := (hown.lt k hk).1; rw [HSZ.out]; omega)
        clear hg' hat' hb hown hc0 e0 e1 t0 t1 t2
        go_wp2_with fail
        go_roundw
        case rel => exact ⟨k + 1, by omega, by go_num, by rw [HE.out, rCells_snoc, List.length_append]; exact hown', hb2⟩
        case measure => simp [intOf]; omega
    · have HK := Lib.hid (show rows.take k = rows from List.take_of_length_le (by omega))
      obtain ⟨A', cap', rfl, hnc', hcap', hform'⟩ := owns_slice hown
      have hBlk' : wr.heap[c]? = some (.cells #[.slice A rows.length cap, .int .i64 held] 39 (0, 0)) := (hb.block c hcW).trans hBlk
      have hf0 : wr.frozen? ⟨c, 0, none⟩ = false := by simp [World.frozen?, hBlk']
      have HB := Lib.hid hBlk'
      clear hBlk hBlk' q0 q1 e0 e1 hform'
      go_wp2_with fail
      go_end0
      have hbw : Below w.heap.size w wr := hBW.trans (hb.mono hBW.size)
      have := rforget_end (base := w.heap.size) (base' := w.heap.size + 1) HB.out hown (by omega) (by omega) hbw
      rw [HK.out] at this
      rw [HK.out]
      exact ⟨rfl, this.1, this.2⟩
set_option maxHeartbeats 1000000 in
theorem rfree_any {w : World} {base c : Nat} {rows : List LRow} {held x y now : Int} (hR : RBookAt w base c rows held) :
    Calls Try.prog 20 #[.pointer (some ⟨c, 0, none⟩), .agg #[.int .i64 x, .int .i64 y], .int .i64 now] w fun e w' => e = .returned (.bool (decide (max (rUntil rows x y) held ≤ now))) ∧ Below w.heap.size w w' := by
  obtain ⟨v, hblk, hown⟩ := hR.ex
  have hclt : c < w.heap.size := (Array.getElem?_eq_some_iff.1 hblk).1
  have hR1 : ∀ O, RBookAt (w.alloc O) base c rows held := fun O => ⟨v, (Below.heap_alloc w O c hclt).trans hblk, hown.alloc O⟩
  have hb0 : Below w.heap.size w (w.alloc (.cells #[.int .i64 x, .int .i64 y] 23)) := (Below.refl _ _).alloc (Nat.le_refl _) _
  have hc1 : w.cell? ⟨c, 1, none⟩ = some (.int .i64 held) := by simp [World.cell?, hblk]
  clear hblk hown
  go_enter Try.func20, Try.ntmps20
  go_wp2_with fail
  refine (runtil_any (by exact hR1 _)).mono ?_
  rintro e w1 ⟨rfl, b1⟩
  have hb1 := hb0.trans (b1.mono hb0.size)
  have k1 := (hb1.cell (p := ⟨c, 1, none⟩) hclt).trans hc1
  clear b1 hb0 hR1 hc1
  by_cases g : rUntil rows x y ≤ now
  · by_cases h : held ≤ now
    · have e1 : decide (max (rUntil rows x y) held ≤ now) = true := decide_eq_true (by omega)
      have HE := Lib.hid e1
      clear e1
      go_wp2_with fail
      go_ret
      exact ⟨by rw [HE.out]; rfl, hb1⟩
    · have e1 : decide (max (rUntil rows x y) held ≤ now) = false := decide_eq_false (by omega)
      have HE := Lib.hid e1
      clear e1
      go_wp2_with fail
      go_ret
      exact ⟨by rw [HE.out]; simp; omega, hb1⟩
  · have e1 : decide (max (rUntil rows x y) held ≤ now) = false := decide_eq_false (by omega)
    have HE := Lib.hid e1
    clear e1
    go_wp2_with fail
    go_ret
    exact ⟨by rw [HE.out]; rfl, hb1⟩

set_option maxHeartbeats 1000000 in
theorem rgrant_no {w : World} {base c : Nat} {rows : List LRow} {held x y v : Int} (hR : RBookAt w base c rows held) (hv : v ≤ rUntil rows x y) :
    Calls Try.prog 15 #[.pointer (some ⟨c, 0, none⟩), .agg #[.int .i64 x, .int .i64 y], .int .i64 v] w fun e w' => e = .returned (.bool false) ∧ Below w.heap.size w w' := by
  obtain ⟨u, hblk, hown⟩ := hR.ex
  have hclt : c < w.heap.size := (Array.getElem?_eq_some_iff.1 hblk).1
  have hR1 : ∀ O, RBookAt (w.alloc O) base c rows held := fun O => ⟨u, (Below.heap_alloc w O c hclt).trans hblk, hown.alloc O⟩
  have hb0 : Below w.heap.size w (w.alloc (.cells #[.int .i64 x, .int .i64 y] 23)) := (Below.refl _ _).alloc (Nat.le_refl _) _
  clear hblk hown hR
  go_enter Try.func15, Try.ntmps15
  go_wp2_with fail
  refine (runtil_any (by exact hR1 _)).mono ?_
  rintro e w1 ⟨rfl, b1⟩
  have hb1 := hb0.trans (b1.mono hb0.size)
  clear b1 hb0 hR1
  go_wp2_with fail
  go_ret
  exact ⟨rfl, hb1⟩

theorem RBookAt.lt {w : World} {base c : Nat} {rows : List LRow} {held : Int} (h : RBookAt w base c rows held) : c < w.heap.size := by
  obtain ⟨v, h1, h2⟩ := h.ex
  exact (Array.getElem?_eq_some_iff.1 h1).1
theorem RBookAt.below {w w' : World} {base c : Nat} {rows : List LRow} {held : Int} (h : RBookAt w base c rows held) (hb : Below w.heap.size w w') : RBookAt w' base c rows held := by
  obtain ⟨v, h1, h2⟩ := h.ex
  refine ⟨v, (hb.block c h.lt).trans h1, h2.kept (row := none) ⟨hb.os, hb.tape, hb.output, hb.size, fun k hk _ => hb.block k hk⟩ ?_⟩
  cases hv : v.ownBlock with
  | none => exact .inl rfl
  | some g => exact .inr (by simp)
theorem RBookAt.drew {w : World} {base c : Nat} {rows : List LRow} {held : Int} (h : RBookAt w base c rows held) : RBookAt w.drew base c rows held := h.below ((Below.refl _ _).drew)

theorem owns_ne {w : World} {base c : Nat} {e t : TypeId} {size n : Nat} {v : Value} {xs : List Value} {cs : Array Value} {fr : Nat × Nat} (h : w.ownsRow base e size v n xs) (hb : w.heap[c]? = some (.cells cs t fr)) (hne : e ≠ t) : v.ownBlock ≠ some c := by
  intro hc
  rcases h.2 with ⟨rfl, _⟩ | ⟨g, cap, cur, rfl, _, hg, _⟩
  · cases hc
  · simp [Value.ownBlock] at hc
    subst hc
    rw [hb] at hg
    simp at hg
    exact hne hg.2.1.symm

theorem rgrant_end {w w' : World} {base c g cap n : Nat} {v0 : Value} {held : Int} {rows : List LRow} (hB : w'.heap[c]? = some (.cells #[v0, .int .i64 held] 39 (0, 0))) (hown : w'.ownsRow base 49 3 (.slice (some ⟨g, 0, none⟩) n cap) n (rCells rows))
    (hn : n = rows.length) (hbw : w.grownBy w' (some c)) : RBookAt (w'.setCell ⟨c, 0, none⟩ (.slice (some ⟨g, 0, none⟩) n cap)) base c rows held ∧ w.grownBy (w'.setCell ⟨c, 0, none⟩ (.slice (some ⟨g, 0, none⟩) n cap)) (some c) := by
  subst hn
  refine ⟨⟨_, ?_, owns_setCell hown ⟨c, 0, none⟩ _ (.inr (owns_ne hown hB (by decide)))⟩, hbw.trans (grown_setCell w' c 0 _)⟩
  simp [World.setCell, Array.getElem?_modify, hB]

theorem rgrant_fin {w w2 w' : World} {O : Obj} {base base' c g cap n : Nat} {v0 : Value} {held x y v : Int} {rows : List LRow} {xs : List Value} (hg : (w2.alloc O).drew.grownBy w' v0.ownBlock) (hown' : w'.ownsRow base' 49 3 (.slice (some ⟨g, 0, none⟩) ((rDrop rows x y).length + 1) cap) ((rDrop rows x y).length + 1) (rCells (rDrop rows x y) ++ [.int .i64 x, .int .i64 y, .int .i64 v]))
    (hown : w2.ownsRow base' 49 3 v0 n xs) (hG : w.grownBy w2 (some c)) (hB : w2.heap[c]? = some (.cells #[v0, .int .i64 held] 39 (0, 0))) (hne : some c ≠ v0.ownBlock) (hbase : base ≤ base') (hc : c < w2.heap.size) (hww : w.heap.size ≤ base') :
    RBookAt (w'.setCell ⟨c, 0, none⟩ (.slice (some ⟨g, 0, none⟩) ((rDrop rows x y).length + 1) cap)) base c (rDrop rows x y ++ [(x, y, v)]) held ∧ w.grownBy (w'.setCell ⟨c, 0, none⟩ (.slice (some ⟨g, 0, none⟩) ((rDrop rows x y).length + 1) cap)) (some c) := by
  have hgw : w.grownBy w' (some c) := by
    refine ⟨hg.os.trans hG.os, hg.tape.trans hG.tape, hg.output.trans hG.output, Nat.le_trans hG.size (Nat.le_trans (by simp) hg.size), fun k hk hne => ?_⟩
    have hkw := Nat.lt_of_lt_of_le hk hG.size
    refine (hg.block k (by simp; omega) ?_).trans ((Below.heap_alloc w2 _ k hkw).trans (hG.block k hk hne))
    intro e
    have := (hown.lt k e.symm).1
    omega
  have hB' : w'.heap[c]? = some (.cells #[v0, .int .i64 held] 39 (0, 0)) := (hg.block c (by simp; omega) hne).trans ((Below.heap_alloc w2 _ c hc).trans hB)
  exact rgrant_end (rows := rDrop rows x y ++ [(x, y, v)]) hB' (by rw [rCells_snoc]; exact owns_base hown' hbase) (by simp) hgw

set_option maxHeartbeats 1000000 in
theorem rgrant_yes {w : World} {base c : Nat} {rows : List LRow} {held x y v : Int} (hR : RBookAt w base c rows held) (hbase : base ≤ w.heap.size) (hlen : rows.length ≤ 1000000) (hv : rUntil rows x y < v) :
    Calls Try.prog 15 #[.pointer (some ⟨c, 0, none⟩), .agg #[.int .i64 x, .int .i64 y], .int .i64 v] w fun e w' => e = .returned (.bool true) ∧ RBookAt w' base c (rDrop rows x y ++ [(x, y, v)]) held ∧ w.grownBy w' (some c) := by
  have hclt := hR.lt
  have hb0 : Below w.heap.size w (w.alloc (.cells #[.int .i64 x, .int .i64 y] 23)) := (Below.refl _ _).alloc (Nat.le_refl _) _
  have hR1 := hR.below hb0
  have q : (w.alloc (.cells #[.int .i64 x, .int .i64 y] 23)).heap[w.heap.size]? = some (.cells #[.int .i64 x, .int .i64 y] 23 (0, 0)) := heap_alloc_new _ _
  have hNW : w.heap.size < (w.alloc (.cells #[.int .i64 x, .int .i64 y] 23)).heap.size := by simp
  clear hR
  go_enter Try.func15, Try.ntmps15
  go_wp2_with fail
  generalize w.alloc (.cells #[.int .i64 x, .int .i64 y] 23) = W at *
  refine (runtil_any (by exact hR1)).mono ?_
  rintro e w1 ⟨rfl, b1⟩
  have hb1 := hb0.trans (b1.mono hb0.size)
  have q1 := (b1.block _ hNW).trans q
  have hN1 := Nat.lt_of_lt_of_le hNW b1.size
  have hR2 := hR1.below b1
  have k0 : w1.cell? ⟨w.heap.size, 0, none⟩ = some (.int .i64 x) := by simp [World.cell?, q1]
  have k1 : w1.cell? ⟨w.heap.size, 1, none⟩ = some (.int .i64 y) := by simp [World.cell?, q1]
  clear b1 hb0 hR1 q hNW
  go_wp2_with fail
  refine (rforget_any (by exact hR2) hlen).mono ?_
  rintro e w2 ⟨rfl, hR3, g3⟩
  have hcN : c ≠ w.heap.size := by omega
  have q2 := (g3.block _ hN1 (by simpa using hcN.symm)).trans q1
  have l0 : w2.cell? ⟨w.heap.size, 0, none⟩ = some (.int .i64 x) := by simp [World.cell?, q2]
  have l1 : w2.cell? ⟨w.heap.size, 1, none⟩ = some (.int .i64 y) := by simp [World.cell?, q2]
  have hN2 := Nat.lt_of_lt_of_le hN1 g3.size
  clear hR2 q1 hN1 k0 k1
  obtain ⟨u, hblk, hown⟩ := hR3.ex
  obtain ⟨A, cap, rfl, hnc, hcap, hform⟩ := owns_slice hown
  have hc2 : c < w2.heap.size := hR3.lt
  have ne1 := owns_ne hown hblk (by decide)
  have ne2 := owns_ne hown q2 (by decide)
  have hc0 : w2.cell? ⟨c, 0, none⟩ = some (.slice A (rDrop rows x y).length cap) := by simp [World.cell?, hblk]
  have hf0 : w2.frozen? ⟨c, 0, none⟩ = false := by simp [World.frozen?, hblk]
  have gw : w.grownBy w2 (some c) := ⟨g3.os.trans hb1.os, g3.tape.trans hb1.tape, g3.output.trans hb1.output, Nat.le_trans hb1.size g3.size, fun k hk hne => (g3.block k (Nat.lt_of_lt_of_le hk hb1.size) hne).trans (hb1.block k hk)⟩
  have hbase2 : w.heap.size ≤ w2.heap.size := gw.size
  have hbase3 : w1.heap.size ≤ w2.heap.size := g3.size
  have hbase4 : w.heap.size ≤ w1.heap.size := hb1.size
  have hdl : (rDrop rows x y).length ≤ 1000000 := Nat.le_trans (rDrop_len _ _ _) hlen
  obtain ⟨i0, hi0, hz0, hz1, hz2⟩ := info_parts row_info
  have HBLK := Lib.hid hblk
  have GW := Lib.hid gw
  clear hR3 g3 hb1 hform hblk gw
  go_wp2_with fail
  generalize hN : w.heap.size = N at *
  generalize hN1' : w1.heap.size = N1 at *
  go_region_law (first
    | (refine step_append_lies _ (by rfl) _ _ _ (by rfl) N1 49 i0 _ 3 24 Try.underlying37 hi0 hz0 hz1 hz2 rfl (by omega) _ _ _ (by rfl) (hown.drew.alloc _) ⟨w2.heap.size, 0, none⟩ 1 1 [.int .i64 x, .int .i64 y, .int .i64 v] (by rfl) (by rfl) (World.news_of_block (heap_alloc_new _ _)) (by intro u hu; simp at hu; rcases hu with rfl | rfl | rfl <;> rfl) (by omega) (by unfold maxLen; omega) (by omega) (by simp; omega) (w2.heap.size + 1) (by simp) ?_; intro g' cap' w' hown' hg' hat' hlt'; have hfz : w'.frozen? ⟨c, 0, none⟩ = false := (hg'.frozen_far ⟨c, 0, none⟩ (by simp; omega) (Ne.symm ne1)).trans ((World.frozen?_alloc_old w2 _ ⟨c, 0, none⟩ (Nat.ne_of_lt hc2)).trans hf0); have hcz : w'.cell? ⟨c, 0, none⟩ = some (.slice A (rDrop rows x y).length cap) := (hg'.cell_far ⟨c, 0, none⟩ (by simp; omega) (Ne.symm ne1)).trans ((World.cell?_alloc_lt w2 _ ⟨c, 0, none⟩ hc2).trans hc0)))
  all_goals
    have hE := rgrant_fin (base := base) (v := v) (v0 := .slice A (rDrop rows x y).length cap) hg' hown' hown GW.out HBLK.out (Ne.symm ne1) (by omega) hc2 (by omega)
    clear hg' hown hown' HBLK GW hfz hcz
    go_wp2_with fail
    go_ret
    exact ⟨rfl, hE⟩
end Go.Proofs.Ytmnlcmnipkjelaa
