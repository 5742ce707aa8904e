/- First, and the document's First. -/
import Derived.Test.YtofdmdpnobhnlaaCfgRight
namespace Go.Proofs.Ytofdmdpnobhnlaa
open Go.RowKit Go.ChangeShapes Go.WideShapes Go.Joins
set_option linter.unusedVariables false

/-- What is handed back: a chain, and something beside it. -/
def ConfRes (w w' : World) (en : Ending) (c : ConfV) (x : Value) : Prop := ∃ v, en = .returned (.tuple #[.agg #[.int .i64 c.epoch, v], x]) ∧ ChainAt w' v c.chain ∧ Below w.heap.size w w'
/-- A chain alone. -/
def ConfOne (w w' : World) (en : Ending) (c : ConfV) : Prop := ∃ v, en = .returned (.agg #[.int .i64 c.epoch, v]) ∧ ChainAt w' v c.chain ∧ Below w.heap.size w w'

theorem below_any' {w w' : World} {row : Option Nat} (h : Below w.heap.size w w') : w.grownBy w' row := ⟨h.os, h.tape, h.output, h.size, fun k hk _ => h.block k hk⟩
theorem own_set {w : World} {base D i : Nat} {e : TypeId} {size : Nat} {v u : Value} {n : Nat} {xs : List Value} (h : w.ownsRow base e size v n xs) (hD : D < base) : (w.setCell ⟨D, i, none⟩ u).ownsRow base e size v n xs := by
  refine h.kept (grown_setCell w D i u) (.inr fun e => ?_)
  have := (h.lt D e).1
  omega
theorem own_below {w w' : World} {base : Nat} {e : TypeId} {size : Nat} {v : Value} {n : Nat} {xs : List Value} (h : w.ownsRow base e size v n xs) (hb : Below w.heap.size w w') : w'.ownsRow base e size v n xs := h.kept (below_any' (row := none) hb) (Classical.em _)
theorem own_ne {w : World} {base D : Nat} {e : TypeId} {size : Nat} {v : Value} {n : Nat} {xs : List Value} (h : w.ownsRow base e size v n xs) (hD : D < base) : some D ≠ v.ownBlock := fun he => by
  have := (h.lt _ he.symm).1
  omega
theorem own_form {w : World} {base : Nat} {e : TypeId} {size : Nat} {v : Value} {n : Nat} {xs : List Value} (h : w.ownsRow base e size v n xs) : ∃ A cap, v = .slice A n cap := by
  rcases h.2 with ⟨rfl, rfl⟩ | ⟨g, cap, cur, rfl, _⟩
  · exact ⟨none, 0, rfl⟩
  · exact ⟨_, cap, rfl⟩
theorem firstSeats_ok (n : Nat) (h : n ≤ 1000) : ∀ s ∈ firstSeats n, SeatOk s := by
  intro s hs
  obtain ⟨i, hi, rfl⟩ := List.mem_map.1 hs
  have := List.mem_range.1 hi
  exact ⟨W64.mk (by show (-9223372036854775808 : Int) ≤ (i : Int); omega) (by show (i : Int) ≤ 9223372036854775807; omega), W64.mk (by show (-9223372036854775808 : Int) ≤ 1; omega) (by show (1 : Int) ≤ 9223372036854775807; omega)⟩
theorem firstSeats_len (n : Nat) : (firstSeats n).length = n := by simp [firstSeats]


set_option maxRecDepth 100000 in
set_option maxHeartbeats 2000000 in
theorem cfirst_any (n : Int) (hn : W64 n) (w : World) :
    Calls Try.prog 22 #[.int .i64 n] w fun en w' => ConfRes w w' en (firstC n).1 (.int .i64 (firstC n).2) := by
  obtain ⟨i0, hi0, hz0, hz1, hz2⟩ := info_parts seat_full
  unfold W64 at hn
  go_enter Try.func22, Try.ntmps22
  go_upto_region 1 with (fail)
  have hD : BlkAt (w.alloc (.cells #[.int .i64 0, .slice none 0 0] 24)) w.heap.size 24 [.int .i64 0, .slice none 0 0] := BlkAt.new w 24 [.int .i64 0, .slice none 0 0]
  have hb : Below w.heap.size w (w.alloc (.cells #[.int .i64 0, .slice none 0 0] 24)) := (Below.refl w.heap.size w).alloc (Nat.le_refl _) _
  have hWs : w.heap.size + 1 ≤ (w.alloc (.cells #[.int .i64 0, .slice none 0 0] 24)).heap.size := by simp
  change Code.wp _ _ _ _ (w.alloc (.cells #[.int .i64 0, .slice none 0 0] 24))
  generalize w.alloc (.cells #[.int .i64 0, .slice none 0 0] 24) = W at *
  have hDn : w.heap.size ≤ w.heap.size := Nat.le_refl _
  have d0 : W.cell? ⟨w.heap.size, 0, none⟩ = some (.int .i64 0) := hD.cell rfl
  have d1 : W.cell? ⟨w.heap.size, 1, none⟩ = some (.slice none 0 0) := hD.cell rfl
  have hf := hD.free
  by_cases t1 : n < 1
  · have HE := Lib.hid (show firstC n = (⟨0, []⟩, 1) by rw [firstC, if_neg (by omega)])
    go_wp2_with fail
    obtain ⟨hE, hbE⟩ := fin2 (p := .int .i64 0) (q := .slice none 0 0) hD hb hDn
    change bodyPost _ _ _ _ _ ((W.setCell ⟨w.heap.size, 0, none⟩ (.int .i64 0)).setCell ⟨w.heap.size, 1, none⟩ (.slice none 0 0))
    generalize (W.setCell ⟨w.heap.size, 0, none⟩ (.int .i64 0)).setCell ⟨w.heap.size, 1, none⟩ (.slice none 0 0) = W9 at *
    clear d0 d1
    have d0 := hE.cell (i := 0) rfl
    have d1 := hE.cell (i := 1) rfl
    exact bodyPost_ret (v := .tuple #[.agg #[.int .i64 0, .slice none 0 0], .int .i64 1]) (by simp [results, Try.results22, go_sem, d0, d1] <;> rfl) rfl ⟨.slice none 0 0, by rw [HE.out], by rw [HE.out]; exact ChainAt.nil _, hbE⟩
  · by_cases t2 : 8 < n
    · have HE := Lib.hid (show firstC n = (⟨0, []⟩, 1) by rw [firstC, if_neg (by omega)])
      go_wp2_with fail
      obtain ⟨hE, hbE⟩ := fin2 (p := .int .i64 0) (q := .slice none 0 0) hD hb hDn
      change bodyPost _ _ _ _ _ ((W.setCell ⟨w.heap.size, 0, none⟩ (.int .i64 0)).setCell ⟨w.heap.size, 1, none⟩ (.slice none 0 0))
      generalize (W.setCell ⟨w.heap.size, 0, none⟩ (.int .i64 0)).setCell ⟨w.heap.size, 1, none⟩ (.slice none 0 0) = W9 at *
      clear d0 d1
      have d0 := hE.cell (i := 0) rfl
      have d1 := hE.cell (i := 1) rfl
      exact bodyPost_ret (v := .tuple #[.agg #[.int .i64 0, .slice none 0 0], .int .i64 1]) (by simp [results, Try.results22, go_sem, d0, d1] <;> rfl) rfl ⟨.slice none 0 0, by rw [HE.out], by rw [HE.out]; exact ChainAt.nil _, hbE⟩
    · have HE := Lib.hid (show firstC n = (⟨1, firstSeats n.toNat⟩, 0) by rw [firstC, if_pos (by omega)])
      obtain ⟨N, rfl⟩ : ∃ N : Nat, n = N := ⟨n.toNat, by omega⟩
      have hDs := hD.set 0 (.int .i64 1)
      have hbs := grown_below hb (grown_setCell W w.heap.size 0 (.int .i64 1)) hDn
      have hWs' : w.heap.size + 1 ≤ (W.setCell ⟨w.heap.size, 0, none⟩ (.int .i64 1)).heap.size := by simp [World.setCell]; omega
      go_upto_region 4 with (fail)
      generalize W.setCell ⟨w.heap.size, 0, none⟩ (.int .i64 1) = W1 at *
      clear d0 d1 hf hD hb hWs
      go_wp2_with fail
      go_loopw [14] (fun i wr => ∃ (k : Nat) (v : Value), k ≤ N ∧ i = .int .i64 k ∧ BlkAt wr w.heap.size 24 [.int .i64 1, v] ∧ wr.ownsRow (w.heap.size + 1) 50 3 v k (seatsCells (firstSeats k)) ∧ Below w.heap.size w wr ∧ w.heap.size + 1 ≤ wr.heap.size) (fun i _ => N - (intOf i).toNat)
      case atStart => exact ⟨0, .slice none 0 0, Nat.zero_le _, rfl, hDs, World.ownsRow_nil _ _ _ _, hbs, hWs'⟩
      case round =>
        obtain ⟨k, v, hk, rfl, hD, hown, hb, hsz⟩ := hrel
        clear hDs hbs hWs'
        by_cases hlt : k < N
        · have d1 : wr.cell? ⟨w.heap.size, 1, none⟩ = some v := hD.cell rfl
          go_wp2_with (at_builtin; refine wpList_append_lies _ rfl (.tmp 18) (.tmp 22) 22 rfl (w.heap.size + 1) 50 i0 _ 3 24 Try.underlying22 hi0 hz0 hz1 hz2 rfl (by omega) _ _ _ rfl (hown.alloc _) ⟨wr.heap.size, 0, none⟩ 1 1 (seatCells ⟨k, 1, true⟩) rfl rfl ?c1 ?c2 (by omega) ?c3 ?c4 ?c5 (wr.heap.size + 1) ?c6 ?_)
          case c1 => exact World.news_of_block (heap_alloc_new _ _)
          case c2 => exact seatCells_one
          case c3 => unfold maxLen; omega
          case c4 => omega
          case c5 => simp; omega
          case c6 => simp
          intro g' cap' w' hown' hg' hat' hlt'
          have hne : some w.heap.size ≠ v.ownBlock := fun e => by have := (hown.lt _ e.symm).1; omega
          have hDl := hD.lt
          have hD2 : BlkAt w' w.heap.size 24 [.int .i64 1, v] := (hg'.block _ (by simp; omega) hne).trans (hD.alloc (.cells (seatCells ⟨k, 1, true⟩).toArray 50))
          have hb2 : Below w.heap.size w w' := (hb.alloc hb.size _).grown hg' (by simp; omega) (fun j hj => by have := (hown.lt j hj).1; omega)
          have hsz2 : w.heap.size + 1 ≤ w'.heap.size := by have := hg'.size; simp at this; omega
          clear hg' hat' hD hown d1 hb hsz
          have d1 : w'.cell? ⟨w.heap.size, 1, none⟩ = some v := hD2.cell rfl
          have hf := hD2.free 1
          go_wp2_with fail
          go_roundw
          case rel => exact ⟨k + 1, _, by omega, by go_num, hD2.set 1 _, by rw [firstSeats_snoc, seatsCells_snoc]; exact own_set hown' (by omega), grown_below hb2 (grown_setCell w' w.heap.size 1 _) (Nat.le_refl _), by simp [World.setCell]; omega⟩
          case measure => simp [intOf]; omega
        · obtain rfl : k = N := by omega
          obtain ⟨A, capv, rfl⟩ := own_form hown
          have d0 : wr.cell? ⟨w.heap.size, 0, none⟩ = some (.int .i64 1) := hD.cell rfl
          have d1 : wr.cell? ⟨w.heap.size, 1, none⟩ = some (.slice A k capv) := hD.cell rfl
          have hf := hD.free
          go_wp2_with fail
          obtain ⟨hE, hbE⟩ := fin2 (p := .int .i64 1) (q := .slice A k capv) hD hb (Nat.le_refl _)
          have hoE := own_set (D := w.heap.size) (i := 1) (u := .slice A k capv) (own_set (D := w.heap.size) (i := 0) (u := .int .i64 1) hown (Nat.lt_succ_self _)) (Nat.lt_succ_self _)
          change bodyPost _ _ _ _ _ ((wr.setCell ⟨w.heap.size, 0, none⟩ (.int .i64 1)).setCell ⟨w.heap.size, 1, none⟩ (.slice A k capv))
          generalize (wr.setCell ⟨w.heap.size, 0, none⟩ (.int .i64 1)).setCell ⟨w.heap.size, 1, none⟩ (.slice A k capv) = W9 at *
          clear d0 d1
          have d0 := hE.cell (i := 0) rfl
          have d1 := hE.cell (i := 1) rfl
          exact bodyPost_ret (v := .tuple #[.agg #[.int .i64 1, .slice A k capv], .int .i64 0]) (by simp [results, Try.results22, go_sem, d0, d1] <;> rfl) rfl ⟨_, by rw [HE.out], by rw [HE.out, Int.toNat_natCast]; exact chain_of_own (by rw [firstSeats_len]; exact hoE) (firstSeats_ok k (by omega)), hbE⟩

end Go.Proofs.Ytofdmdpnobhnlaa
