/- Rows of texts: one taken out, a copy; numbers loaded and stored at once. -/
import Derived.Test.YtnaabaahfjklhaaGreatNetAt
import Derived.Test.YtnaabaahfjklhaaGreatShelf
import Derived.Sort.OwnSorted
namespace Go.Proofs.YtnaabaahfjklhaaGreat
open Go.RowKit Go.ChangeShapes Go.WideShapes Go.Joins Go.Deep
set_option linter.unusedVariables false

theorem strs_enc (L : List (List UInt8)) : strsCells L = L.map Go.Proofs.encStr := rfl
theorem ndelete_any {B g cap k : Nat} {w : World} {L : List (List UInt8)} (hown : w.ownsRow B 9 1 (.slice (some ⟨g, 0, none⟩) L.length cap) L.length (strsCells L)) (hk : k < L.length) (hl : L.length ≤ 1000000) :
    Calls Tryz.prog 30 #[.slice (some ⟨g, 0, none⟩) L.length cap, .int .i64 k, .int .i64 ((k : Int) + 1)] w fun e w' => e = .returned (.slice (some ⟨g, 0, none⟩) (L.length - 1) cap) ∧
      w'.ownsRow B 9 1 (.slice (some ⟨g, 0, none⟩) (L.length - 1) cap) (L.length - 1) (strsCells (L.eraseIdx k)) ∧ w.grownBy w' (some g) := by
  rcases hown.2 with ⟨hv, h0⟩ | ⟨g', cap', cur, hv, hbase, hb, h1, h2, h3, h4⟩
  · omega
  · simp only [Value.slice.injEq, Option.some.injEq, Addr.mk.injEq, true_and, and_true] at hv
    obtain ⟨rfl, rfl⟩ := hv
    rw [Nat.mul_one] at h3 h4
    have hH : Go.Sort.Holds Go.Proofs.encStr w g 0 L.toArray := holds_of_block hb h4
    have hc := Tryz.slices_Delete_string g 0 cap k (k + 1) L w hH h1 (by unfold maxLen at h2; omega) (by omega) (by omega)
    rw [show k + 1 - k = 1 by omega] at hc
    have hc : Calls Tryz.prog 30 #[.slice (some ⟨g, 0, none⟩) L.length cap, .int .i64 k, .int .i64 ((k : Int) + 1)] w _ := hc
    refine hc.mono ?_
    rintro e w' ⟨rfl, q, rfl⟩
    obtain ⟨ts, hts⟩ : ∃ ts, ts = L.take k ++ L.drop (k + 1) ++ List.replicate 1 ([] : List UInt8) := ⟨_, rfl⟩
    have htl : ts.length = L.length := by rw [hts]; simp; omega
    rw [← hts]
    have hg : g < w.heap.size := (Array.getElem?_eq_some_iff.1 hb).1
    have hbp : (Go.Sort.putRow Go.Proofs.encStr (Go.Sort.ahead w q) g 0 ts.toArray).heap[g]? = some (.cells (Go.Sort.putCells Go.Proofs.encStr 0 ts.toArray cur) 9 (0, 0)) := by
      simp [Go.Sort.putRow, Go.Sort.mapBlock, Go.Sort.ahead, Array.getElem?_modify, hb, Go.Sort.onCells]
    have hel : (L.eraseIdx k).length = L.length - 1 := by rw [List.length_eraseIdx, if_pos hk]
    refine ⟨rfl, ⟨by rw [strsCells_len, hel, Nat.mul_one], .inr ⟨g, cap, _, rfl, hbase, hbp, by omega, h2, by simp [Go.Sort.putCells, h3], ?_⟩⟩, ⟨rfl, rfl, rfl, ?_, fun j hj hne => ?_⟩⟩
    · rw [Nat.mul_one]
      have ht := take_putCells cur ts (by omega)
      rw [htl] at ht
      have h5 : (Go.Sort.putCells Go.Proofs.encStr 0 ts.toArray cur).toList.take (L.length - 1) = ((Go.Sort.putCells Go.Proofs.encStr 0 ts.toArray cur).toList.take L.length).take (L.length - 1) := by rw [List.take_take, Nat.min_eq_left (by omega)]
      rw [h5, ht, strs_enc, ← List.map_take]
      congr 1
      rw [hts, ← List.eraseIdx_eq_take_drop_succ, List.take_append_of_le_length (by omega), List.take_of_length_le (by omega)]
    · simp [Go.Sort.putRow, Go.Sort.mapBlock, Go.Sort.ahead]
    · have : g ≠ j := fun e => hne (by rw [e])
      simp [Go.Sort.putRow, Go.Sort.mapBlock, Go.Sort.ahead, Array.getElem?_modify, this]
theorem nclone_any {B : Nat} {w : World} {v : Value} {L : List (List UInt8)} (hown : w.ownsRow B 9 1 v L.length (strsCells L)) (hl : L.length ≤ 1000000) :
    Calls Tryz.prog 37 #[v] w fun e w' => ∃ v', e = .returned v' ∧ w'.ownsRow w.heap.size 9 1 v' L.length (strsCells L) ∧ Below w.heap.size w w' := by
  rcases hown.2 with ⟨rfl, h0⟩ | ⟨g, cap, cur, rfl, hbase, hb, h1, h2, h3, h4⟩
  · refine Calls.mono (Tryz.slices_Clone_string_nil 0 0 w) ?_
    rintro e w' ⟨rfl, rfl⟩
    have hL : L = [] := List.length_eq_zero_iff.1 h0
    subst hL
    exact ⟨_, rfl, World.ownsRow_nil _ _ _ _, Below.refl _ _⟩
  · have hc := Tryz.slices_Clone_string g 0 L.length cap (L.map fun l => ⟨l.toArray⟩) w (by simp) (by omega) (by
      intro j hj
      have hj : j < L.length := by simpa using hj
      rw [Nat.zero_add, World.ownsRow.cellAt hown j (by omega)]
      simp [strsCells, hj])
    refine hc.mono ?_
    rintro e w' ⟨v', rfl, h5, _, h6⟩
    refine ⟨v', rfl, ?_, h6⟩
    have h7 : ((L.map fun l => (⟨l.toArray⟩ : ByteArray)).take L.length).map Value.string = strsCells L := by
      rw [List.take_of_length_le (by simp), List.map_map]
      rfl
    rw [h7] at h5
    exact h5

set_option maxRecDepth 100000 in
theorem aload_any {a : Addr} {x : Int} {w : World} (hc : w.cell? a = some (.int .i64 x)) : Calls Tryz.prog 39 #[.pointer (some a)] w fun e w' => e = .returned (.int .i64 x) ∧ w = w' := by
  have hl := run_call_load (P := Tryz.prog) Tryz.func54 (by kernel_rfl) (by kernel_rfl) (by kernel_rfl) .i64 (by kernel_rfl) hc
  obtain ⟨bb, oo, ss⟩ := a
  go_enter Tryz.func39, Tryz.ntmps39
  go_wp2_with fail
  go_ret
  exact ⟨rfl, rfl⟩
set_option maxRecDepth 100000 in
theorem astore_any {bb oo : Nat} {x y : Int} {w : World} (hc : w.cell? ⟨bb, oo, none⟩ = some (.int .i64 x)) (hz : w.frozen? ⟨bb, oo, none⟩ = false) : Calls Tryz.prog 38 #[.pointer (some ⟨bb, oo, none⟩), .int .i64 y] w fun e w' => e = .returned (.tuple #[]) ∧ w' = w.setCell ⟨bb, oo, none⟩ (.int .i64 y) := by
  have hl := run_call_store (P := Tryz.prog) Tryz.func53 (by kernel_rfl) (by kernel_rfl) (by kernel_rfl) (by kernel_rfl) (k := .i64) (y := y) hc hz
  go_enter Tryz.func38, Tryz.ntmps38
  go_wp2_with fail
  go_end0
  exact ⟨rfl, rfl⟩
theorem add_one (s : Int) (h : 0 ≤ s ∧ s ≤ 1000000000) (w : World) : (Op.intArith .add .i64 s 1).run Tryz.prog w = .ok (.int .i64 (s + 1)) w := by
  simp [go_sem]
  rw [IntKind.wrap_i64]
  omega
set_option maxRecDepth 100000 in
theorem aadd_any {bb oo : Nat} {s : Int} {w : World} (hc : w.cell? ⟨bb, oo, none⟩ = some (.int .i64 s)) (hz : w.frozen? ⟨bb, oo, none⟩ = false) (hs : 0 ≤ s ∧ s ≤ 1000000000) : Calls Tryz.prog 28 #[.pointer (some ⟨bb, oo, none⟩), .int .i64 1] w fun e w' => e = .returned (.int .i64 (s + 1)) ∧ w' = w.setCell ⟨bb, oo, none⟩ (.int .i64 (s + 1)) := by
  have hadd := run_call_add (P := Tryz.prog) Tryz.func43 (by kernel_rfl) (by kernel_rfl) (by kernel_rfl) .i64 (by kernel_rfl) (y := 1) (s := s + 1) hc hz (add_one s hs _)
  go_enter Tryz.func28, Tryz.ntmps28
  go_wp2_with fail
  go_ret
  exact ⟨rfl, rfl⟩
end Go.Proofs.YtnaabaahfjklhaaGreat
