/- A log copied. -/
import Derived.Test.YtoiaigbagfalmaaStKeep
import Derived.Laws.CopyRow
import Derived.Laws.IdiomCopy
import Derived.Deep.OwnRows
namespace Go.Proofs.Ytoiaigbagfalmaa
open Go.RowKit Go.ChangeShapes Go.WideShapes Go.Joins Go.Deep
set_option linter.unusedVariables false

theorem bcells_one {l : List UInt8} : ∀ u ∈ bcells l, u.oneCell' = true := by
  intro u hu
  obtain ⟨c, _, rfl⟩ := List.mem_map.1 hu
  rfl
theorem step_copy_bytes {w : World} {ops : Array Oper} {o : Oper} {a : Act} {K : Act → World → Prop} {Q : Exit → Act → World → Prop} {E : Prop} (hgd : o.guard = none) (d s : Operand)
    (ho : o.op = .call { callee := .builtin .copy, args := #[d, s], argTypes := #[56, 56] }) {B g cap : Nat} {l : List UInt8} {A : Option Addr} {cur : Array Value}
    (hd : a.eval d = .slice (some ⟨g, 0, none⟩) l.length l.length) (hs : a.eval s = .slice A l.length cap) (hown : w.ownsRow B 5 1 (.slice A l.length cap) l.length (bcells l))
    (hg : w.heap[g]? = some (.cells cur 5 (0, 0))) (hsz : cur.size = l.length)
    (h : ∀ w', w'.heap[g]? = some (.cells (bcells l).toArray 5 (0, 0)) → w.grownBy w' (some g) → K (a.put o.dst (goInt l.length)) w') :
    if Region.wanted o (yielded ops a.tmps) = true then Oper.wp Try.prog o a w K Q else E := by
  have hw : Region.wanted o (yielded ops a.tmps) = true := by simp [Region.wanted, hgd]
  rw [if_pos hw]
  have hu8 : (Try.prog.info? 5).map (·.size) = some 1 := by
    obtain ⟨i, hi, _, h1, _⟩ := u8_infos
    rw [hi]
    simp [h1]
  unfold Oper.wp
  rcases Nat.eq_zero_or_pos l.length with h0 | hp
  · have : l = [] := List.length_eq_zero_iff.1 h0
    subst this
    have hrun := run_copy_none (P := Try.prog) w 56 56 o.type 5 (some ⟨g, 0, none⟩) A 0 0 0 cap Try.underlying56 hu8 rfl
    simp only [List.length_nil] at hd hs
    simp only [execOp, ho, resolve, invoke, builtin, Sem.run_bind, Sem.run_pure, Result.andThen_ok, List.map_toArray, List.map_cons, List.map_nil, hs, hd, hrun]
    have hc : cur = (bcells []).toArray := by
      apply Array.eq_empty_of_size_eq_zero
      simpa using hsz
    rw [hc] at hg
    exact h w hg (World.grownBy.refl _ _)
  · obtain ⟨ad, rfl⟩ : ∃ ad, A = some ad := by
      rcases hown.2 with ⟨hv, h0⟩ | ⟨g2, cap', cur', hv, _⟩
      · omega
      · cases hv; exact ⟨_, rfl⟩
    have hcells : ∀ j v, (bcells l)[j]? = some v → w.cell? (ad.add j) = some v := by
      rcases hown.2 with ⟨hv, h0⟩ | ⟨g2, cap', cur', hv, _⟩
      · omega
      · cases hv
        exact hown.cells (g := g2) rfl
    have hrun := run_copy_row (P := Try.prog) w 56 56 o.type 5 g 0 l.length l.length ad l.length cap cur 5 (bcells l) Try.underlying56 hu8 hg (by rw [bcells_len]; exact (Nat.min_self _).symm) hcells (by rw [bcells_len]; omega) bcells_one
    simp only [execOp, ho, resolve, invoke, builtin, Sem.run_bind, Sem.run_pure, Result.andThen_ok, List.map_toArray, List.map_cons, List.map_nil, hs, hd, hrun]
    have hrow : (cur.toList.take 0 ++ bcells l ++ cur.toList.drop (0 + (bcells l).length)).toArray = (bcells l).toArray := by
      rw [List.take_zero, List.nil_append, List.drop_of_length_le (by rw [bcells_len, Array.length_toList]; omega), List.append_nil]
    rw [hrow, bcells_len]
    exact h _ (setRow_heap w g cur _ 5 _ hg) ⟨rfl, rfl, rfl, by simp [World.setRow], fun k _ hk => setRow_other w g k _ (by simpa using hk)⟩

set_option maxRecDepth 100000 in
set_option maxHeartbeats 4000000 in
theorem copy_any {B b : Nat} {w : World} {v : Value} {l : List UInt8} {t : Bool} (h : LogAt B w b v l t) (hl : l.length ≤ 65536) :
    Calls Try.prog 21 #[.pointer (some ⟨b, 0, none⟩)] w fun e w' => ∃ c vc, e = .returned (.pointer (some ⟨c, 0, none⟩)) ∧ LogAt w.heap.size w' c vc l t ∧ Below w.heap.size w w' := by
  obtain ⟨A, cap, rfl⟩ := h.form
  have c0 := h.cell0
  have c1 := h.cell1
  have hmk := run_make_row' (P := Try.prog) 56 5 (.int .u8 0) 1 Try.underlying56 u8_info rfl .i64 .i64 l.length (by omega) (by omega)
  have H := Lib.hid h
  clear h
  go_enter Try.func21, Try.ntmps21
  go_upto_region 3 with (fail)
  go_region_held3 (fun w' => w'.cell? ⟨b, 0, none⟩ = some (.slice A l.length cap) ∧ w'.cell? ⟨b, 1, none⟩ = some (.bool t))
    (first | exact ⟨c0, c1⟩ | go_keep)
    (fail)
  go_upto_region 4 with (fail)
  have hrow : ((w.alloc (.cells (madeCells #[.int .u8 0] l.length) 5)).alloc (.cells #[.slice (some ⟨w.heap.size, 0, none⟩) l.length l.length, .bool t] 58)).drew.heap[w.heap.size]? = some (.cells (madeCells #[.int .u8 0] l.length) 5 (0, 0)) := (heap_alloc_old _ _ (by simp)).trans (heap_alloc_new w _)
  have hbox : ((w.alloc (.cells (madeCells #[.int .u8 0] l.length) 5)).alloc (.cells #[.slice (some ⟨w.heap.size, 0, none⟩) l.length l.length, .bool t] 58)).drew.heap[w.heap.size + 1]? = some (.cells #[.slice (some ⟨w.heap.size, 0, none⟩) l.length l.length, .bool t] 58 (0, 0)) := by
    have := heap_alloc_new (w.alloc (.cells (madeCells #[.int .u8 0] l.length) 5)) (.cells #[.slice (some ⟨w.heap.size, 0, none⟩) l.length l.length, .bool t] 58)
    rw [World.size_alloc] at this
    exact this
  have hb : Below w.heap.size w ((w.alloc (.cells (madeCells #[.int .u8 0] l.length) 5)).alloc (.cells #[.slice (some ⟨w.heap.size, 0, none⟩) l.length l.length, .bool t] 58)).drew := (((Below.refl _ _).alloc (Nat.le_refl _) _).alloc (by simp) _).drew
  have h2 := H.out.below hb
  change Code.wp _ _ _ _ ((w.alloc (.cells (madeCells #[.int .u8 0] l.length) 5)).alloc (.cells #[.slice (some ⟨w.heap.size, 0, none⟩) l.length l.length, .bool t] 58)).drew
  generalize ((w.alloc (.cells (madeCells #[.int .u8 0] l.length) 5)).alloc (.cells #[.slice (some ⟨w.heap.size, 0, none⟩) l.length l.length, .bool t] 58)).drew = W at *
  clear c0 c1 hmk
  have d0 : W.cell? ⟨w.heap.size + 1, 0, none⟩ = some (.slice (some ⟨w.heap.size, 0, none⟩) l.length l.length) := cell_of_row _ _ 0 _ _ _ hbox
  have c0 := h2.cell0
  have hown := h2.2.2
  go_region_held3 (fun w' => w'.cell? ⟨b, 0, none⟩ = some (.slice A l.length cap) ∧ w'.cell? ⟨w.heap.size + 1, 0, none⟩ = some (.slice (some ⟨w.heap.size, 0, none⟩) l.length l.length))
    (first | exact ⟨c0, d0⟩ | go_keep)
    ((refine step_copy_bytes (by rfl) _ _ (by rfl) (by rfl) (by rfl) (by exact hown.drew) (by exact hrow) (by simp [madeCells]) ?_; intro w6 hr6 hg6; have hg6 : W.grownBy w6 (some w.heap.size) := drewN_grown (n := 1) (by exact hg6); have hbox6 := (hg6.block (w.heap.size + 1) (Array.getElem?_eq_some_iff.1 hbox).1 (by simp)).trans hbox; have hbl := H.out.lt; have h6 : w6.heap[b]? = _ := (hg6.block b h2.lt (by simp; omega)).trans h2.2.1; have c0 : w6.cell? ⟨b, 0, none⟩ = some (.slice A l.length cap) := cell_of_row _ _ 0 _ _ _ h6; have d0 : w6.cell? ⟨w.heap.size + 1, 0, none⟩ = some (.slice (some ⟨w.heap.size, 0, none⟩) l.length l.length) := cell_of_row _ _ 0 _ _ _ hbox6))
  have HB := Lib.hid (grown_below hb hg6 (Nat.le_refl _))
  have HR := Lib.hid hr6
  have HX := Lib.hid hbox6
  clear hb hg6 hr6 hbox6 h6 hrow hbox h2 hown
  go_wp2_with fail
  go_ret
  refine ⟨_, _, rfl, ⟨by omega, HX.out, ⟨by rw [bcells_len, Nat.mul_one], .inr ⟨w.heap.size, l.length, _, rfl, Nat.le_refl _, HR.out, Nat.le_refl _, by unfold maxLen; omega, by simp [bcells_len], by rw [List.take_of_length_le (by simp [bcells_len])]⟩⟩⟩, HB.out⟩
end Go.Proofs.Ytoiaigbagfalmaa
