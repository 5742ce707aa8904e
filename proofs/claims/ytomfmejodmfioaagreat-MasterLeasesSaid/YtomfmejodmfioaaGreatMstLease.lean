/- The contracts of package lease, for the master: New, Grant, Hold, Free. -/
import Derived.Test.YtomfmejodmfioaaGreatMstMap
import Derived.StillTailTactics
import Derived.Lib.SmallJoins
import Derived.Lib.Hide
import Derived.Deep.RegionLaw
namespace Go.Proofs.YtomfmejodmfioaaGreat
open Go.RowKit Go.Maps Go.ChangeShapes Go.WideShapes Go.Joins
set_option linter.unusedVariables false

/-- A map of members whose elements are integers: g. -/
def MapI (w : World) (m n : Nat) (g : Int → Int → Int) : Prop := ∃ f, MapM w m n f ∧ ∀ x y, W64 x → W64 y → (f x y).getD (.int .i64 0) = .int .i64 (g x y)
def updI (g : Int → Int → Int) (x y v : Int) : Int → Int → Int := fun x' y' => if x' = x ∧ y' = y then v else g x' y'
theorem updI_same (f : Int → Int → Int) (x y v : Int) : updI f x y v x y = v := by simp [updI]
theorem updI_other (f : Int → Int → Int) {x y x' y' : Int} (v : Int) (h : ¬ (x' = x ∧ y' = y)) : updI f x y v x' y' = f x' y' := by simp [updI, h]
section
variable {w w' : World} {b m n : Nat} {g : Int → Int → Int} {held : Int}
theorem MapI.lt (h : MapI w m n g) : m < w.heap.size := by obtain ⟨f, h1, _⟩ := h; exact h1.lt
theorem MapI.isMap (h : MapI w m n g) : ∃ es c, w.heap[m]? = some (.map es c) := by obtain ⟨f, h1, _⟩ := h; exact h1.isMap
theorem MapI.kept (h : MapI w m n g) (hm : w'.heap[m]? = w.heap[m]?) : MapI w' m n g := by obtain ⟨f, h1, h2⟩ := h; exact ⟨f, h1.kept hm, h2⟩
theorem MapI.below (h : MapI w m n g) (hb : Below w.heap.size w w') : MapI w' m n g := h.kept (hb.block _ h.lt)
theorem MapI.alloc (h : MapI w m n g) (o : Obj) : MapI (w.alloc o) m n g := h.below ((Below.refl _ _).alloc (Nat.le_refl _) o)
theorem MapI.mono (h : MapI w m n g) {n' : Nat} (hn : n ≤ n') : MapI w m n' g := by obtain ⟨f, h1, h2⟩ := h; exact ⟨f, h1.mono hn, h2⟩
theorem MapI.made (w : World) : MapI (w.alloc (.map #[] 0)) w.heap.size 0 (fun _ _ => 0) := ⟨_, MapM.made w, fun _ _ _ _ => rfl⟩
theorem MapI.look (h : MapI w m n g) {x y : Int} (hx : W64 x) (hy : W64 y) : (Instr.lookup 30 (.map (some m)) (.agg #[.int .i64 x, .int .i64 y]) false).run Tryz.prog w = .ok (.int .i64 (g x y)) w := by
  obtain ⟨f, h1, h2⟩ := h
  have := h1.look Tryz.underlying30 (z := .int .i64 0) (by kernel_rfl) hx hy
  rw [h2 x y hx hy] at this
  exact this
theorem MapI.upd {f : Int → Int → Option Value} (h2 : ∀ x y, W64 x → W64 y → (f x y).getD (.int .i64 0) = .int .i64 (g x y)) (x y v : Int) : ∀ x' y', W64 x' → W64 y' → (updV f x y (.int .i64 v) x' y').getD (.int .i64 0) = .int .i64 (updI g x y v x' y') := by
  intro x' y' hx hy
  by_cases e : x' = x ∧ y' = y
  · simp [updV, updI, e]
  · simp only [updV, updI, if_neg e]; exact h2 x' y' hx hy

/-- Block b is a book: its map lies in block m, has at most n entries, and tells g; nobody is free ahead of 'held'. -/
structure BookAt (w : World) (b m n : Nat) (g : Int → Int → Int) (held : Int) : Prop where
  blk : BlkAt w b 144 [.map (some m), .int .i64 held]
  map : MapI w m n g
theorem BookAt.lt (h : BookAt w b m n g held) : b < w.heap.size := h.blk.lt
theorem BookAt.ne (h : BookAt w b m n g held) : b ≠ m := by
  rintro rfl
  obtain ⟨es, c, h1⟩ := h.map.isMap
  have := h.blk
  unfold BlkAt at this
  rw [h1] at this
  cases this
theorem BookAt.kept (h : BookAt w b m n g held) (hb : w'.heap[b]? = w.heap[b]?) (hm : w'.heap[m]? = w.heap[m]?) : BookAt w' b m n g held := ⟨hb.trans h.blk, h.map.kept hm⟩
theorem BookAt.below (h : BookAt w b m n g held) (hb : Below w.heap.size w w') : BookAt w' b m n g held := h.kept (hb.block _ h.lt) (hb.block _ h.map.lt)
theorem BookAt.alloc (h : BookAt w b m n g held) (o : Obj) : BookAt (w.alloc o) b m n g held := h.below ((Below.refl _ _).alloc (Nat.le_refl _) o)
theorem BookAt.drewN (h : BookAt w b m n g held) (k : Nat) : BookAt (w.drewN k) b m n g held := ⟨h.blk, h.map⟩
theorem BookAt.mono (h : BookAt w b m n g held) {n' : Nat} (hn : n ≤ n') : BookAt w b m n' g held := ⟨h.blk, h.map.mono hn⟩
theorem BookAt.held_ (h : BookAt w b m n g held) (x : Int) : BookAt (w.setCell ⟨b, 1, none⟩ (.int .i64 x)) b m n g x := by
  have hne := h.ne
  refine ⟨h.blk.set 1 _, h.map.kept ?_⟩
  simp [World.setCell, Array.getElem?_modify, hne]
end
set_option maxRecDepth 100000 in
set_option maxHeartbeats 1000000 in
theorem lfree_0 {w : World} {b m n : Nat} {g : Int → Int → Int} {held x y now : Int} (hB : BookAt w b m n g held) (hx : W64 x) (hy : W64 y) :
    Calls Tryz.prog 96 #[.pointer (some ⟨b, 0, none⟩), .agg #[.int .i64 x, .int .i64 y], .int .i64 now] w fun e w' => e = .returned (.bool (decide (max (g x y) held ≤ now))) ∧ Below w.heap.size w w' := by
  have hl : ∀ (O : Obj) N, (Instr.lookup 30 (.map (some m)) (.agg #[.int .i64 x, .int .i64 y]) false).run Tryz.prog ((w.alloc O).drewN N) = .ok (.int .i64 (g x y)) ((w.alloc O).drewN N) := fun O N => ((hB.alloc O).drewN N).map.look hx hy
  have hc : w.cell? ⟨b, 0, none⟩ = some (.map (some m)) := hB.blk.cell rfl
  have hc1 : w.cell? ⟨b, 1, none⟩ = some (.int .i64 held) := hB.blk.cell rfl
  have hlt := hB.lt
  clear hB
  go_enter Tryz.func96, Tryz.ntmps96
  go_wp2
  go_quiet (fail)
  go_wp2
  all_goals
    go_ret
    first
    | (rw [Int.max_eq_right (by omega)]; exact ⟨rfl, below_drewN ((Below.refl _ _).alloc (Nat.le_refl _) _) _⟩)
    | (rw [Int.max_eq_left (by omega)]; exact ⟨rfl, below_drewN ((Below.refl _ _).alloc (Nat.le_refl _) _) _⟩)
theorem lfree_any {w : World} {b m n : Nat} {g : Int → Int → Int} {held x y now : Int} (hB : BookAt w b m n g held) (hx : W64 x) (hy : W64 y) {q : Bool} (hq : decide (max (g x y) held ≤ now) = q) :
    Calls Tryz.prog 96 #[.pointer (some ⟨b, 0, none⟩), .agg #[.int .i64 x, .int .i64 y], .int .i64 now] w fun e w' => e = .returned (.bool q) ∧ Below w.heap.size w w' := by
  rw [← hq]
  exact lfree_0 hB hx hy
set_option maxRecDepth 100000 in
set_option maxHeartbeats 1000000 in
theorem lhold_any {w : World} {b m n : Nat} {g : Int → Int → Int} {held x : Int} (hB : BookAt w b m n g held) :
    Calls Tryz.prog 55 #[.pointer (some ⟨b, 0, none⟩), .int .i64 x] w fun e w' => e = .returned (.tuple #[]) ∧ BookAt w' b m n g (max held x) ∧ w.grownBy w' (some b) := by
  have hc1 : w.cell? ⟨b, 1, none⟩ = some (.int .i64 held) := hB.blk.cell rfl
  have hf1 := hB.blk.free 1
  have hlt := hB.lt
  go_enter Tryz.func55, Tryz.ntmps55
  go_wp2
  all_goals
    go_end0
    first
    | (rw [Int.max_eq_right (by omega)]; exact ⟨rfl, hB.held_ _, grown_setCell _ _ _ _⟩)
    | (rw [Int.max_eq_left (by omega)]; exact ⟨rfl, hB.held_ _, grown_setCell _ _ _ _⟩)
theorem grown_box {w w1 : World} {O : Obj} {N : Nat} {row : Option Nat} (h : ((w.alloc O).drewN N).grownBy w1 row) : w.grownBy w1 row :=
  ⟨h.os, h.tape, h.output, Nat.le_trans (by simp) h.size, fun k hk hne => (h.block k (by simp; omega) hne).trans (Below.heap_alloc w O k hk)⟩
theorem still_tail {P : Program} {id : Nat} {Q : Exit → Act → World → Prop} {a : Act} {w : World} {l : List Oper} (n : Nat) (hm : P.follows .mixedOrders = true) (hB : Region.lexTailB .any l.toArray n = true)
    (h : wpStill P l.toArray w.drew (fun a' => wpList P l.toArray Q (l.drop n) a' w.drew) (l.take n) a) : (Code.region id l.toArray true).wp P Q a w := wp_region_still_tail n hm hB h
/-- A grant that is later than what stands. -/
def grantI (g : Int → Int → Int) (x y v : Int) : Int → Int → Int := if g x y < v then updI g x y v else g
theorem grantI_yes {g : Int → Int → Int} {x y v : Int} (h : g x y < v) : grantI g x y v = updI g x y v := if_pos h
theorem grantI_no {g : Int → Int → Int} {x y v : Int} (h : ¬ g x y < v) : grantI g x y v = g := if_neg h
set_option maxRecDepth 100000 in
set_option maxHeartbeats 1000000 in
theorem lgrant_any {w : World} {b m n : Nat} {g : Int → Int → Int} {held x y v : Int} (hB : BookAt w b m n g held) (hn : n < maxLen) (hx : W64 x) (hy : W64 y) :
    Calls Tryz.prog 84 #[.pointer (some ⟨b, 0, none⟩), .agg #[.int .i64 x, .int .i64 y], .int .i64 v] w fun e w' => (∃ q, e = .returned (.bool q)) ∧ BookAt w' b m (n + 1) (grantI g x y v) held ∧ w.grownBy w' (some m) := by
  have hl : ∀ (O : Obj) N, (Instr.lookup 30 (.map (some m)) (.agg #[.int .i64 x, .int .i64 y]) false).run Tryz.prog ((w.alloc O).drewN N) = .ok (.int .i64 (g x y)) ((w.alloc O).drewN N) := fun O N => ((hB.alloc O).drewN N).map.look hx hy
  have hc : w.cell? ⟨b, 0, none⟩ = some (.map (some m)) := hB.blk.cell rfl
  have hlt := hB.lt
  have hbm := hB.ne
  by_cases hlt' : g x y < v
  · have HG := Lib.hid (grantI_yes hlt')
    obtain ⟨f, hf, hfg⟩ := hB.map
    have hf' : ∀ (O : Obj) N, MapM ((w.alloc O).drewN N).drew m n f := fun O _ => hf.alloc O
    have HB := Lib.hid hB.blk
    have HF := Lib.hid hfg
    clear hB hfg
    go_enter Tryz.func84, Tryz.ntmps84
    go_wp2
    go_quiet (fail)
    go_wp2
    clear hl
    refine still_tail 6 (by kernel_rfl) (by kernel_rfl) ?_
    simp only [List.take_succ_cons, List.take_zero, List.drop_succ_cons, List.drop_zero]
    repeat still_step
    refine wpStill_nil ?_
    change wpList _ _ _ _ _ _
    refine wpList_put_mem (by rfl) _ _ _ 30 (by rfl) 3 Tryz.underlying30 (by rfl) (hf' _ _) hn x y (.int .i64 v) (by rfl) (by rfl) hx hy ?_
    intro w1 hf1 hg1
    clear hf'
    go_wp2
    go_ret
    have hg : w.grownBy w1 (some m) := ⟨hg1.os, hg1.tape, hg1.output, Nat.le_trans (by simp [World.drew, World.drewN]) hg1.size, fun k hk hne => (hg1.block k (by simp [World.drew, World.drewN]; omega) hne).trans (Below.heap_alloc w _ k hk)⟩
    exact ⟨⟨_, rfl⟩, ⟨(hg.block b hlt (by simpa using hbm)).trans HB.out, _, hf1, by rw [HG.out]; exact MapI.upd HF.out x y v⟩, hg⟩
  · have HG := Lib.hid (grantI_no hlt')
    have HB := Lib.hid hB
    clear hB
    go_enter Tryz.func84, Tryz.ntmps84
    go_wp2
    go_quiet (fail)
    go_wp2
    go_ret
    have bb : Below w.heap.size w (w.alloc (.cells #[.int .i64 x, .int .i64 y] 42)) := (Below.refl _ _).alloc (Nat.le_refl _) _
    exact ⟨⟨_, rfl⟩, by rw [HG.out]; exact ((HB.out.alloc _).drewN _).mono (Nat.le_succ n), ⟨bb.os, bb.tape, bb.output, bb.size, fun k hk _ => bb.block k hk⟩⟩
set_option maxRecDepth 100000 in
set_option maxHeartbeats 1000000 in
theorem lnew_any (w : World) : Calls Tryz.prog 80 #[] w fun e w' => ∃ b m, e = .returned (.pointer (some ⟨b, 0, none⟩)) ∧ BookAt w' b m 0 (fun _ _ => 0) 0 ∧ w.heap.size ≤ b ∧ w.heap.size ≤ m ∧ Below w.heap.size w w' := by
  have hmm := @run_makeMap Tryz.prog
  go_enter Tryz.func80, Tryz.ntmps80
  go_wp2
  go_ret
  refine ⟨w.heap.size + 1, w.heap.size, by simp, ⟨?_, (MapI.made w).alloc _⟩, by omega, Nat.le_refl _, ((Below.refl _ _).alloc (Nat.le_refl _) _).alloc (by simp) _⟩
  have := heap_alloc_new (w.alloc (.map #[] 0)) (.cells #[.map (some w.heap.size), .int .i64 0] 144)
  simpa [BlkAt] using this
end Go.Proofs.YtomfmejodmfioaaGreat
