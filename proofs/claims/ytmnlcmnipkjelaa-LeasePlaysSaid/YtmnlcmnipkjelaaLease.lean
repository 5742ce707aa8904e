/- The contracts of package lease: what each call of a book computes and what it leaves of memory. No condition but that integers fit int. -/
import Derived.Test.YtmnlcmnipkjelaaFrame
import Derived.WalkKit
import Derived.WalkSpells
import Derived.WalkLawsBesides
import Derived.Maps.OwnSet
import Derived.Maps.OwnOps
import Derived.Maps.Views
import Derived.DeepKeys4
import Derived.MapViews
import Derived.BigQuiet
import Derived.StillTailTactics
import Derived.Lib.SmallJoins
import Derived.Lib.Hide
import Derived.ProofKit
import Derived.OpenShut
namespace Go.Proofs.Ytmnlcmnipkjelaa
open Go.RowKit Go.Maps Go.ChangeShapes Go.WideShapes Go.Joins

theorem still_tail {P : Program} {id : Nat} {Q : Exit → Act → World → Prop} {a : Act} {w : World} {l : List Oper} (n : Nat) (hm : P.follows .mixedOrders = true) (hB : Region.lexTailB .any l.toArray n = true)
    (h : wpStill P l.toArray w.drew (fun a' => wpList P l.toArray Q (l.drop n) a' w.drew) (l.take n) a) : (Code.region id l.toArray true).wp P Q a w := wp_region_still_tail n hm hB h

/-- An integer that fits int. -/
def W64 (x : Int) : Prop := (Lit.int .i64 x).wf = true
theorem W64.bd {x : Int} (h : W64 x) : -9223372036854775808 ≤ x ∧ x ≤ 9223372036854775807 := by
  simpa [W64, Lit.wf, IntKind.min, IntKind.max, IntKind.signed, IntKind.bits] using h
theorem W64.mk {x : Int} (h1 : -9223372036854775808 ≤ x) (h2 : x ≤ 9223372036854775807) : W64 x := by
  simpa [W64, Lit.wf, IntKind.min, IntKind.max, IntKind.signed, IntKind.bits] using And.intro h1 h2

/-! ### the key -/
def mval (x y : Int) : Value := .agg #[.int .i64 x, .int .i64 y]
def mdat (x y : Int) : DataW Unit := .agg [.lit (.int .i64 x), .lit (.int .i64 y)]
def mkey (x y : Int) : Lit := (mdat x y).asKey

theorem mem_cells : Try.prog.cellsOf 23 = 2 := by kernel_rfl
theorem mem_deep : Try.prog.keyTypeAt (Try.prog.types.size + 1) 23 = true := by kernel_rfl
theorem mem_wide : (match Try.prog.underlying 23 with | some (.array _ _) | some (.struct _) => true | _ => false) = true := by kernel_rfl
theorem mem_row : (23 : TypeId) < Try.prog.types.size := of_decide_eq_true (by kernel_rfl)
theorem mem_law : Keyed Try.prog 23 := Keyed.of_law (deep_law_laid laidOut (m := 3) (by omega) mem_row (by kernel_rfl) mem_wide)

theorem mem_key (W : World) {x y : Int} (hx : W64 x) (hy : W64 y) : keyOf Try.prog 23 (mval x y) = some (mkey x y) := by
  have hd : DataW.Trod (fun _ => ()) Try.prog W 0 (fun _ => true) true 23 (mval x y) (mdat x y) [] :=
    shut_agg2 (y0 := (.lit (.int .i64 x), [])) (y1 := (.lit (.int .i64 y), [])) Try.underlying23 (by kernel_rfl) mem_cells
      ⟨1, by simp [DataW.trod, Try.underlying3, show (Lit.int .i64 x).wf = true from hx]⟩ ⟨1, by simp [DataW.trod, Try.underlying3, show (Lit.int .i64 y).wf = true from hy]⟩
  exact (keyOf_asKey mem_deep mem_wide (by simp [Value.formed, mval, Try.underlying23, mem_cells]) hd).1

theorem mkey_isKey (W : World) {x y : Int} (hx : W64 x) (hy : W64 y) : WideAt.IsKeyLit (mkey x y) := mem_law.key (mem_key W hx hy)
theorem mkey_inj (W : World) {x y x' y' : Int} (hx : W64 x) (hy : W64 y) (hx' : W64 x') (hy' : W64 y') (h : mkey x y = mkey x' y') : x = x' ∧ y = y' := by
  have h1 := mem_key W hx hy
  have h2 := mem_key W hx' hy'
  rw [h] at h1
  have := mem_law.inj h1 h2
  simp [mval] at this
  exact this

theorem zeroInt (w : World) : (zeroValue 3).run Try.prog w = .ok (.int .i64 0) w := by kernel_rfl

/-- Block b is a book: its map lies in block m, has at most n entries, and tells f; nobody is free ahead of 'held'. -/
structure BookAt (w : World) (b m n : Nat) (f : Int → Int → Int) (held : Int) : Prop where
  blk : w.heap[b]? = some (.cells #[.map (some m), .int .i64 held] 47 (0, 0))
  map : ∃ D : DataW Unit, w.ownsMap Try.prog 23 (plainElem Try.prog 3) m n D ∧ ∀ x y, W64 x → W64 y → D.atKey (mkey x y) (.lit (.int .i64 0)) = .lit (.int .i64 (f x y))

section
variable {w w' : World} {b m n : Nat} {f : Int → Int → Int} {held : Int}
theorem BookAt.lt (h : BookAt w b m n f held) : b < w.heap.size := (Array.getElem?_eq_some_iff.1 h.blk).1
theorem BookAt.mlt (h : BookAt w b m n f held) : m < w.heap.size := by obtain ⟨D, h1, _⟩ := h.map; exact h1.lt
theorem BookAt.ne (h : BookAt w b m n f held) : b ≠ m := by
  rintro rfl
  obtain ⟨D, ⟨es, c, hb, _⟩, _⟩ := h.map
  rw [h.blk] at hb
  cases hb
theorem BookAt.kept (h : BookAt w b m n f held) (hb : w'.heap[b]? = w.heap[b]?) (hm : w'.heap[m]? = w.heap[m]?) : BookAt w' b m n f held := by
  refine ⟨hb.trans h.blk, ?_⟩
  obtain ⟨D, ⟨es, c, h1, h2, h3, h4⟩, h5⟩ := h.map
  exact ⟨D, ⟨es, c, hm.trans h1, h2, h3, h4⟩, h5⟩
theorem BookAt.below (h : BookAt w b m n f held) (hb : Below w.heap.size w w') : BookAt w' b m n f held := h.kept (hb.block _ h.lt) (hb.block _ h.mlt)
theorem BookAt.alloc (h : BookAt w b m n f held) (o : Obj) : BookAt (w.alloc o) b m n f held := h.below ((Below.refl _ _).alloc (Nat.le_refl _) o)
theorem BookAt.drewN (h : BookAt w b m n f held) (k : Nat) : BookAt (w.drewN k) b m n f held := ⟨h.blk, h.map⟩
theorem BookAt.mono (h : BookAt w b m n f held) {n' : Nat} (hn : n ≤ n') : BookAt w b m n' f held := by
  refine ⟨h.blk, ?_⟩
  obtain ⟨D, h1, h2⟩ := h.map
  exact ⟨D, h1.mono hn, h2⟩
theorem BookAt.cell0 (h : BookAt w b m n f held) : w.cell? ⟨b, 0, none⟩ = some (.map (some m)) := by
  have := h.blk
  simp [World.cell?, this]
theorem BookAt.cell1 (h : BookAt w b m n f held) : w.cell? ⟨b, 1, none⟩ = some (.int .i64 held) := by
  have := h.blk
  simp [World.cell?, this]
theorem BookAt.free (h : BookAt w b m n f held) (i : Nat) : w.frozen? ⟨b, i, none⟩ = false := by
  have := h.blk
  simp [World.frozen?, this]
theorem BookAt.look (h : BookAt w b m n f held) {x y : Int} (hx : W64 x) (hy : W64 y) :
    (Instr.lookup 45 (.map (some m)) (.agg #[.int .i64 x, .int .i64 y]) false).run Try.prog w = .ok (.int .i64 (f x y)) w ∧ W64 (f x y) := by
  obtain ⟨D, h1, h2⟩ := h.map
  obtain ⟨c, hrun, hat, hwc⟩ := h1.lookup_int mem_law Try.underlying45 Try.underlying3 (zeroInt w) (mem_key w hx hy)
  have := h2 x y hx hy
  rw [hat] at this
  have hc : c = f x y := by simpa using this
  subst hc
  exact ⟨hrun, hwc⟩
end

set_option maxHeartbeats 400000 in
theorem until_any {w : World} {b m n : Nat} {f : Int → Int → Int} {held x y : Int} (hB : BookAt w b m n f held) (hx : W64 x) (hy : W64 y) :
    Calls Try.prog 14 #[.pointer (some ⟨b, 0, none⟩), .agg #[.int .i64 x, .int .i64 y]] w fun e w' => e = .returned (.int .i64 (f x y)) ∧ BookAt w' b m n f held ∧ Below w.heap.size w w' := by
  have hl : ∀ (O : Obj) N, (Instr.lookup 45 (.map (some m)) (.agg #[.int .i64 x, .int .i64 y]) false).run Try.prog ((w.alloc O).drewN N) = .ok (.int .i64 (f x y)) ((w.alloc O).drewN N) := fun O N => (((hB.alloc O).drewN N).look hx hy).1
  have hc := hB.cell0
  have hlt := hB.lt
  have HB := Lib.hid hB
  clear hB
  go_enter Try.func14, Try.ntmps14
  go_wp2
  go_quiet (fail)
  go_wp2
  go_ret
  exact ⟨rfl, (HB.out.alloc _).drewN _, below_drewN ((Below.refl _ _).alloc (Nat.le_refl _) _) _⟩

set_option maxHeartbeats 400000 in
theorem free_any {w : World} {b m n : Nat} {f : Int → Int → Int} {held x y now : Int} (hB : BookAt w b m n f held) (hx : W64 x) (hy : W64 y) :
    Calls Try.prog 12 #[.pointer (some ⟨b, 0, none⟩), .agg #[.int .i64 x, .int .i64 y], .int .i64 now] w fun e w' => e = .returned (.bool (decide (max (f x y) held ≤ now))) ∧ BookAt w' b m n f held ∧ Below w.heap.size w w' := by
  have hl : ∀ (O : Obj) N, (Instr.lookup 45 (.map (some m)) (.agg #[.int .i64 x, .int .i64 y]) false).run Try.prog ((w.alloc O).drewN N) = .ok (.int .i64 (f x y)) ((w.alloc O).drewN N) := fun O N => (((hB.alloc O).drewN N).look hx hy).1
  have hc := hB.cell0
  have hc1 := hB.cell1
  have hlt := hB.lt
  have HB := Lib.hid hB
  clear hB
  go_enter Try.func12, Try.ntmps12
  go_wp2
  go_quiet (fail)
  go_wp2
  all_goals
    go_ret
    first
    | (rw [Int.max_eq_right (by omega)]; exact ⟨rfl, (HB.out.alloc _).drewN _, below_drewN ((Below.refl _ _).alloc (Nat.le_refl _) _) _⟩)
    | (rw [Int.max_eq_left (by omega)]; exact ⟨rfl, (HB.out.alloc _).drewN _, below_drewN ((Below.refl _ _).alloc (Nat.le_refl _) _) _⟩)

theorem grown_setCell (w : World) (b i : Nat) (u : Value) : w.grownBy (w.setCell ⟨b, i, none⟩ u) (some b) :=
  ⟨rfl, rfl, rfl, by simp [World.setCell], fun k _ hk => Below.heap_setCell _ _ _ _ (fun e => hk (by rw [e]))⟩

theorem BookAt.held_ {w : World} {b m n : Nat} {f : Int → Int → Int} {held : Int} (h : BookAt w b m n f held) (x : Int) : BookAt (w.setCell ⟨b, 1, none⟩ (.int .i64 x)) b m n f x := by
  have hne := h.ne
  refine ⟨by have := h.blk; simp [World.setCell, Array.getElem?_modify, this], ?_⟩
  obtain ⟨D, h1, h2⟩ := h.map
  exact ⟨D, h1.setCell (a := ⟨b, 1, none⟩) (fun e => hne e.symm) _, h2⟩

set_option maxHeartbeats 400000 in
theorem hold_any {w : World} {b m n : Nat} {f : Int → Int → Int} {held x : Int} (hB : BookAt w b m n f held) :
    Calls Try.prog 16 #[.pointer (some ⟨b, 0, none⟩), .int .i64 x] w fun e w' => e = .returned (.tuple #[]) ∧ BookAt w' b m n f (max held x) ∧ w.grownBy w' (some b) := by
  have hc1 := hB.cell1
  have hf1 := hB.free 1
  have hlt := hB.lt
  go_enter Try.func16, Try.ntmps16
  go_wp2
  all_goals
    go_end0
    first
    | (rw [Int.max_eq_right (by omega)]; exact ⟨rfl, hB.held_ _, grown_setCell _ _ _ _⟩)
    | (rw [Int.max_eq_left (by omega)]; exact ⟨rfl, hB.held_ _, grown_setCell _ _ _ _⟩)

/-- f with one place turned. -/
def upd (f : Int → Int → Int) (x y v : Int) : Int → Int → Int := fun x' y' => if x' = x ∧ y' = y then v else f x' y'
theorem upd_same (f : Int → Int → Int) (x y v : Int) : upd f x y v x y = v := by simp [upd]
theorem upd_upd (f : Int → Int → Int) (x y u v : Int) : upd (upd f x y u) x y v = upd f x y v := by
  funext x' y'
  by_cases h : x' = x ∧ y' = y <;> simp [upd, h]
theorem upd_other (f : Int → Int → Int) {x y v x' y' : Int} (h : ¬ (x' = x ∧ y' = y)) : upd f x y v x' y' = f x' y' := by simp [upd, h]

theorem grant_map {w w' : World} {b m n : Nat} {f : Int → Int → Int} {held x y v : Int} (h : BookAt w b m n f held) (hx : W64 x) (hy : W64 y) {D : DataW Unit} (hm : Maps.IsMap D)
    (hD : ∀ x y, W64 x → W64 y → D.atKey (mkey x y) (.lit (.int .i64 0)) = .lit (.int .i64 (f x y)))
    (hown : w'.ownsMap Try.prog 23 (plainElem Try.prog 3) m (n + 1) (D.put (mkey x y) (.lit (.int .i64 v)))) (hg : w.grownBy w' (some m)) : BookAt w' b m (n + 1) (upd f x y v) held := by
  have hne := h.ne
  refine ⟨(hg.block b h.lt (by simpa using hne)).trans h.blk, _, hown, fun x' y' hx' hy' => ?_⟩
  by_cases e : x' = x ∧ y' = y
  · obtain ⟨rfl, rfl⟩ := e
    rw [upd_same, Maps.atKey_put_same hm (mkey_isKey w hx hy)]
  · rw [upd_other f e, Maps.atKey_put_other (fun h => e (mkey_inj w hx' hy' hx hy h)), hD x' y' hx' hy']

theorem grown_box {w w1 : World} {O : Obj} {N : Nat} {row : Option Nat} (h : ((w.alloc O).drewN N).grownBy w1 row) : w.grownBy w1 row :=
  ⟨h.os, h.tape, h.output, Nat.le_trans (by simp) h.size, fun k hk hne => (h.block k (by simp; omega) hne).trans (Below.heap_alloc w O k hk)⟩

theorem grown_box' {w w1 : World} {O : Obj} {N : Nat} {row : Option Nat} (h : ((w.alloc O).drewN N).drew.grownBy w1 row) : w.grownBy w1 row :=
  ⟨h.os, h.tape, h.output, Nat.le_trans (by simp) h.size, fun k hk hne => (h.block k (by simp; omega) hne).trans (Below.heap_alloc w O k hk)⟩

theorem forget_map {w w' : World} {b m n : Nat} {f : Int → Int → Int} {held x y : Int} (h : BookAt w b m n f held) (hx : W64 x) (hy : W64 y) {D : DataW Unit}
    (hD : ∀ x y, W64 x → W64 y → D.atKey (mkey x y) (.lit (.int .i64 0)) = .lit (.int .i64 (f x y)))
    (hown : w'.ownsMap Try.prog 23 (plainElem Try.prog 3) m n (D.del (mkey x y))) (hg : w.grownBy w' (some m)) : BookAt w' b m n (upd f x y 0) held := by
  have hne := h.ne
  refine ⟨(hg.block b h.lt (by simpa using hne)).trans h.blk, _, hown, fun x' y' hx' hy' => ?_⟩
  by_cases e : x' = x ∧ y' = y
  · obtain ⟨rfl, rfl⟩ := e
    rw [upd_same, Maps.atKey_del_same]
  · rw [upd_other f e, Maps.atKey_del_other (fun h => e (mkey_inj w hx' hy' hx hy h)), hD x' y' hx' hy']

theorem BookAt.drew {w : World} {b m n : Nat} {f : Int → Int → Int} {held : Int} (h : BookAt w b m n f held) : BookAt w.drew b m n f held := ⟨h.blk, h.map⟩

set_option maxHeartbeats 400000 in
theorem grant_yes {w : World} {b m n : Nat} {f : Int → Int → Int} {held x y v : Int} (hB : BookAt w b m n f held) (hn : n < maxLen) (hx : W64 x) (hy : W64 y) (hv : W64 v) (hlt' : f x y < v) :
    Calls Try.prog 10 #[.pointer (some ⟨b, 0, none⟩), .agg #[.int .i64 x, .int .i64 y], .int .i64 v] w fun e w' => e = .returned (.bool true) ∧ BookAt w' b m (n + 1) (upd f x y v) held ∧ w.grownBy w' (some m) := by
  have hl : ∀ (O : Obj) N, (Instr.lookup 45 (.map (some m)) (.agg #[.int .i64 x, .int .i64 y]) false).run Try.prog ((w.alloc O).drewN N) = .ok (.int .i64 (f x y)) ((w.alloc O).drewN N) := fun O N => (((hB.alloc O).drewN N).look hx hy).1
  have hc := hB.cell0
  have hlt := hB.lt
  have hk := mem_key w hx hy
  obtain ⟨D, hown, hD⟩ := hB.map
  have hm := hown.isMap
  have hown' : ∀ (O : Obj) N, ((w.alloc O).drewN N).drew.ownsMap Try.prog 23 (plainElem Try.prog 3) m n D := fun O _ => hown.alloc O
  have HB := Lib.hid hB
  have HD := Lib.hid hD
  clear hB hD
  go_enter Try.func10, Try.ntmps10
  go_wp2
  go_quiet (fail)
  go_wp2
  clear hl
  refine still_tail 6 (by kernel_rfl) (by kernel_rfl) ?_
  simp only [List.take_succ_cons, List.take_zero, List.drop_succ_cons, List.drop_zero]
  repeat still_step
  refine wpStill_nil ?_
  change wpList _ _ _ _ _ _
  refine wpList_mapUpdate_own _ (by rfl) _ _ _ 45 (by rfl) 23 3 mem_law Try.underlying45 (plainElem Try.prog 3) m n D (by rfl) (hown' _ _) hn (mval x y) (.int .i64 v) (mkey x y) (by rfl) (by rfl) hk _ [] (plainElem_int Try.underlying3 hv) ?_
  intro w1 hown1 hg1
  clear hown hown'
  go_wp2
  go_ret
  have hg := grown_box' hg1
  exact ⟨rfl, grant_map HB.out hx hy hm HD.out hown1 hg, hg⟩

set_option maxHeartbeats 400000 in
theorem grant_no {w : World} {b m n : Nat} {f : Int → Int → Int} {held x y v : Int} (hB : BookAt w b m n f held) (hx : W64 x) (hy : W64 y) (hlt' : v ≤ f x y) :
    Calls Try.prog 10 #[.pointer (some ⟨b, 0, none⟩), .agg #[.int .i64 x, .int .i64 y], .int .i64 v] w fun e w' => e = .returned (.bool false) ∧ BookAt w' b m n f held ∧ Below w.heap.size w w' := by
  have hl : ∀ (O : Obj) N, (Instr.lookup 45 (.map (some m)) (.agg #[.int .i64 x, .int .i64 y]) false).run Try.prog ((w.alloc O).drewN N) = .ok (.int .i64 (f x y)) ((w.alloc O).drewN N) := fun O N => (((hB.alloc O).drewN N).look hx hy).1
  have hc := hB.cell0
  have hlt := hB.lt
  have HB := Lib.hid hB
  clear hB
  go_enter Try.func10, Try.ntmps10
  go_wp2
  go_quiet (fail)
  go_wp2
  go_ret
  exact ⟨rfl, (HB.out.alloc _).drewN _, below_drewN ((Below.refl _ _).alloc (Nat.le_refl _) _) _⟩

set_option maxHeartbeats 400000 in
theorem forget_any {w : World} {b m n : Nat} {f : Int → Int → Int} {held x y : Int} (hB : BookAt w b m n f held) (hx : W64 x) (hy : W64 y) :
    Calls Try.prog 17 #[.pointer (some ⟨b, 0, none⟩), .agg #[.int .i64 x, .int .i64 y]] w fun e w' => e = .returned (.tuple #[]) ∧ BookAt w' b m n (upd f x y 0) held ∧ w.grownBy w' (some m) := by
  have hc := hB.cell0
  have hlt := hB.lt
  have hk := mem_key w hx hy
  obtain ⟨D, hown, hD⟩ := hB.map
  have hown' : ∀ (O : Obj), (w.alloc O).drew.ownsMap Try.prog 23 (plainElem Try.prog 3) m n D := fun O => hown.alloc O
  have HB := Lib.hid hB
  have HD := Lib.hid hD
  clear hB hD hown
  go_enter Try.func17, Try.ntmps17
  go_wp2
  refine still_tail 5 (by kernel_rfl) (by kernel_rfl) ?_
  simp only [List.take_succ_cons, List.take_zero, List.drop_succ_cons, List.drop_zero]
  repeat still_step
  refine wpStill_nil ?_
  change wpList _ _ _ _ _ _
  refine wpList_delete_own _ (by rfl) _ _ 45 23 (by rfl) 3 mem_law Try.underlying45 _ m n D (by rfl) (hown' _) (mval x y) (mkey x y) (by rfl) hk ?_
  intro w1 hown1 ht1
  clear hown'
  go_wp2
  go_end0
  have hg := grown_box (N := 1) (O := .cells #[.int .i64 x, .int .i64 y] 23) ht1.grown
  exact ⟨rfl, forget_map HB.out hx hy HD.out hown1 hg, hg⟩

set_option maxHeartbeats 400000 in
theorem new_any (w : World) : Calls Try.prog 9 #[] w fun e w' => ∃ b m, e = .returned (.pointer (some ⟨b, 0, none⟩)) ∧ BookAt w' b m 0 (fun _ _ => 0) 0 ∧ w.heap.size ≤ b ∧ w.heap.size ≤ m ∧ Below w.heap.size w w' := by
  have hmm := @run_makeMap Try.prog
  go_enter Try.func9, Try.ntmps9
  go_wp2
  go_ret
  refine ⟨w.heap.size + 1, w.heap.size, by simp, ⟨?_, .map [], (World.ownsMap_made w _ _ _).alloc _, fun _ _ _ _ => by simp [DataW.atKey]⟩, by omega, Nat.le_refl _, ((Below.refl _ _).alloc (Nat.le_refl _) _).alloc (by simp) _⟩
  have := heap_alloc_new (w.alloc (.map #[] 0)) (.cells #[.map (some w.heap.size), .int .i64 0] 47)
  simpa using this

/-- Whether somebody may lean on a lease. -/
def validB (clock till skew : Int) : Bool := decide (0 ≤ clock ∧ clock ≤ 1099511627776 ∧ 0 ≤ skew ∧ skew ≤ 1099511627776 ∧ clock + skew < till)

theorem validB_yes {clock till skew : Int} (h : 0 ≤ clock ∧ clock ≤ 1099511627776 ∧ 0 ≤ skew ∧ skew ≤ 1099511627776 ∧ clock + skew < till) : validB clock till skew = true := decide_eq_true h
theorem validB_no {clock till skew : Int} (h : ¬ (0 ≤ clock ∧ clock ≤ 1099511627776 ∧ 0 ≤ skew ∧ skew ≤ 1099511627776 ∧ clock + skew < till)) : validB clock till skew = false := decide_eq_false h

set_option maxHeartbeats 400000 in
theorem valid_any (clock till skew : Int) (w : World) : Calls Try.prog 11 #[.int .i64 clock, .int .i64 till, .int .i64 skew] w fun e w' => e = .returned (.bool (validB clock till skew)) ∧ w = w' := by
  by_cases h1 : 0 ≤ clock
  · by_cases h2 : clock ≤ 1099511627776
    · by_cases h3 : 0 ≤ skew
      · by_cases h4 : skew ≤ 1099511627776
        · by_cases h5 : clock + skew < till
          · go_enter Try.func11, Try.ntmps11
            go_wp2
            go_ret
            exact ⟨by first | (rw [validB_no (by omega)]; rfl) | (rw [validB_yes (by omega)]; rfl), rfl⟩
          · go_enter Try.func11, Try.ntmps11
            go_wp2
            go_ret
            exact ⟨by first | (rw [validB_no (by omega)]; rfl) | (rw [validB_yes (by omega)]; rfl), rfl⟩
        · go_enter Try.func11, Try.ntmps11
          go_wp2
          go_ret
          exact ⟨by first | (rw [validB_no (by omega)]; rfl) | (rw [validB_yes (by omega)]; rfl), rfl⟩
      · go_enter Try.func11, Try.ntmps11
        go_wp2
        go_ret
        exact ⟨by first | (rw [validB_no (by omega)]; rfl) | (rw [validB_yes (by omega)]; rfl), rfl⟩
    · go_enter Try.func11, Try.ntmps11
      go_wp2
      go_ret
      exact ⟨by first | (rw [validB_no (by omega)]; rfl) | (rw [validB_yes (by omega)]; rfl), rfl⟩
  · go_enter Try.func11, Try.ntmps11
    go_wp2
    go_ret
    exact ⟨by first | (rw [validB_no (by omega)]; rfl) | (rw [validB_yes (by omega)]; rfl), rfl⟩

/-! ### a book that is none -/
set_option maxHeartbeats 400000 in
theorem until_nil (x y : Int) (w : World) : Calls Try.prog 14 #[.pointer none, .agg #[.int .i64 x, .int .i64 y]] w fun e w' => e = .returned (.int .i64 0) ∧ Below w.heap.size w w' := by
  go_enter Try.func14, Try.ntmps14
  go_wp2
  go_ret
  exact ⟨rfl, (Below.refl _ _).alloc (Nat.le_refl _) _⟩

set_option maxHeartbeats 400000 in
theorem free_nil (x y now : Int) (w : World) : Calls Try.prog 12 #[.pointer none, .agg #[.int .i64 x, .int .i64 y], .int .i64 now] w fun e w' => e = .returned (.bool false) ∧ Below w.heap.size w w' := by
  go_enter Try.func12, Try.ntmps12
  go_wp2
  go_quiet (fail)
  go_wp2
  go_ret
  exact ⟨rfl, below_drewN ((Below.refl _ _).alloc (Nat.le_refl _) _) _⟩

set_option maxHeartbeats 400000 in
theorem grant_nil (x y v : Int) (w : World) : Calls Try.prog 10 #[.pointer none, .agg #[.int .i64 x, .int .i64 y], .int .i64 v] w fun e w' => e = .returned (.bool false) ∧ Below w.heap.size w w' := by
  go_enter Try.func10, Try.ntmps10
  go_wp2
  go_quiet (fail)
  go_wp2
  go_ret
  exact ⟨rfl, below_drewN ((Below.refl _ _).alloc (Nat.le_refl _) _) _⟩

set_option maxHeartbeats 400000 in
theorem hold_nil (v : Int) (w : World) : Calls Try.prog 16 #[.pointer none, .int .i64 v] w fun e w' => e = .returned (.tuple #[]) ∧ Below w.heap.size w w' := by
  go_enter Try.func16, Try.ntmps16
  go_wp2
  go_end0
  exact ⟨rfl, Below.refl _ _⟩

set_option maxHeartbeats 400000 in
theorem forget_nil (x y : Int) (w : World) : Calls Try.prog 17 #[.pointer none, .agg #[.int .i64 x, .int .i64 y]] w fun e w' => e = .returned (.tuple #[]) ∧ Below w.heap.size w w' := by
  go_enter Try.func17, Try.ntmps17
  go_wp2
  go_end0
  exact ⟨rfl, (Below.refl _ _).alloc (Nat.le_refl _) _⟩

end Go.Proofs.Ytmnlcmnipkjelaa
