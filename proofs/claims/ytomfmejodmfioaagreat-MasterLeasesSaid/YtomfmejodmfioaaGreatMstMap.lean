/- Maps of members: what a map tells, read and written; no program but the key's type. -/
import Derived.Test.YtomfmejodmfioaaGreatKOp1
import Derived.Maps.OwnSet
import Derived.Maps.OwnOps
import Derived.Maps.Views
import Derived.DeepKeys4
import Derived.MapViews
import Derived.WalkKit
namespace Go.Proofs.YtomfmejodmfioaaGreat
open Go.RowKit Go.Maps Go.ChangeShapes Go.WideShapes Go.Joins
set_option linter.unusedVariables false

/-! ### the key -/
def mval (x y : Int) : Value := .agg #[.int .i64 x, .int .i64 y]
def mdat (x y : Int) : DataW Unit := .agg [.lit (.int .i64 x), .lit (.int .i64 y)]
def mkey (x y : Int) : Lit := (mdat x y).asKey
theorem mem_cells : Tryz.prog.cellsOf 42 = 2 := by kernel_rfl
theorem mem_deep : Tryz.prog.keyTypeAt (Tryz.prog.types.size + 1) 42 = true := by kernel_rfl
theorem mem_wide : (match Tryz.prog.underlying 42 with | some (.array _ _) | some (.struct _) => true | _ => false) = true := by kernel_rfl
theorem mem_row : (42 : TypeId) < Tryz.prog.types.size := of_decide_eq_true (by kernel_rfl)
set_option maxRecDepth 100000 in
theorem mem_law : Keyed Tryz.prog 42 := Keyed.of_law (deep_law_laid laidOut (m := 3) (by omega) mem_row (by kernel_rfl) mem_wide)
set_option maxRecDepth 100000 in
theorem mem_keyW (W : World) {x y : Int} (hx : W64 x) (hy : W64 y) : keyOf Tryz.prog 42 (mval x y) = some (mkey x y) := by
  have hd : DataW.Trod (fun _ => ()) Tryz.prog W 0 (fun _ => true) true 42 (mval x y) (mdat x y) [] :=
    shut_agg2 (y0 := (.lit (.int .i64 x), [])) (y1 := (.lit (.int .i64 y), [])) Tryz.underlying42 (by kernel_rfl) mem_cells
      ⟨1, by simp [DataW.trod, Tryz.underlying3, show (Lit.int .i64 x).wf = true from hx]⟩ ⟨1, by simp [DataW.trod, Tryz.underlying3, show (Lit.int .i64 y).wf = true from hy]⟩
  exact (keyOf_asKey mem_deep mem_wide (by simp [Value.formed, mval, Tryz.underlying42, mem_cells]) hd).1
theorem mem_key {x y : Int} (hx : W64 x) (hy : W64 y) : keyOf Tryz.prog 42 (mval x y) = some (mkey x y) := mem_keyW default hx hy
theorem mkey_isKey {x y : Int} (hx : W64 x) (hy : W64 y) : WideAt.IsKeyLit (mkey x y) := mem_law.key (mem_key hx hy)
theorem mkey_inj {x y x' y' : Int} (hx : W64 x) (hy : W64 y) (hx' : W64 x') (hy' : W64 y') (h : mkey x y = mkey x' y') : x = x' ∧ y = y' := by
  have h1 := mem_key hx hy
  have h2 := mem_key hx' hy'
  rw [h] at h1
  have := mem_law.inj h1 h2
  simp [mval] at this
  exact this

/-- An element is held as it is. -/
def hElem (v : Value) : Option (DataW Value × List MemPlace) := some (.held v, [])
/-- One place turned. -/
def updV (f : Int → Int → Option Value) (x y : Int) (v : Value) : Int → Int → Option Value := fun x' y' => if x' = x ∧ y' = y then some v else f x' y'
/-- Block m is a map of members of at most n entries, and tells f. -/
def MapM (w : World) (m n : Nat) (f : Int → Int → Option Value) : Prop :=
  ∃ D : DataW Value, w.ownsMap Tryz.prog 42 hElem m n D ∧ ∀ x y, W64 x → W64 y → Maps.has D (mkey x y) = (f x y).isSome ∧ ∀ z, D.atKey (mkey x y) (.held z) = .held ((f x y).getD z)
section
variable {w w' : World} {m n : Nat} {f : Int → Int → Option Value}
theorem MapM.lt (h : MapM w m n f) : m < w.heap.size := by obtain ⟨D, h1, _⟩ := h; exact h1.lt
theorem MapM.isMap (h : MapM w m n f) : ∃ es c, w.heap[m]? = some (.map es c) := by
  obtain ⟨D, ⟨es, c, h1, _⟩, _⟩ := h
  exact ⟨es, c, h1⟩
theorem MapM.kept (h : MapM w m n f) (hm : w'.heap[m]? = w.heap[m]?) : MapM w' m n f := by
  obtain ⟨D, ⟨es, c, h1, h2, h3, h4⟩, h5⟩ := h
  exact ⟨D, ⟨es, c, hm.trans h1, h2, h3, h4⟩, h5⟩
theorem MapM.below (h : MapM w m n f) (hb : Below w.heap.size w w') : MapM w' m n f := h.kept (hb.block _ h.lt)
theorem MapM.grown {r : Option Nat} (h : MapM w m n f) (hg : w.grownBy w' r) (hr : some m ≠ r) : MapM w' m n f := h.kept (hg.block _ h.lt hr)
theorem MapM.alloc (h : MapM w m n f) (o : Obj) : MapM (w.alloc o) m n f := h.below ((Below.refl _ _).alloc (Nat.le_refl _) o)
theorem MapM.drewN (h : MapM w m n f) (k : Nat) : MapM (w.drewN k) m n f := h
theorem MapM.drew (h : MapM w m n f) : MapM w.drew m n f := h
theorem MapM.mono (h : MapM w m n f) {n' : Nat} (hn : n ≤ n') : MapM w m n' f := by
  obtain ⟨D, h1, h2⟩ := h
  exact ⟨D, h1.mono hn, h2⟩
theorem MapM.made (w : World) : MapM (w.alloc (.map #[] 0)) w.heap.size 0 (fun _ _ => none) := ⟨.map [], World.ownsMap_made w _ _ _, fun _ _ _ _ => ⟨by simp [Maps.has], fun z => by simp [DataW.atKey]⟩⟩
/-- 'm[k]': the world does not turn. -/
theorem MapM.look (h : MapM w m n f) {t e : TypeId} (ht : Tryz.prog.underlying t = some (.map 42 e)) {z : Value} (hz : (zeroValue e).run Tryz.prog w = .ok z w) {x y : Int} (hx : W64 x) (hy : W64 y) :
    (Instr.lookup t (.map (some m)) (.agg #[.int .i64 x, .int .i64 y]) false).run Tryz.prog w = .ok ((f x y).getD z) w := by
  obtain ⟨D, h1, h2⟩ := h
  obtain ⟨v, ps, hrun, hR⟩ := h1.lookup mem_law ht hz (zd := .held z) (zp := []) rfl (mem_key hx hy)
  rw [(h2 x y hx hy).2 z] at hR
  simp only [hElem, Option.some.injEq, Prod.mk.injEq, DataW.held.injEq] at hR
  rw [← hR.1]
  exact hrun
/-- 'v, ok := m[k]'. -/
theorem MapM.look_ok (h : MapM w m n f) {t e : TypeId} (ht : Tryz.prog.underlying t = some (.map 42 e)) {z : Value} (hz : (zeroValue e).run Tryz.prog w = .ok z w) {x y : Int} (hx : W64 x) (hy : W64 y) :
    (Instr.lookup t (.map (some m)) (.agg #[.int .i64 x, .int .i64 y]) true).run Tryz.prog w = .ok (.tuple #[(f x y).getD z, .bool (f x y).isSome]) w := by
  obtain ⟨D, h1, h2⟩ := h
  obtain ⟨v, ps, hrun, hR⟩ := h1.look_ok mem_law ht hz (zd := .held z) (zp := []) rfl (mem_key hx hy)
  rw [(h2 x y hx hy).2 z] at hR
  rw [(h2 x y hx hy).1] at hrun
  simp only [hElem, Option.some.injEq, Prod.mk.injEq, DataW.held.injEq] at hR
  rw [← hR.1]
  exact hrun
theorem MapM.put_data {D : DataW Value} (hm : Maps.IsMap D) (hD : ∀ x y, W64 x → W64 y → Maps.has D (mkey x y) = (f x y).isSome ∧ ∀ z, D.atKey (mkey x y) (.held z) = .held ((f x y).getD z)) {x y : Int} (hx : W64 x) (hy : W64 y) (v : Value)
    (hown : w'.ownsMap Tryz.prog 42 hElem m (n + 1) (D.put (mkey x y) (.held v))) : MapM w' m (n + 1) (updV f x y v) := by
  refine ⟨_, hown, fun x' y' hx' hy' => ?_⟩
  by_cases e : x' = x ∧ y' = y
  · obtain ⟨rfl, rfl⟩ := e
    refine ⟨?_, fun z => ?_⟩
    · rw [Maps.has_put_same hm (mkey_isKey hx hy)]; simp [updV]
    · rw [Maps.atKey_put_same hm (mkey_isKey hx hy)]; simp [updV]
  · have hne : mkey x' y' ≠ mkey x y := fun h => e (mkey_inj hx' hy' hx hy h)
    refine ⟨?_, fun z => ?_⟩
    · rw [Maps.has_put_other hne, (hD x' y' hx' hy').1]; simp [updV, e]
    · rw [Maps.atKey_put_other hne, (hD x' y' hx' hy').2]; simp [updV, e]
/-- 'm[k] = v'. -/
theorem MapM.store (h : MapM w m n f) {t e : TypeId} (ht : Tryz.prog.underlying t = some (.map 42 e)) (hn : n < maxLen) {x y : Int} (hx : W64 x) (hy : W64 y) (v : Value) :
    ∃ w', (Instr.mapUpdate t (.map (some m)) (.agg #[.int .i64 x, .int .i64 y]) v).run Tryz.prog w = .ok () w' ∧ MapM w' m (n + 1) (updV f x y v) ∧ w.grownBy w' (some m) := by
  obtain ⟨D, h1, h2⟩ := h
  obtain ⟨w', hrun, hown, hg⟩ := h1.update mem_law ht hn (mem_key hx hy) (val := v) (d := .held v) (ps := []) rfl
  exact ⟨w', hrun, MapM.put_data h1.isMap h2 hx hy v hown, hg⟩
end
/-- 'm[k] = v' at the operation, for the walk. -/
theorem wpList_put_mem {w : World} {ops : Array Oper} {rest : List Oper} {o : Oper} {a : Act} {Q : Exit → Act → World → Prop}
    (hg : o.guard = none) (mo xo vo : Operand) (t : TypeId) (hop : o.op = Op.mapUpdate t mo xo vo) (e : TypeId) (ht : Tryz.prog.underlying t = some (.map 42 e)) {m n : Nat} {f : Int → Int → Option Value}
    (hm : a.eval mo = .map (some m)) (h : MapM w m n f) (hn : n < maxLen) (x y : Int) (v : Value) (hxe : a.eval xo = .agg #[.int .i64 x, .int .i64 y]) (hve : a.eval vo = v) (hx : W64 x) (hy : W64 y)
    (hK : ∀ w', MapM w' m (n + 1) (updV f x y v) → w.grownBy w' (some m) → wpList Tryz.prog ops Q rest (a.put o.dst undef) w') :
    wpList Tryz.prog ops Q (o :: rest) a w := by
  refine wpList_plain hg fun K' hK' => ?_
  obtain ⟨w', hrun, r1, r2⟩ := h.store ht hn hx hy v
  unfold Oper.wp
  simp [execOp, hop, hm, hxe, hve, hrun, Result.andThen]
  exact hK' _ _ (hK w' r1 r2)
end Go.Proofs.YtomfmejodmfioaaGreat
