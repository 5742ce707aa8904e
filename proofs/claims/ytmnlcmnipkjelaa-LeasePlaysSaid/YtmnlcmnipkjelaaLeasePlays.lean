/- LeasePlays: for every script of calls the law answers true. No condition. -/
import Derived.Test.YtmnlcmnipkjelaaLeaseRef
import Derived.Test.YtmnlcmnipkjelaaLeaseAwake
import Derived.Deep.Slices
namespace Go.Proofs.Ytmnlcmnipkjelaa
open Go.RowKit Go.Maps Go.ChangeShapes Go.WideShapes Go.Joins Go.Deep
set_option linter.unusedVariables false

theorem addr_add (b off n : Nat) : (⟨b, off, none⟩ : Addr).add n = ⟨b, off + n, none⟩ := by
  unfold Addr.add
  split <;> simp_all

/-- A call: its kind, its number, its member. -/
abbrev LCall := Int × Int × Int × Int
def LCallOk (o : LCall) : Prop := W64 o.1 ∧ W64 o.2.1 ∧ W64 o.2.2.1 ∧ W64 o.2.2.2

def OpRow (w : World) (a : Option Addr) (len : Nat) : Prop :=
  len ≤ maxLen ∧ (0 < len → ∃ b off, a = some ⟨b, off, none⟩ ∧ b < w.heap.size ∧ ∀ i, i < len → ∃ o : LCall, LCallOk o ∧ w.cell? ⟨b, off + i * 4, none⟩ = some (.int .i64 o.1) ∧ w.cell? ⟨b, off + i * 4 + 1, none⟩ = some (.int .i64 o.2.1) ∧
    w.cell? ⟨b, off + i * 4 + 2, none⟩ = some (.int .i64 o.2.2.1) ∧ w.cell? ⟨b, off + i * 4 + 3, none⟩ = some (.int .i64 o.2.2.2))

theorem trod_one_int {H : Type} {enc : TypeId × Value → H} {W : World} {base : Nat} {sp : Nat → Bool} {hd : Bool} {n : Nat} {c : Value} {x : DataW H × List MemPlace} (h : DataW.trod enc Try.prog W base sp hd n 3 [c] = some x) : ∃ z, c = .int .i64 z ∧ W64 z := by
  obtain ⟨z, g, rfl, w⟩ := DataW.trod_int Try.underlying3 h
  simp at g
  exact ⟨z, g, w⟩

theorem open_oprow {H : Type} {enc : TypeId × Value → H} {W : World} {base : Nat} {v : Value} {d : DataW H} {p : List MemPlace} (hv : Value.okWide Try.prog W .any base 35 v)
    (h : DataW.Trod enc Try.prog W 0 (fun _ => true) true 35 v d p) : ∃ a len cap, v = .slice a len cap ∧ OpRow W a len := by
  obtain ⟨a0, len0, cap0, rfl⟩ := okWide_slice Try.underlying35 hv
  obtain ⟨fuel, hf⟩ := h
  rcases open_slice Try.underlying35 hf with ⟨hcs, _⟩ | ⟨a, len, cap, m, n, D, Pl, hcs, _, hl, hm, hmm, _, hi⟩
  · simp [Value.cells] at hcs
    obtain ⟨rfl, rfl, rfl⟩ := hcs
    exact ⟨none, 0, 0, rfl, Nat.zero_le _, by omega⟩
  · simp [Value.cells] at hcs
    obtain ⟨rfl, rfl, rfl⟩ := hcs
    have hmc : m = cap0 := by simpa using hmm
    subst hmc
    refine ⟨some a, len0, m, rfl, by omega, fun hpos => ?_⟩
    have hC : Try.prog.cellsOf 41 = 4 := by kernel_rfl
    have key : ∀ i, i < len0 → ∃ o : LCall, LCallOk o ∧ W.cell? ((a.add (i * 4)).add 0) = some (.int .i64 o.1) ∧ W.cell? ((a.add (i * 4)).add 1) = some (.int .i64 o.2.1) ∧ W.cell? ((a.add (i * 4)).add 2) = some (.int .i64 o.2.2.1) ∧ W.cell? ((a.add (i * 4)).add 3) = some (.int .i64 o.2.2.2) := by
      intro i hil
      obtain ⟨cs', hc, ht⟩ := hi i (by omega)
      rw [hC] at hc
      obtain ⟨_, hlen, hcell⟩ := World.cells?_some hc
      obtain ⟨ys, n', rfl, _, _, hyl, hg⟩ := DataW.trod_struct Try.underlying41 ht
      match cs', hlen with
      | [c0, c1, c2, c3], _ =>
        have g0 := hg 0 _ rfl
        have g1 := hg 1 _ rfl
        have g2 := hg 2 _ rfl
        have k1 : Try.prog.cellsOf 3 = 1 := by kernel_rfl
        have k2 : Try.prog.cellsOf 23 = 2 := by kernel_rfl
        simp [k1, k2] at g0 g1 g2
        rw [List.getElem?_eq_getElem (by rw [hyl]; decide)] at g0 g1 g2
        obtain ⟨z0, rfl, w0⟩ := trod_one_int g0
        obtain ⟨z1, rfl, w1⟩ := trod_one_int g1
        obtain ⟨zs, n2, rfl, _, _, hzl, hz⟩ := DataW.trod_struct Try.underlying23 g2
        have f0 := hz 0 _ rfl
        have f1 := hz 1 _ rfl
        simp [k1] at f0 f1
        rw [List.getElem?_eq_getElem (by rw [hzl]; decide)] at f0 f1
        obtain ⟨z2, rfl, w2⟩ := trod_one_int f0
        obtain ⟨z3, rfl, w3⟩ := trod_one_int f1
        exact ⟨(z0, z1, z2, z3), ⟨w0, w1, w2, w3⟩, hcell 0 (by omega), hcell 1 (by omega), hcell 2 (by omega), hcell 3 (by omega)⟩
    obtain ⟨b, off, spot⟩ := a
    obtain ⟨o, _, h0, _⟩ := key 0 hpos
    have hspot : spot = none := by simpa [Addr.add] using World.cell?_spot h0
    subst hspot
    refine ⟨b, off, rfl, by have := World.block_lt_of_cell? _ _ h0; simpa [Addr.add] using this, fun i hil => ?_⟩
    obtain ⟨o, ok, h0, h1, h2, h3⟩ := key i hil
    rw [addr_add, addr_add] at h0 h1 h2 h3
    exact ⟨o, ok, h0, h1, h2, h3⟩

/-- A book stays what it is while a map's block, or another book's, turns. -/
theorem RBookAt.grown {w w' : World} {base c m : Nat} {rows : List LRow} {held : Int} (h : RBookAt w base c rows held) (hg : w.grownBy w' (some m)) (hc : c ≠ m) (hm : ∀ cs fr, w.heap[m]? ≠ some (.cells cs 49 fr)) : RBookAt w' base c rows held := by
  obtain ⟨v, h1, h2⟩ := h.ex
  refine ⟨v, (hg.block c h.lt (by simpa using hc)).trans h1, h2.kept hg ?_⟩
  right
  intro e
  rcases h2.2 with ⟨rfl, _⟩ | ⟨g, cap, cur, rfl, _, hgg, _⟩
  · cases e
  · simp [Value.ownBlock] at e
    subst e
    exact hm _ _ hgg

/-- The two books at one time: they tell alike. -/
structure LPair (w0 w : World) (b m c base n : Nat) (f : Int → Int → Int) (rows : List LRow) (held : Int) : Prop where
  B : BookAt w b m n f held
  R : RBookAt w base c rows held
  eq : ∀ x y, W64 x → W64 y → f x y = rUntil rows x y
  bel : Below w0.heap.size w0 w
  hb : w0.heap.size ≤ b
  hm : w0.heap.size ≤ m
  hc : w0.heap.size ≤ c
  hbase : base ≤ w.heap.size

section
variable {w0 w w' : World} {b m c base n : Nat} {f : Int → Int → Int} {rows : List LRow} {held : Int}
theorem LPair.below (h : LPair w0 w b m c base n f rows held) (hb : Below w.heap.size w w') : LPair w0 w' b m c base n f rows held :=
  ⟨h.B.below hb, h.R.below hb, h.eq, h.bel.trans (hb.mono h.bel.size), h.hb, h.hm, h.hc, Nat.le_trans h.hbase hb.size⟩
theorem LPair.ne_cm (h : LPair w0 w b m c base n f rows held) : c ≠ m := by
  rintro rfl
  obtain ⟨v, h1, _⟩ := h.R.ex
  obtain ⟨D, ⟨es, k, hm, _⟩, _⟩ := h.B.map
  rw [h1] at hm
  cases hm
theorem LPair.ne_cb (h : LPair w0 w b m c base n f rows held) : c ≠ b := by
  rintro rfl
  obtain ⟨v, h1, _⟩ := h.R.ex
  have := h.B.blk
  rw [h1] at this
  simp at this
theorem LPair.m_map (h : LPair w0 w b m c base n f rows held) : ∀ cs t fr, w.heap[m]? ≠ some (.cells cs t fr) := by
  intro cs t fr e
  obtain ⟨D, ⟨es, k, hm, _⟩, _⟩ := h.B.map
  rw [e] at hm
  cases hm
theorem LPair.b_not (h : LPair w0 w b m c base n f rows held) : ∀ cs fr, w.heap[b]? ≠ some (.cells cs 49 fr) := by
  intro cs fr e
  have := h.B.blk
  rw [e] at this
  simp at this
end

theorem rUntil_drop_self (l : List LRow) (x y : Int) : rUntil (rDrop l x y) x y = 0 := by
  induction l with
  | nil => rfl
  | cons r l ih =>
    unfold rDrop at ih ⊢
    by_cases h : r.1 = x ∧ r.2.1 = y
    · simpa [h] using ih
    · have h' : (r.1 == x && r.2.1 == y) = false := by simpa using h
      rw [List.filter_cons]
      simp only [h', Bool.not_false, if_true, rUntil, if_neg h]
      exact ih
theorem rUntil_drop_other (l : List LRow) {x y x' y' : Int} (hne : ¬ (x' = x ∧ y' = y)) : rUntil (rDrop l x y) x' y' = rUntil l x' y' := by
  induction l with
  | nil => rfl
  | cons r l ih =>
    unfold rDrop at ih ⊢
    by_cases h : r.1 = x ∧ r.2.1 = y
    · have h1 : ¬ (r.1 = x' ∧ r.2.1 = y') := fun h' => hne ⟨by omega, by omega⟩
      have h' : (r.1 == x && r.2.1 == y) = true := by simpa using h
      rw [List.filter_cons]
      simp only [h', Bool.not_true, rUntil, if_neg h1]
      exact ih
    · have h' : (r.1 == x && r.2.1 == y) = false := by simpa using h
      rw [List.filter_cons]
      simp only [h', Bool.not_false, if_true, rUntil, ih]
theorem rUntil_app (l : List LRow) (r : LRow) (x y : Int) (h : rUntil l x y ≠ 0 ∨ ¬ (r.1 = x ∧ r.2.1 = y)) : rUntil (l ++ [r]) x y = rUntil l x y := by
  induction l with
  | nil =>
    rcases h with h | h
    · exact absurd rfl h
    · simp [rUntil, h]
  | cons q l ih =>
    by_cases hq : q.1 = x ∧ q.2.1 = y
    · simp [rUntil, hq]
    · simp only [List.cons_append, rUntil, if_neg hq] at h ⊢
      exact ih h
theorem rUntil_app_none (l : List LRow) (x y v : Int) : rUntil (rDrop l x y ++ [(x, y, v)]) x y = v := by
  have : ∀ l : List LRow, (∀ r ∈ l, ¬ (r.1 = x ∧ r.2.1 = y)) → rUntil (l ++ [(x, y, v)]) x y = v := by
    intro l
    induction l with
    | nil => intro _; simp [rUntil]
    | cons q l ih =>
      intro h
      simp only [List.cons_append, rUntil, if_neg (h q (by simp))]
      exact ih (fun r hr => h r (by simp [hr]))
  refine this _ fun r hr => ?_
  have := (List.mem_filter.1 hr).2
  rintro ⟨a, b⟩
  simp [a, b] at this

theorem pair_grant {f : Int → Int → Int} {rows : List LRow} (h : ∀ x y, W64 x → W64 y → f x y = rUntil rows x y) (x y v : Int) : ∀ x' y', W64 x' → W64 y' → upd f x y v x' y' = rUntil (rDrop rows x y ++ [(x, y, v)]) x' y' := by
  intro x' y' hx hy
  by_cases e : x' = x ∧ y' = y
  · obtain ⟨rfl, rfl⟩ := e
    rw [upd_same, rUntil_app_none]
  · rw [upd_other _ e, rUntil_app _ _ _ _ (.inr (fun h' => e ⟨h'.1.symm, h'.2.symm⟩)), rUntil_drop_other _ e, h x' y' hx hy]
theorem pair_forget {f : Int → Int → Int} {rows : List LRow} (h : ∀ x y, W64 x → W64 y → f x y = rUntil rows x y) (x y : Int) : ∀ x' y', W64 x' → W64 y' → upd f x y 0 x' y' = rUntil (rDrop rows x y) x' y' := by
  intro x' y' hx hy
  by_cases e : x' = x ∧ y' = y
  · obtain ⟨rfl, rfl⟩ := e
    rw [upd_same, rUntil_drop_self]
  · rw [upd_other _ e, rUntil_drop_other _ e, h x' y' hx hy]

section
variable {w0 w w' : World} {b m c base n : Nat} {f : Int → Int → Int} {rows : List LRow} {held : Int} {x y v : Int}
theorem LPair.drew (h : LPair w0 w b m c base n f rows held) : LPair w0 w.drew b m c base n f rows held := h.below ((Below.refl _ _).drew)
theorem until_p (h : LPair w0 w b m c base n f rows held) (hx : W64 x) (hy : W64 y) :
    Calls Try.prog 14 #[.pointer (some ⟨b, 0, none⟩), .agg #[.int .i64 x, .int .i64 y]] w fun e w' => e = .returned (.int .i64 (rUntil rows x y)) ∧ LPair w0 w' b m c base n f rows held ∧ Below w.heap.size w w' :=
  (until_any h.B hx hy).mono fun e w' ⟨he, hb, hbel⟩ => ⟨by rw [← h.eq x y hx hy]; exact he, h.below hbel, hbel⟩
theorem runtil_p (h : LPair w0 w b m c base n f rows held) :
    Calls Try.prog 19 #[.pointer (some ⟨c, 0, none⟩), .agg #[.int .i64 x, .int .i64 y]] w fun e w' => e = .returned (.int .i64 (rUntil rows x y)) ∧ LPair w0 w' b m c base n f rows held ∧ Below w.heap.size w w' :=
  (runtil_any h.R).mono fun e w' ⟨he, hbel⟩ => ⟨he, h.below hbel, hbel⟩
theorem free_p (h : LPair w0 w b m c base n f rows held) (hx : W64 x) (hy : W64 y) :
    Calls Try.prog 12 #[.pointer (some ⟨b, 0, none⟩), .agg #[.int .i64 x, .int .i64 y], .int .i64 v] w fun e w' => e = .returned (.bool (decide (max (rUntil rows x y) held ≤ v))) ∧ LPair w0 w' b m c base n f rows held ∧ Below w.heap.size w w' :=
  (free_any h.B hx hy).mono fun e w' ⟨he, hb, hbel⟩ => ⟨by rw [← h.eq x y hx hy]; exact he, h.below hbel, hbel⟩
theorem rfree_p (h : LPair w0 w b m c base n f rows held) :
    Calls Try.prog 20 #[.pointer (some ⟨c, 0, none⟩), .agg #[.int .i64 x, .int .i64 y], .int .i64 v] w fun e w' => e = .returned (.bool (decide (max (rUntil rows x y) held ≤ v))) ∧ LPair w0 w' b m c base n f rows held ∧ Below w.heap.size w w' :=
  (rfree_any h.R).mono fun e w' ⟨he, hbel⟩ => ⟨he, h.below hbel, hbel⟩

theorem grown_below {k : Nat} (h : Below w0.heap.size w0 w) (hg : w.grownBy w' (some k)) (hk : w0.heap.size ≤ k) : Below w0.heap.size w0 w' := h.grown hg h.size (by intro j hj; cases hj; exact hk)

theorem LPair.granted (h : LPair w0 w b m c base n f rows held) {w1 : World} (hB : BookAt w1 b m (n + 1) (upd f x y v) held) (hg : w.grownBy w1 (some m)) (hR : RBookAt w' base c (rDrop rows x y ++ [(x, y, v)]) held) (hg' : w1.grownBy w' (some c)) :
    LPair w0 w' b m c base (n + 1) (upd f x y v) (rDrop rows x y ++ [(x, y, v)]) held := by
  refine ⟨hB.kept (hg'.block b hB.lt (by simpa using (Ne.symm h.ne_cb))) (hg'.block m hB.mlt (by simpa using (Ne.symm h.ne_cm))), hR, pair_grant h.eq x y v, grown_below (grown_below h.bel hg h.hm) hg' h.hc, h.hb, h.hm, h.hc, Nat.le_trans h.hbase (Nat.le_trans hg.size hg'.size)⟩
theorem LPair.forgot (h : LPair w0 w b m c base n f rows held) {w1 : World} (hB : BookAt w1 b m n (upd f x y 0) held) (hg : w.grownBy w1 (some m)) (hR : RBookAt w' w1.heap.size c (rDrop rows x y) held) (hg' : w1.grownBy w' (some c)) :
    LPair w0 w' b m c base n (upd f x y 0) (rDrop rows x y) held := by
  obtain ⟨u, hu1, hu2⟩ := hR.ex
  refine ⟨hB.kept (hg'.block b hB.lt (by simpa using (Ne.symm h.ne_cb))) (hg'.block m hB.mlt (by simpa using (Ne.symm h.ne_cm))), ⟨u, hu1, owns_base hu2 (Nat.le_trans h.hbase hg.size)⟩, pair_forget h.eq x y, grown_below (grown_below h.bel hg h.hm) hg' h.hc, h.hb, h.hm, h.hc, Nat.le_trans h.hbase (Nat.le_trans hg.size hg'.size)⟩

theorem RBookAt.held_ (h : RBookAt w base c rows held) (z : Int) : RBookAt (w.setCell ⟨c, 1, none⟩ (.int .i64 z)) base c rows z := by
  obtain ⟨u, h1, h2⟩ := h.ex
  refine ⟨u, ?_, owns_setCell h2 ⟨c, 1, none⟩ _ (.inr (owns_ne h2 h1 (by decide)))⟩
  simp [World.setCell, Array.getElem?_modify, h1]
theorem LPair.heldOn (h : LPair w0 w b m c base n f rows held) {w1 : World} {z : Int} (hB : BookAt w1 b m n f z) (hg : w.grownBy w1 (some b)) (k : Nat) :
    LPair w0 ((w1.setCell ⟨c, 1, none⟩ (.int .i64 z)).drewN k) b m c base n f rows z := by
  have hR := (h.R.grown hg h.ne_cb h.b_not).held_ z
  have hg' := grown_setCell w1 c 1 (.int .i64 z)
  have hP : LPair w0 (w1.setCell ⟨c, 1, none⟩ (.int .i64 z)) b m c base n f rows z :=
    ⟨hB.kept (hg'.block b hB.lt (by simpa using (Ne.symm h.ne_cb))) (hg'.block m hB.mlt (by simpa using (Ne.symm h.ne_cm))), hR, h.eq, grown_below (grown_below h.bel hg h.hb) hg' h.hc, h.hb, h.hm, h.hc, Nat.le_trans h.hbase (Nat.le_trans hg.size hg'.size)⟩
  exact hP.below (below_drewN (Below.refl _ _) k)
end

end Go.Proofs.Ytmnlcmnipkjelaa
