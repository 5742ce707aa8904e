/- Members that came in, laid into a slice of the call's own: append onto an empty one, whatever the source. -/
import Derived.Test.YtomfmejodmfioaaGreatKCfgE
import Derived.Deep.AppendSrc
import Derived.Deep.Upon
import Derived.RegionTactic
namespace Go.Proofs.YtomfmejodmfioaaGreat
open Go.RowKit Go.ChangeShapes Go.WideShapes Go.Joins
set_option linter.unusedVariables false

theorem memsCells_one {G : List (Int × Int)} : ∀ u ∈ memsCells G, u.oneCell' = true := by
  intro u hu
  obtain ⟨g, _, hs⟩ := List.mem_flatMap.1 hu
  simp at hs
  rcases hs with rfl | rfl <;> rfl
theorem memsCells_len (G : List (Int × Int)) : (memsCells G).length = G.length * 2 := by
  induction G with
  | nil => rfl
  | cons g G ih =>
    have e : memsCells (g :: G) = [.int .i64 g.1, .int .i64 g.2] ++ memsCells G := rfl
    rw [e, List.length_append, ih, List.length_cons]
    simp
    omega
theorem mems_cells {w : World} {b off : Nat} {G : List (Int × Int)} (h : ∀ i g, G[i]? = some g → w.cell? ⟨b, off + i * 2, none⟩ = some (.int .i64 g.1) ∧ w.cell? ⟨b, off + i * 2 + 1, none⟩ = some (.int .i64 g.2)) :
    ∀ j u, (memsCells G)[j]? = some u → w.cell? ((⟨b, off, none⟩ : Addr).add j) = some u := by
  intro j u hj
  have hjl := (List.getElem?_eq_some_iff.1 hj).1
  rw [memsCells_len] at hjl
  obtain ⟨g, hg⟩ : ∃ g, G[j / 2]? = some g := ⟨_, List.getElem?_eq_getElem (by omega)⟩
  obtain ⟨c0, c1⟩ := h _ _ hg
  obtain ⟨t0, t1⟩ := memsCells_at G _ g hg
  rw [addr_add]
  have hm : j % 2 = 0 ∨ j % 2 = 1 := by omega
  rcases hm with hm | hm
  · rw [show j / 2 * 2 = j by omega] at t0
    rw [hj] at t0
    rw [t0, ← c0]; congr 2; omega
  · rw [show j / 2 * 2 + 1 = j by omega] at t1
    rw [hj] at t1
    rw [t1, ← c1]; congr 2; omega

theorem src_mems {w : World} {v : Value} {G : List (Int × Int)} (h : MemsV w v G) : Src Tryz.prog 2 97 v G.length (memsCells G) w := by
  obtain ⟨a, cap, rfl, hG⟩ := h
  cases a with
  | none =>
    have : G = [] := by
      cases G with
      | nil => rfl
      | cons g G => obtain ⟨b, off, hn, _⟩ := hG.2 (by simp); cases hn
    subst this
    exact Src.ofNil w Tryz.underlying97 cap
  | some ad =>
    refine Src.ofSlice w Tryz.underlying97 ad G.length cap (memsCells G) (memsCells_len G) ?_ memsCells_one
    cases G with
    | nil => intro j u hj; simp [memsCells] at hj
    | cons g G =>
      obtain ⟨b, off, ha, _, hc⟩ := hG.2 (by simp)
      cases ha
      exact mems_cells hc
theorem member_info : ∃ i, Tryz.prog.info? 42 = some i ∧ i.zero = some (.agg #[.int .i64 0, .int .i64 0]) ∧ i.size = 2 ∧ i.bytes = 16 := by
  have h : (Tryz.prog.info? 42).map (fun i => (i.zero, i.size, i.bytes)) = some (some (.agg #[.int .i64 0, .int .i64 0]), 2, 16) := by kernel_rfl
  cases hi : Tryz.prog.info? 42 with
  | none => rw [hi] at h; cases h
  | some i =>
    rw [hi] at h
    simp only [Option.map_some, Option.some.injEq, Prod.mk.injEq] at h
    exact ⟨i, rfl, h⟩
/-- Append of members, none of them or more, onto a slice that holds none and has no room. -/
theorem run_append_mems {w : World} {v : Value} {base : Option Addr} {G : List (Int × Int)} (hG : MemsV w v G) (hl : G.length ≤ 1000000) (ty : TypeId) :
    ∃ v' w', (Builtin.append_ #[97, 97] ty #[.slice base 0 0, v]).run Tryz.prog w = .ok v' w' ∧ MemsV w' v' G ∧ Below w.heap.size w w' := by
  obtain ⟨i, hi, hz, hs, hby⟩ := member_info
  have hsrc := src_mems hG
  cases G with
  | nil =>
    refine ⟨_, _, run_append_nothing w 97 97 ty 42 i Tryz.underlying97 hi base 0 0 (Nat.le_refl _) v (by rw [hs]; exact hsrc), ⟨base, 0, rfl, Nat.zero_le _, by simp⟩, Below.refl _ _⟩
  | cons g G =>
    have hn : (g :: G).length = G.length + 1 := rfl
    have hr := run_append_grow_src w 97 97 ty 42 i _ Tryz.underlying97 hi hz base 0 0 [] (by
      cases base <;> simp [Builtin.firstCells, loadCells, loadCellsFrom]) v (g :: G).length (memsCells (g :: G)) (by rw [hs]; exact hsrc) (by omega) (by omega) (by
      rw [hby, nextslicecap_zero (by omega)]
      omega)
    have hge := grownCap_ge w (g :: G).length 0 42
    have hcm := grownCap_le_maxLen w (g :: G).length 0 42 (by unfold maxLen; omega)
    simp only [Nat.zero_add, List.nil_append] at hr
    refine ⟨_, _, hr, mems_of_own (base := w.heap.size) (e := 42) ⟨memsCells_len _, .inr ⟨w.heap.size, _, _, rfl, Nat.le_refl _, heap_alloc_new w.drew _, hge, hcm, ?_, ?_⟩⟩, (Below.refl _ _).drew.alloc (by simp) _⟩
    · have hz2 : (Value.cells (.agg #[.int .i64 0, .int .i64 0])).size = 2 := rfl
      rw [Array.size_append, List.size_toArray, size_zeroCells, memsCells_len, hz2, ← Nat.add_mul, Nat.add_sub_cancel' hge]
    · simp only [Array.toList_append]
      rw [← memsCells_len]
      exact List.take_left
theorem step_append_mems {w : World} {ops : Array Oper} {o : Oper} {a : Act} {K : Act → World → Prop} {Q : Exit → Act → World → Prop} {E : Prop} (hgd : o.guard = none) (s x : Operand)
    (ho : o.op = .call { callee := .builtin .append, args := #[s, x], argTypes := #[97, 97] }) {base : Option Addr} {v : Value} {G : List (Int × Int)}
    (hs : a.eval s = .slice base 0 0) (hx : a.eval x = v) (hG : MemsV w v G) (hl : G.length ≤ 1000000)
    (h : ∀ b cap w', MemsV w' (.slice b G.length cap) G → Below w.heap.size w w' → K (a.put o.dst (.slice b G.length cap)) w') :
    if Region.wanted o (yielded ops a.tmps) = true then Oper.wp Tryz.prog o a w K Q else E := by
  have hw : Region.wanted o (yielded ops a.tmps) = true := by simp [Region.wanted, hgd]
  rw [if_pos hw]
  obtain ⟨v', w', hr, hm, hb⟩ := run_append_mems (base := base) hG hl o.type
  obtain ⟨b, cap, rfl, hm'⟩ := hm
  unfold Oper.wp execOp
  simp only [ho, resolve, invoke, builtin, Sem.run_bind, Sem.run_pure, Result.andThen_ok, List.map_toArray, List.map_cons, List.map_nil, hs, hx, hr]
  exact h b cap w' ⟨b, cap, rfl, hm'⟩ hb
theorem gone_end {w w7 : World} {X M0 : Nat} {u0 u1 v : Value} {T1 T2 : TypeId} {C M : List Value} {pL : List SeatV} (hX : BlkAt w7 X 35 [u0, u1]) (hv2 : ChainAt w7 v pL) (hC : BlkAt w7 w.heap.size T1 C) (hM : BlkAt w7 M0 T2 M) (hb : Below w.heap.size w w7)
    (hXn : w.heap.size + 2 ≤ X) (hM0 : w.heap.size + 1 = M0) (p q : Value) :
    BlkAt ((w7.setCell ⟨X, 0, none⟩ p).setCell ⟨X, 1, none⟩ q) X 35 [p, q] ∧ ChainAt ((w7.setCell ⟨X, 0, none⟩ p).setCell ⟨X, 1, none⟩ q) v pL ∧ BlkAt ((w7.setCell ⟨X, 0, none⟩ p).setCell ⟨X, 1, none⟩ q) w.heap.size T1 C ∧ BlkAt ((w7.setCell ⟨X, 0, none⟩ p).setCell ⟨X, 1, none⟩ q) M0 T2 M ∧ Below w.heap.size w ((w7.setCell ⟨X, 0, none⟩ p).setCell ⟨X, 1, none⟩ q) := by
  have G1 := grown_setCell w7 X 0 p
  have G2 := grown_setCell (w7.setCell ⟨X, 0, none⟩ p) X 1 q
  exact ⟨(hX.set 0 p).set 1 q, (hv2.set2 hX 0 p).set2 (hX.set 0 p) 1 q, (hC.grown G1 (by omega)).grown G2 (by omega), (hM.grown G1 (by omega)).grown G2 (by omega), grown_below (grown_below hb G1 (by omega)) G2 (by omega)⟩
end Go.Proofs.YtomfmejodmfioaaGreat
