/- Rows of members of the call's own: appended to. The master: who is late. The master: who is free to go. The master: whether somebody stays who was told. The master: the chain without who may go. -/
import Derived.Test.YtomfmejodmfioaaGreatKMst0
import Derived.Test.YtomfmejodmfioaaGreatCfgGone
import Derived.Deep.DeepCutAuto
import Derived.Test.YtomfmejodmfioaaGreatKCfgE
namespace Go.Proofs.YtomfmejodmfioaaGreat
open Go.RowKit Go.Maps Go.ChangeShapes Go.WideShapes Go.Joins Go.Deep
set_option linter.unusedVariables false

/-- A row of members of the call's own. -/
def MemsO (B : Nat) (w : World) (v : Value) (G : List (Int × Int)) : Prop := w.ownsRow B 42 2 v G.length (memsCells G)
theorem MemsO.nil (B : Nat) (w : World) : MemsO B w (.slice none 0 0) [] := World.ownsRow_nil _ _ _ _
theorem MemsO.below {B : Nat} {w w' : World} {v : Value} {G : List (Int × Int)} (h : MemsO B w v G) (hb : Below w.heap.size w w') : MemsO B w' v G := own_below' h hb
theorem MemsO.form {B : Nat} {w : World} {v : Value} {G : List (Int × Int)} (h : MemsO B w v G) : ∃ A cap, v = .slice A G.length cap := by
  rcases h.2 with ⟨rfl, h0⟩ | ⟨g, cap, cur, rfl, _⟩
  · exact ⟨none, 0, by rw [h0]⟩
  · exact ⟨_, _, rfl⟩
theorem MemsO.v {B : Nat} {w : World} {v : Value} {G : List (Int × Int)} (h : MemsO B w v G) : MemsV w v G := mems_of_own h
theorem MemsO.mono {B B' : Nat} {w : World} {v : Value} {G : List (Int × Int)} (h : MemsO B w v G) (hb : B' ≤ B) : MemsO B' w v G := by
  obtain ⟨h1, h2⟩ := h
  refine ⟨h1, ?_⟩
  rcases h2 with h2 | ⟨g, cap, cur, hv, hg, hr⟩
  · exact .inl h2
  · exact .inr ⟨g, cap, cur, hv, Nat.le_trans hb hg, hr⟩
/-- A row is the elder one, or a new one. -/
def VNew (w : World) (v v' : Value) : Prop := ∀ j, v'.ownBlock = some j → v.ownBlock = some j ∨ w.heap.size ≤ j
theorem VNew.refl (w : World) (v : Value) : VNew w v v := fun j hj => .inl hj
/-- Two rows lie apart. -/
def VApart (v u : Value) : Prop := v.ownBlock = none ∨ v.ownBlock ≠ u.ownBlock
theorem VApart.symm {v u : Value} (h : VApart v u) : VApart u v := by
  unfold VApart at *
  rcases hu : u.ownBlock with _ | q
  · exact .inl rfl
  · refine .inr fun e => ?_
    rcases h with h | h
    · rw [h] at e; cases e
    · exact h (by rw [hu, e])
theorem VApart.none (v : Value) : VApart (.slice none 0 0) v := .inl rfl
theorem VApart.next {B : Nat} {w : World} {v v' u : Value} {G : List (Int × Int)} (h : VApart v u) (hn : VNew w v v') (hu : MemsO B w u G) : VApart v' u := by
  unfold VApart at *
  rcases hv : v'.ownBlock with _ | q
  · exact .inl rfl
  · refine .inr fun e => ?_
    rcases hn q hv with h1 | h1
    · rcases h with h | h
      · rw [h1] at h; cases h
      · exact h (by rw [h1, e])
    · have := (hu.lt q e.symm).2
      omega
theorem MemsO.grown {B : Nat} {w w' : World} {v u : Value} {G : List (Int × Int)} (h : MemsO B w v G) (hg : w.grownBy w' u.ownBlock) (ha : VApart v u) : MemsO B w' v G := h.kept hg ha
theorem memsCells_append (G H : List (Int × Int)) : memsCells (G ++ H) = memsCells G ++ memsCells H := by simp [memsCells]
set_option maxRecDepth 100000 in
set_option maxHeartbeats 400000 in

/-- Members appended to a row of the call's own: some, or none. -/
theorem run_append_own_mems {w : World} {B : Nat} {v s : Value} {G H : List (Int × Int)} (hown : MemsO B w v G) (hH : MemsV w s H) (hl : G.length + H.length ≤ 100000) (hB : B ≤ w.heap.size) (ty : TypeId) :
    ∃ v' w', (Builtin.append_ #[97, 97] ty #[v, s]).run Tryz.prog w = .ok v' w' ∧ MemsO B w' v' (G ++ H) ∧ w.grownBy w' v.ownBlock ∧ VNew w v v' := by
  obtain ⟨i, hi, hz, hs, hby⟩ := member_info
  cases H with
  | nil =>
    obtain ⟨A, cap, rfl⟩ := hown.form
    have hcap : G.length ≤ cap := by
      rcases hown.2 with ⟨hv, h0⟩ | ⟨g, cap', cur, hv, _, _, hn', _⟩
      · simp only [Value.slice.injEq] at hv
        omega
      · simp only [Value.slice.injEq] at hv
        omega
    have hr := run_append_nothing (P := Tryz.prog) w 97 97 ty 42 i Tryz.underlying97 hi A G.length cap hcap s (by rw [hs]; exact src_mems hH)
    exact ⟨_, _, hr, by rw [List.append_nil]; exact hown, World.grownBy.refl _ _, VNew.refl _ _⟩
  | cons m H =>
    obtain ⟨a, c, rfl, hm⟩ := hH
    obtain ⟨b, off, rfl, hlt, hc⟩ := hm.2 (by simp)
    obtain ⟨g, cap, w', hr, h2, h3, h4, h5⟩ := run_append_lies (P := Tryz.prog) w 97 ty B 42 i _ 2 16 Tryz.underlying97 hi hz hs hby rfl (by omega) v G.length (memsCells G) hown ⟨b, off, none⟩ (m :: H).length c (memsCells (m :: H)) (memsCells_len _)
      (mems_cells hc) memsCells_one (by simp) (by unfold maxLen; omega) (by omega) hB _ rfl
    refine ⟨_, w', hr, ?_, h3, fun j hj => ?_⟩
    · unfold MemsO
      rw [List.length_append, memsCells_append]
      exact h2
    · simp only [Value.ownBlock, Option.some.injEq] at hj
      subst hj
      rcases h4 with h4 | h4
      · exact .inl h4
      · exact .inr (by omega)
/-- .. at the operation, for the walk. -/
theorem wpList_append_mems {w : World} {ops : Array Oper} {rest : List Oper} {o : Oper} {a : Act} {Q : Exit → Act → World → Prop} (hgd : o.guard = none) (s x : Operand)
    (ho : o.op = .call { callee := .builtin .append, args := #[s, x], argTypes := #[97, 97] }) {B : Nat} {v u : Value} {G H : List (Int × Int)}
    (hs : a.eval s = v) (hx : a.eval x = u) (hown : MemsO B w v G) (hH : MemsV w u H) (hl : G.length + H.length ≤ 100000) (hB : B ≤ w.heap.size)
    (h : ∀ v' w', MemsO B w' v' (G ++ H) → w.grownBy w' v.ownBlock → VNew w v v' → wpList Tryz.prog ops Q rest (a.put o.dst v') w') : wpList Tryz.prog ops Q (o :: rest) a w := by
  refine wpList_plain hgd fun K' hK' => ?_
  obtain ⟨v', w', hr, h1, h2, h3⟩ := run_append_own_mems hown hH hl hB o.type
  unfold Oper.wp execOp
  simp only [ho, resolve, invoke, builtin, Sem.run_bind, Sem.run_pure, Result.andThen_ok, List.map_toArray, List.map_cons, List.map_nil, hs, hx, hr]
  exact hK' _ _ (h v' w' h1 h2 h3)
/-- .. in a region that draws. -/
theorem step_append_own_mems {w : World} {ops : Array Oper} {o : Oper} {a : Act} {K : Act → World → Prop} {Q : Exit → Act → World → Prop} {E : Prop} (hgd : o.guard = none) (s x : Operand)
    (ho : o.op = .call { callee := .builtin .append, args := #[s, x], argTypes := #[97, 97] }) {B : Nat} {v u : Value} {G H : List (Int × Int)}
    (hs : a.eval s = v) (hx : a.eval x = u) (hown : MemsO B w v G) (hH : MemsV w u H) (hl : G.length + H.length ≤ 100000) (hB : B ≤ w.heap.size)
    (h : ∀ v' w', MemsO B w' v' (G ++ H) → w.grownBy w' v.ownBlock → VNew w v v' → K (a.put o.dst v') w') :
    if Region.wanted o (yielded ops a.tmps) = true then Oper.wp Tryz.prog o a w K Q else E := by
  have hw : Region.wanted o (yielded ops a.tmps) = true := by simp [Region.wanted, hgd]
  rw [if_pos hw]
  obtain ⟨v', w', hr, h1, h2, h3⟩ := run_append_own_mems hown hH hl hB o.type
  unfold Oper.wp execOp
  simp only [ho, resolve, invoke, builtin, Sem.run_bind, Sem.run_pure, Result.andThen_ok, List.map_toArray, List.map_cons, List.map_nil, hs, hx, hr]
  exact h v' w' h1 h2 h3
theorem mem_one (w : World) (n l : Int) : MemsV (w.alloc (.cells #[.int .i64 n, .int .i64 l] 42)) (.slice (some ⟨w.heap.size, 0, none⟩) 1 1) [(n, l)] := by
  have h := BlkAt.new w 42 [.int .i64 n, .int .i64 l]
  refine ⟨_, 1, rfl, by unfold maxLen; simp, fun _ => ⟨_, 0, rfl, h.lt, fun i g hi => ?_⟩⟩
  match i, hi with
  | 0, hi =>
    simp at hi
    subst hi
    exact ⟨h.cell rfl, h.cell rfl⟩
end Go.Proofs.YtomfmejodmfioaaGreat
namespace Go.Proofs.YtomfmejodmfioaaGreat
open Go.RowKit Go.Maps Go.ChangeShapes Go.WideShapes Go.Joins Go.Deep
set_option linter.unusedVariables false

theorem right_len {c : ConfV} (h : rightC c = true) : 1 ≤ c.chain.length ∧ c.chain.length ≤ 8 := ⟨(rightC_iff.1 h).2.2.1, (rightC_iff.1 h).2.2.2.1⟩
theorem right_seat {c : ConfV} (h : rightC c = true) {s : SeatV} (hs : s ∈ c.chain) : ∃ n : Nat, n < 8 ∧ s.node = n ∧ 1 ≤ s.life ∧ s.life ≤ 1099511627776 := by
  have := mayM_iff.1 (rightSeats_all (rightC_iff.1 h).2.2.2.2.2 s hs)
  exact ⟨s.node.toNat, by omega, by omega, by omega, by omega⟩
theorem w64_nat {n : Nat} (h : n < 8) : W64 (n : Nat) := W64.mk (by omega) (by omega)
theorem w64_life {l : Int} (h : 1 ≤ l ∧ l ≤ 1099511627776) : W64 l := W64.mk (by omega) (by omega)
/-- The master's cells that are no chain and no lives. -/
def mlow (b : MBlk) (V : MstV) : Nat → Option Value
  | 0 => some (.int .i64 V.s.nodes)
  | 1 => some (.int .i64 V.s.clients)
  | 2 => some (.int .i64 V.s.timers)
  | 3 => some (.int .i64 V.s.lease)
  | 4 => some (.int .i64 V.s.suspect)
  | 5 => some (.int .i64 V.s.skew)
  | 6 => some (.int .i64 V.s.base)
  | 7 => some (.pointer (some ⟨b.lb, 0, none⟩))
  | 8 => some (.int .i64 V.cf.epoch)
  | 10 => some (.pointer (some ⟨b.bk, 0, none⟩))
  | 11 => some (.map (some b.bm))
  | 20 => some (.map (some b.sm))
  | 21 => some (.map (some b.nm))
  | _ => none
def MLow (w : World) (x : Nat) (b : MBlk) (V : MstV) : Prop := ∀ W, Below w.heap.size w W → ∀ (i : Nat) (u : Value), mlow b V i = some u → W.cell? ⟨x, i, none⟩ = some u
theorem MAt.low {B x N : Nat} {w : World} {b : MBlk} {V : MstV} {l : List UInt8} (h : MAt B w x b N V l) {i : Nat} {u : Value} (hi : mlow b V i = some u) : w.cell? ⟨x, i, none⟩ = some u := by
  obtain ⟨A, cap, hC, hX⟩ := h.cells
  match i, hi with
  | 0, hi | 1, hi | 2, hi | 3, hi | 4, hi | 5, hi | 6, hi | 7, hi | 8, hi | 10, hi | 11, hi => exact hX.cell (mcells_low hi)
  | 20, hi => exact hX.cell ((mcells_sat h.ok.len).trans hi)
  | 21, hi => exact hX.cell ((mcells_since h.ok.len).trans hi)
theorem MAt.lows {B x N : Nat} {w : World} {b : MBlk} {V : MstV} {l : List UInt8} (h : MAt B w x b N V l) : MLow w x b V := fun W hW i u hi => (h.below hW).low hi
set_option maxRecDepth 100000 in
set_option maxHeartbeats 4000000 in

theorem mlate_any {B x N : Nat} {w : World} {b : MBlk} {V : MstV} {l : List UInt8} (h : MAt B w x b N V l) {now : Int} (ht : TOk now) {G : List (Int × Int)} (hG : lateM V now = G) :
    Calls Tryz.prog 83 #[.pointer (some ⟨x, 0, none⟩), .int .i64 now] w fun e w' => ∃ v, e = .returned v ∧ MemsO w.heap.size w' v G ∧ Below w.heap.size w w' := by
  subst hG
  obtain ⟨A, cap, hC, hX⟩ := h.cells
  have hl8 := right_len h.ok.right
  have hrs : Hid (∀ s ∈ V.cf.chain, ∃ n : Nat, n < 8 ∧ s.node = n ∧ 1 ≤ s.life ∧ s.life ≤ 1099511627776) := Lib.hid (fun s hs => right_seat h.ok.right hs)
  have hlen := lateF_len V now hl8.2
  have HLEN : Hid (∀ k, (lateF V now (V.cf.chain.take k)).1.length ≤ 72 ∧ (lateF V now (V.cf.chain.take k)).2.1.length ≤ 8) := Lib.hid (fun k => lateF_len V now (by rw [List.length_take]; omega))
  have HSN : Hid (∀ k s, V.cf.chain[k]? = some s → lateF V now (V.cf.chain.take (k + 1)) = lateStep V now (lateF V now (V.cf.chain.take k)) s) := Lib.hid (fun k s hs => lateF_snoc V now hs)
  have HAL : Hid (lateM V now = (lateF V now (V.cf.chain.take V.cf.chain.length)).1) := Lib.hid (by rw [List.take_of_length_le (Nat.le_refl _)]; rfl)
  have c9 : w.cell? ⟨x, 9, none⟩ = some (.slice A V.cf.chain.length cap) := hX.cell (mcells_low rfl)
  have hlt := h.lt
  obtain ⟨_, _, hqq, hs⟩ := hC.1
  cases hqq
  have HM := Lib.hid h
  generalize hL : V.cf.chain = L at *
  have HS := Lib.hid hs
  have HL := Lib.hid hL
  clear h hX hC hs hL hlen
  go_enter Tryz.func83, Tryz.ntmps83
  go_wp2_with fail
  clear c9
  go_loopw [4, 5, 6, 15] (fun lv wv ld i wr => ∃ (k : Nat), k ≤ L.length ∧ i = .int .i64 k ∧ ld = .bool (lateF V now (L.take k)).2.2 ∧ MemsO w.heap.size wr lv (lateF V now (L.take k)).1 ∧ MemsO w.heap.size wr wv (lateF V now (L.take k)).2.1 ∧ VApart lv wv ∧ Below w.heap.size w wr) (fun _ _ _ i _ => L.length - (intOf i).toNat)
  case atStart => exact ⟨0, Nat.zero_le _, rfl, rfl, MemsO.nil _ _, MemsO.nil _ _, VApart.none _, Below.refl _ _⟩
  case round =>
    obtain ⟨k, hk, rfl, rfl, hP0, hW0, hAp, hb⟩ := hrel
    by_cases hlt' : k < L.length
    · obtain ⟨q, off, rfl, hab, hc⟩ := HS.out.2.2 (by omega)
      obtain ⟨s, hs'⟩ : ∃ s, L[k]? = some s := ⟨_, List.getElem?_eq_getElem hlt'⟩
      obtain ⟨s0, s1, s2⟩ := (hc k s hs').of (w' := wr) fun j => hb.cell (p := ⟨q, j, none⟩) hab
      have hN := Lib.hid (HSN.out k s hs')
      obtain ⟨n, hn8, hn, hl1, hl2⟩ := hrs.out s (List.mem_of_getElem? hs')
      have hln := HLEN.out k
      obtain ⟨x0, y, z⟩ := s
      simp only at s0 s1 s2 hN hn hl1 hl2
      subst hn
      clear hc hs'
      obtain ⟨P, Q, ld, hst⟩ : ∃ P Q ld, lateF V now (L.take k) = (P, Q, ld) := ⟨_, _, _, rfl⟩
      rw [hst] at hP0 hW0 hN hln ⊢
      simp only at hP0 hW0 hln ⊢
      clear hst
      go_upto_region 6 with (fail)
      have hP := BlkAt.new wr 49 [.int .i64 (n : Nat), .int .i64 y, .bool z]
      have hP0q := hP0.below ((Below.refl _ _).alloc (Nat.le_refl _) (.cells #[.int .i64 (n : Nat), .int .i64 y, .bool z] 49))
      clear hP0
      have hP0 := hP0q
      clear hP0q
      have hW0q := hW0.below ((Below.refl _ _).alloc (Nat.le_refl _) (.cells #[.int .i64 (n : Nat), .int .i64 y, .bool z] 49))
      clear hW0
      have hW0 := hW0q
      clear hW0q
      have hb := hb.alloc hb.size (.cells #[.int .i64 (n : Nat), .int .i64 y, .bool z] 49)
      change Code.wp _ _ _ _ (wr.alloc (.cells #[.int .i64 (n : Nat), .int .i64 y, .bool z] 49))
      change BlkAt (wr.alloc (.cells #[.int .i64 (n : Nat), .int .i64 y, .bool z] 49)) _ _ _ at hP
      generalize wr.alloc (.cells #[.int .i64 (n : Nat), .int .i64 y, .bool z] 49) = w3 at *
      generalize wr.heap.size = X at *
      clear s0 s1 s2
      have p0 : w3.cell? ⟨X, 0, none⟩ = some (.int .i64 (n : Nat)) := hP.cell rfl
      have p1 : w3.cell? ⟨X, 1, none⟩ = some (.int .i64 y) := hP.cell rfl
      have p2 : w3.cell? ⟨X, 2, none⟩ = some (.bool z) := hP.cell rfl
      cases hd : deadM V (n : Nat) y with
      | true =>
        have hE := Lib.hid (lateStep_a (V := V) (now := now) (st := (P, Q, ld)) (s := ⟨(n : Nat), y, z⟩) (by simp [hd]))
        go_wp2_with fail
        refine (mdead_any (by exact HM.out.below hb) hn8 hd).mono ?_
        rintro en w4 ⟨rfl, b4⟩
        clear p0 p1 p2
        have hP0q := hP0.below b4
        clear hP0
        have hP0 := hP0q
        clear hP0q
        have hW0q := hW0.below b4
        clear hW0
        have hW0 := hW0q
        clear hW0q
        have hPq := hP.below b4
        clear hP
        have hP := hPq
        clear hPq
        have hbq := below_step hb b4
        clear hb
        have hb := hbq
        clear hbq b4
        have p0 : w4.cell? ⟨X, 0, none⟩ = some (.int .i64 (n : Nat)) := hP.cell rfl
        have p1 : w4.cell? ⟨X, 1, none⟩ = some (.int .i64 y) := hP.cell rfl
        have p2 : w4.cell? ⟨X, 2, none⟩ = some (.bool z) := hP.cell rfl
        go_wp2_with (first | (at_builtin; refine wpList_append_mems rfl (.tmp 31) (.tmp 34) rfl rfl rfl (hP0.below ((Below.refl _ _).alloc (Nat.le_refl _) _)) (mem_one _ _ _) ?c1 ?c2 ?_))
        case c1 => first | omega | (simp; omega)
        case c2 => first | (have := hb.size; omega) | (simp; have := hb.size; omega)
        intro v5 w5 h5 g5 n5
        have hb4 := (Below.refl w4.heap.size w4).alloc (Nat.le_refl _) (.cells #[.int .i64 (n : Nat), .int .i64 y] 42)
        have hW5 := Lib.hid ((hW0.below hb4).grown g5 hAp.symm)
        have hA5 := Lib.hid (hAp.next n5 (hW0.below hb4))
        have HB5 := Lib.hid ((below_step hb hb4).grown g5 (below_step hb hb4).size (fun j hj => (hP0.lt j hj).1))
        have H5 := Lib.hid h5
        clear p0 p1 p2 hP hP0 hW0 hAp hb g5 n5 hb4 h5
        go_wp2_with fail
        go_roundw
        case rel => exact ⟨k + 1, by omega, by go_num, by rw [hN.out, hE.out], by rw [hN.out, hE.out]; exact H5.out, by rw [hN.out, hE.out]; exact hW5.out, hA5.out, HB5.out⟩
        case measure => simp [intOf]; omega
      | false =>
        go_wp2_with fail
        refine (mdead_any (by exact HM.out.below hb) hn8 hd).mono ?_
        rintro en w4 ⟨rfl, b4⟩
        clear p0 p1 p2
        have hP0q := hP0.below b4
        clear hP0
        have hP0 := hP0q
        clear hP0q
        have hW0q := hW0.below b4
        clear hW0
        have hW0 := hW0q
        clear hW0q
        have hPq := hP.below b4
        clear hP
        have hP := hPq
        clear hPq
        have hbq := below_step hb b4
        clear hb
        have hb := hbq
        clear hbq b4
        have p0 : w4.cell? ⟨X, 0, none⟩ = some (.int .i64 (n : Nat)) := hP.cell rfl
        have p1 : w4.cell? ⟨X, 1, none⟩ = some (.int .i64 y) := hP.cell rfl
        have p2 : w4.cell? ⟨X, 2, none⟩ = some (.bool z) := hP.cell rfl
        cases hu : suspM V (n : Nat) y now with
        | true =>
          have hE := Lib.hid (lateStep_a (V := V) (now := now) (st := (P, Q, ld)) (s := ⟨(n : Nat), y, z⟩) (by simp [hu]))
          go_wp2_with fail
          refine (msusp_any (by exact HM.out.below hb) (w64_nat hn8) (w64_life ⟨hl1, hl2⟩) ht hu).mono ?_
          rintro en w6 ⟨rfl, b6⟩
          clear p0 p1 p2
          have hP0q := hP0.below b6
          clear hP0
          have hP0 := hP0q
          clear hP0q
          have hW0q := hW0.below b6
          clear hW0
          have hW0 := hW0q
          clear hW0q
          have hPq := hP.below b6
          clear hP
          have hP := hPq
          clear hPq
          have hbq := below_step hb b6
          clear hb
          have hb := hbq
          clear hbq b6
          have p0 : w6.cell? ⟨X, 0, none⟩ = some (.int .i64 (n : Nat)) := hP.cell rfl
          have p1 : w6.cell? ⟨X, 1, none⟩ = some (.int .i64 y) := hP.cell rfl
          have p2 : w6.cell? ⟨X, 2, none⟩ = some (.bool z) := hP.cell rfl
          go_wp2_with (first | (at_builtin; refine wpList_append_mems rfl (.tmp 31) (.tmp 34) rfl rfl rfl (hP0.below ((Below.refl _ _).alloc (Nat.le_refl _) _)) (mem_one _ _ _) ?c1 ?c2 ?_))
          case c1 => first | omega | (simp; omega)
          case c2 => first | (have := hb.size; omega) | (simp; have := hb.size; omega)
          intro v5 w5 h5 g5 n5
          have hb4 := (Below.refl w6.heap.size w6).alloc (Nat.le_refl _) (.cells #[.int .i64 (n : Nat), .int .i64 y] 42)
          have hW5 := Lib.hid ((hW0.below hb4).grown g5 hAp.symm)
          have hA5 := Lib.hid (hAp.next n5 (hW0.below hb4))
          have HB5 := Lib.hid ((below_step hb hb4).grown g5 (below_step hb hb4).size (fun j hj => (hP0.lt j hj).1))
          have H5 := Lib.hid h5
          clear p0 p1 p2 hP hP0 hW0 hAp hb g5 n5 hb4 h5
          go_wp2_with fail
          go_roundw
          case rel => exact ⟨k + 1, by omega, by go_num, by rw [hN.out, hE.out], by rw [hN.out, hE.out]; exact H5.out, by rw [hN.out, hE.out]; exact hW5.out, hA5.out, HB5.out⟩
          case measure => simp [intOf]; omega
        | false =>
          have hq : (deadM V (n : Nat) y || suspM V (n : Nat) y now) = false := by rw [hd, hu]; rfl
          have HQ := Lib.hid hq
          clear hq
          go_wp2_with fail
          refine (msusp_any (by exact HM.out.below hb) (w64_nat hn8) (w64_life ⟨hl1, hl2⟩) ht hu).mono ?_
          rintro en w6 ⟨rfl, b6⟩
          clear p0 p1 p2
          have hP0q := hP0.below b6
          clear hP0
          have hP0 := hP0q
          clear hP0q
          have hW0q := hW0.below b6
          clear hW0
          have hW0 := hW0q
          clear hW0q
          have hPq := hP.below b6
          clear hP
          have hP := hPq
          clear hPq
          have hbq := below_step hb b6
          clear hb
          have hb := hbq
          clear hbq b6
          have p0 : w6.cell? ⟨X, 0, none⟩ = some (.int .i64 (n : Nat)) := hP.cell rfl
          have p1 : w6.cell? ⟨X, 1, none⟩ = some (.int .i64 y) := hP.cell rfl
          have p2 : w6.cell? ⟨X, 2, none⟩ = some (.bool z) := hP.cell rfl
          cases ld with
          | true =>
            have hE := Lib.hid (lateStep_d (V := V) (now := now) (st := (P, Q, true)) (s := ⟨(n : Nat), y, z⟩) HQ.out rfl)
            have H5 := Lib.hid hP0
            have hW5 := Lib.hid hW0
            have HB5 := Lib.hid hb
            have hA5 := Lib.hid hAp
            cases z
            all_goals
              clear hP0 hW0 hb hAp
              go_wp2_with fail
              go_roundw
              case rel => exact ⟨k + 1, by omega, by go_num, by rw [hN.out, hE.out], by rw [hN.out, hE.out]; exact H5.out, by rw [hN.out, hE.out]; exact hW5.out, hA5.out, HB5.out⟩
              case measure => simp [intOf]; omega
          | false =>
            cases z with
            | true =>
              have hE := Lib.hid (lateStep_b (V := V) (now := now) (st := (P, Q, false)) (s := ⟨(n : Nat), y, true⟩) HQ.out rfl rfl)
              go_wp2_with (first | (at_builtin; refine wpList_append_mems rfl (.tmp 43) (.tmp 44) rfl rfl rfl hP0 (MemsO.v hW0) ?c1 ?c2 ?_))
              case c1 => first | omega | (simp; omega)
              case c2 => first | (have := hb.size; omega) | (simp; have := hb.size; omega)
              intro v5 w5 h5 g5 n5
              have hW5 := Lib.hid (hW0.grown g5 hAp.symm)
              have hA5 := Lib.hid (hAp.next n5 hW0)
              have HB5 := Lib.hid (hb.grown g5 hb.size (fun j hj => (hP0.lt j hj).1))
              have H5 := Lib.hid h5
              clear p0 p1 p2 hP hP0 hW0 hAp hb g5 n5 h5
              go_wp2_with fail
              go_roundw
              case rel => exact ⟨k + 1, by omega, by go_num, by rw [hN.out, hE.out], by rw [hN.out, hE.out]; exact H5.out, by rw [hN.out, hE.out]; exact hW5.out, hA5.out, HB5.out⟩
              case measure => simp [intOf]; omega
            | false =>
              have hE := Lib.hid (lateStep_c (V := V) (now := now) (st := (P, Q, false)) (s := ⟨(n : Nat), y, false⟩) HQ.out rfl rfl)
              go_wp2_with (first | (at_builtin; refine wpList_append_mems rfl (.tmp 49) (.tmp 52) rfl rfl rfl (hW0.below ((Below.refl _ _).alloc (Nat.le_refl _) _)) (mem_one _ _ _) ?c1 ?c2 ?_))
              case c1 => first | omega | (simp; omega)
              case c2 => first | (have := hb.size; omega) | (simp; have := hb.size; omega)
              intro v5 w5 h5 g5 n5
              have hb4 := (Below.refl w6.heap.size w6).alloc (Nat.le_refl _) (.cells #[.int .i64 (n : Nat), .int .i64 y] 42)
              have hW5 := Lib.hid ((hP0.below hb4).grown g5 hAp)
              have hA5 := Lib.hid ((hAp.symm.next n5 (hP0.below hb4)).symm)
              have HB5 := Lib.hid ((below_step hb hb4).grown g5 (below_step hb hb4).size (fun j hj => (hW0.lt j hj).1))
              have H5 := Lib.hid h5
              clear p0 p1 p2 hP hP0 hW0 hAp hb g5 n5 hb4 h5
              go_wp2_with fail
              go_roundw
              case rel => exact ⟨k + 1, by omega, by go_num, by rw [hN.out, hE.out], by rw [hN.out, hE.out]; exact hW5.out, by rw [hN.out, hE.out]; exact H5.out, hA5.out, HB5.out⟩
              case measure => simp [intOf]; omega
    · obtain rfl : k = L.length := by omega
      obtain ⟨cap2, A2, rfl⟩ := hP0.form
      have H5 := Lib.hid hP0
      clear hW0 hAp hP0
      go_wp2_with fail
      go_ret
      exact ⟨_, rfl, by rw [HAL.out]; exact H5.out, hb⟩
end Go.Proofs.YtomfmejodmfioaaGreat
namespace Go.Proofs.YtomfmejodmfioaaGreat
open Go.RowKit Go.Maps Go.ChangeShapes Go.WideShapes Go.Joins Go.Deep
set_option linter.unusedVariables false


set_option maxRecDepth 100000 in
set_option maxHeartbeats 4000000 in

theorem mfree_any {B x N : Nat} {w : World} {b : MBlk} {V : MstV} {l : List UInt8} (h : MAt B w x b N V l) {now : Int} (ht : TOk now) {G : List (Int × Int)} {t : Int} (hG : freeM V now = (G, t)) :
    Calls Tryz.prog 78 #[.pointer (some ⟨x, 0, none⟩), .int .i64 now] w fun e w' => ∃ v, e = .returned (.tuple #[v, .int .i64 t]) ∧ MemsO w.heap.size w' v G ∧ Below w.heap.size w w' := by
  obtain rfl : G = (freeM V now).1 := by rw [hG]
  obtain rfl : t = (freeM V now).2 := by rw [hG]
  clear hG
  have hl8 := right_len h.ok.right
  have hlen := lateM_len (V := V) (now := now) hl8.2
  have hrs : Hid (∀ m ∈ lateM V now, ∃ n : Nat, n < 8 ∧ m.1 = n ∧ 1 ≤ m.2 ∧ m.2 ≤ 1099511627776) := Lib.hid (fun m hm => by
    obtain ⟨s, hs, rfl⟩ := lateM_mem hm
    exact right_seat h.ok.right hs)
  have HSN : Hid (∀ k m, (lateM V now)[k]? = some m → freeF V now ((lateM V now).take (k + 1)) = freeStep V now (freeF V now ((lateM V now).take k)) m) := Lib.hid (fun k m hm => freeF_snoc V now hm)
  have HLEN : Hid (∀ k, (freeF V now ((lateM V now).take k)).1.length ≤ 72) := Lib.hid (fun k => Nat.le_trans (freeF_len V now _) (by rw [List.length_take]; omega))
  have HAL : Hid (freeM V now = freeF V now ((lateM V now).take (lateM V now).length)) := Lib.hid (by rw [List.take_of_length_le (Nat.le_refl _)]; rfl)
  go_enter Tryz.func78, Tryz.ntmps78
  go_wp2_with fail
  refine (mlate_any h ht rfl).mono ?_
  rintro en w1 ⟨v0, rfl, hG0, b1⟩
  obtain ⟨A0, cap0, rfl⟩ := hG0.form
  obtain ⟨_, _, hqq, hG⟩ := hG0.v
  cases hqq
  have HM := Lib.hid (h.below b1)
  have HB1 := Lib.hid b1
  have HG := Lib.hid hG
  clear hG0 hG h b1
  have hb := Below.refl w1.heap.size w1
  have HC10 : Hid (∀ W, Below w1.heap.size w1 W → W.cell? ⟨x, 10, none⟩ = some (.pointer (some ⟨b.bk, 0, none⟩))) := Lib.hid (fun W hW => by
    obtain ⟨A, cap, hC, hX⟩ := (HM.out.below hW).cells
    exact hX.cell (mcells_low rfl))
  have HC21 : Hid (∀ W, Below w1.heap.size w1 W → W.cell? ⟨x, 21, none⟩ = some (.map (some b.nm))) := Lib.hid (fun W hW => by
    obtain ⟨A, cap, hC, hX⟩ := (HM.out.below hW).cells
    exact hX.cell (mcells_since (HM.out.ok.len)))
  generalize hgl : lateM V now = GL at *
  have HGL := Lib.hid hgl
  clear hgl
  go_wp2_with fail
  go_loopw [4, 5, 14] (fun lv sv i wr => ∃ (k : Nat), k ≤ GL.length ∧ i = .int .i64 k ∧ sv = .int .i64 (freeF V now (GL.take k)).2 ∧ MemsO w1.heap.size wr lv (freeF V now (GL.take k)).1 ∧ Below w1.heap.size w1 wr) (fun _ _ i _ => GL.length - (intOf i).toNat)
  case atStart => exact ⟨0, Nat.zero_le _, rfl, rfl, MemsO.nil _ _, hb⟩
  case round =>
    obtain ⟨k, hk, rfl, rfl, hL0, hb0⟩ := hrel
    clear hb
    have hb := hb0
    have hL := hL0
    clear hb0 hL0
    by_cases hlt' : k < GL.length
    · obtain ⟨q, off, rfl, hab, hc⟩ := HG.out.2 (by omega)
      obtain ⟨m, hm⟩ : ∃ m, GL[k]? = some m := ⟨_, List.getElem?_eq_getElem hlt'⟩
      obtain ⟨s0', s1'⟩ := hc k m hm
      have s0 : wr.cell? ⟨q, off + k * 2, none⟩ = some (.int .i64 m.1) := (hb.cell (p := ⟨q, _, none⟩) hab).trans s0'
      have s1 : wr.cell? ⟨q, off + k * 2 + 1, none⟩ = some (.int .i64 m.2) := (hb.cell (p := ⟨q, _, none⟩) hab).trans s1'
      have hN := Lib.hid (HSN.out k m hm)
      obtain ⟨n, hn8, hn, hl12⟩ := hrs.out m (List.mem_of_getElem? hm)
      have hln := HLEN.out k
      obtain ⟨x0, y⟩ := m
      simp only at s0 s1 hN hn hl12
      subst hn
      clear hc hm s0' s1'
      obtain ⟨P, t, hst⟩ : ∃ P t, freeF V now (GL.take k) = (P, t) := ⟨_, _, rfl⟩
      rw [hst] at hL hN hln ⊢
      simp only at hL hln ⊢
      clear hst
      go_upto_region 4 with (fail)
      have hP := BlkAt.new wr 42 [.int .i64 (n : Nat), .int .i64 y]
      replace hL := hL.below ((Below.refl _ _).alloc (Nat.le_refl _) (.cells #[.int .i64 (n : Nat), .int .i64 y] 42))
      replace hb := hb.alloc hb.size (.cells #[.int .i64 (n : Nat), .int .i64 y] 42)
      change Code.wp _ _ _ _ (wr.alloc (.cells #[.int .i64 (n : Nat), .int .i64 y] 42))
      change BlkAt (wr.alloc (.cells #[.int .i64 (n : Nat), .int .i64 y] 42)) _ _ _ at hP
      have hPn := (show wr.heap.size ≤ wr.heap.size from Nat.le_refl _)
      generalize wr.alloc (.cells #[.int .i64 (n : Nat), .int .i64 y] 42) = w3 at *
      generalize wr.heap.size = X at hP ⊢
      clear hPn
      clear s0 s1
      have bd : Below w3.heap.size w3 w3.drew := below_drewN (Below.refl _ _) 1
      replace hL := hL.below bd
      replace hP := hP.below bd
      replace hb := below_step hb bd
      clear bd
      cases hd : deadM V (n : Nat) y with
      | true =>
        have hE := Lib.hid (freeStep_no (V := V) (now := now) (st := (P, t)) (m := ((n : Nat), y)) (by simp [hd]))
        refine wp_region_noPanic ?_
        refine wp_region_held_drew (S := (fun w' => w'.cell? ⟨X, 0, none⟩ = some (.int .i64 (n : Nat)) ∧ w'.cell? ⟨X, 1, none⟩ = some (.int .i64 y) ∧ w'.cell? ⟨x, 10, none⟩ = some (.pointer (some ⟨b.bk, 0, none⟩)))) (by kernel_rfl) (by exact ⟨hP.cell rfl, hP.cell rfl, HC10.out _ hb⟩) (fun hHeld => ?_)
        refine wtk 0 hHeld ?_
        refine wtk 1 hHeld ?_
        refine wpAnyH_ready (rs := [2]) (by kernel_rfl) (by simp) (AllReadyH.cons (o := ?oq_1_2) ?op_1_2 (fun K hK => ?re_1_2) AllReadyH.nil)
        case op_1_2 => (simp only [List.getElem?_toArray, List.getElem?_cons_succ, List.getElem?_cons_zero]; rfl)
        go_simp
        go_at_call 77
        refine (mdead_any (by exact HM.out.below hb) hn8 hd).mono ?_
        rintro en w5 ⟨rfl, b5⟩
        replace hL := hL.below b5
        replace hP := hP.below b5
        replace hb := below_step hb b5
        clear b5
        refine hK.out _ _ (by exact ⟨hP.cell rfl, hP.cell rfl, HC10.out _ hb⟩) (fun hHeld => ?_)
        clear hK K
        try simp only [Act.put, List.setIfInBounds_toArray, List.set_cons_zero, List.set_cons_succ]
        refine wtk 3 hHeld ?_
        refine wpAnyH_take (i := 4) (oi := ?oq_1_4) (v := undef) ?op_1_4 (by kernel_rfl) (by kernel_rfl) (by kernel_rfl) (fun _ _ _ h => h) ?yi_1_4 hHeld ?re_1_4
        case op_1_4 => (simp only [List.getElem?_toArray, List.getElem?_cons_succ, List.getElem?_cons_zero]; rfl)
        case yi_1_4 => exact Or.inr ⟨by rfl, rfl⟩
        try simp only [Act.put, List.setIfInBounds_toArray, List.set_cons_zero, List.set_cons_succ]
        refine wpAnyH_take (i := 5) (oi := ?oq_1_5) (v := undef) ?op_1_5 (by kernel_rfl) (by kernel_rfl) (by kernel_rfl) (fun _ _ _ h => h) ?yi_1_5 hHeld ?re_1_5
        case op_1_5 => (simp only [List.getElem?_toArray, List.getElem?_cons_succ, List.getElem?_cons_zero]; rfl)
        case yi_1_5 => exact Or.inr ⟨by rfl, rfl⟩
        try simp only [Act.put, List.setIfInBounds_toArray, List.set_cons_zero, List.set_cons_succ]
        refine wpAnyH_take (i := 6) (oi := ?oq_1_6) (v := undef) ?op_1_6 (by kernel_rfl) (by kernel_rfl) (by kernel_rfl) (fun _ _ _ h => h) ?yi_1_6 hHeld ?re_1_6
        case op_1_6 => (simp only [List.getElem?_toArray, List.getElem?_cons_succ, List.getElem?_cons_zero]; rfl)
        case yi_1_6 => exact Or.inr ⟨by rfl, rfl⟩
        try simp only [Act.put, List.setIfInBounds_toArray, List.set_cons_zero, List.set_cons_succ]
        refine wpAnyH_take (i := 7) (oi := ?oq_1_7) (v := undef) ?op_1_7 (by kernel_rfl) (by kernel_rfl) (by kernel_rfl) (fun _ _ _ h => h) ?yi_1_7 hHeld ?re_1_7
        case op_1_7 => (simp only [List.getElem?_toArray, List.getElem?_cons_succ, List.getElem?_cons_zero]; rfl)
        case yi_1_7 => exact Or.inr ⟨by rfl, rfl⟩
        try simp only [Act.put, List.setIfInBounds_toArray, List.set_cons_zero, List.set_cons_succ]
        refine wpAnyH_take (i := 8) (oi := ?oq_1_8) (v := undef) ?op_1_8 (by kernel_rfl) (by kernel_rfl) (by kernel_rfl) (fun _ _ _ h => h) ?yi_1_8 hHeld ?re_1_8
        case op_1_8 => (simp only [List.getElem?_toArray, List.getElem?_cons_succ, List.getElem?_cons_zero]; rfl)
        case yi_1_8 => exact Or.inr ⟨by rfl, rfl⟩
        try simp only [Act.put, List.setIfInBounds_toArray, List.set_cons_zero, List.set_cons_succ]
        refine wpAnyH_take (i := 9) (oi := ?oq_1_9) (v := undef) ?op_1_9 (by kernel_rfl) (by kernel_rfl) (by kernel_rfl) (fun _ _ _ h => h) ?yi_1_9 hHeld ?re_1_9
        case op_1_9 => (simp only [List.getElem?_toArray, List.getElem?_cons_succ, List.getElem?_cons_zero]; rfl)
        case yi_1_9 => exact Or.inr ⟨by rfl, rfl⟩
        try simp only [Act.put, List.setIfInBounds_toArray, List.set_cons_zero, List.set_cons_succ]
        refine wpAnyH_take (i := 10) (oi := ?oq_1_10) (v := undef) ?op_1_10 (by kernel_rfl) (by kernel_rfl) (by kernel_rfl) (fun _ _ _ h => h) ?yi_1_10 hHeld ?re_1_10
        case op_1_10 => (simp only [List.getElem?_toArray, List.getElem?_cons_succ, List.getElem?_cons_zero]; rfl)
        case yi_1_10 => exact Or.inr ⟨by rfl, rfl⟩
        try simp only [Act.put, List.setIfInBounds_toArray, List.set_cons_zero, List.set_cons_succ]
        refine wpAnyH_take (i := 11) (oi := ?oq_1_11) (v := undef) ?op_1_11 (by kernel_rfl) (by kernel_rfl) (by kernel_rfl) (fun _ _ _ h => h) ?yi_1_11 hHeld ?re_1_11
        case op_1_11 => (simp only [List.getElem?_toArray, List.getElem?_cons_succ, List.getElem?_cons_zero]; rfl)
        case yi_1_11 => exact Or.inr ⟨by rfl, rfl⟩
        try simp only [Act.put, List.setIfInBounds_toArray, List.set_cons_zero, List.set_cons_succ]
        refine wtk 12 hHeld ?_
        refine wpAnyH_done (by kernel_rfl) ?_ _
        refine NoPanic.normal ?_
        have H5 := Lib.hid hL
        have HB5 := Lib.hid hb
        clear hL hb hP hHeld
        go_wp2_with fail
        go_roundw
        case rel => exact ⟨k + 1, by omega, by go_num, by rw [hN.out, hE.out], by rw [hN.out, hE.out]; exact H5.out, HB5.out⟩
        case measure => simp [intOf]; omega
      | false =>
        cases hf : freeB V (n : Nat) y now with
        | false =>
          have hE := Lib.hid (freeStep_no (V := V) (now := now) (st := (P, t)) (m := ((n : Nat), y)) (by simp [hf]))
          refine wp_region_noPanic ?_
          refine wp_region_held_drew (S := (fun w' => w'.cell? ⟨X, 0, none⟩ = some (.int .i64 (n : Nat)) ∧ w'.cell? ⟨X, 1, none⟩ = some (.int .i64 y) ∧ w'.cell? ⟨x, 10, none⟩ = some (.pointer (some ⟨b.bk, 0, none⟩)))) (by kernel_rfl) (by exact ⟨hP.cell rfl, hP.cell rfl, HC10.out _ hb⟩) (fun hHeld => ?_)
          refine wtk 0 hHeld ?_
          refine wtk 1 hHeld ?_
          refine wpAnyH_ready (rs := [2]) (by kernel_rfl) (by simp) (AllReadyH.cons (o := ?oq_2_2) ?op_2_2 (fun K hK => ?re_2_2) AllReadyH.nil)
          case op_2_2 => (simp only [List.getElem?_toArray, List.getElem?_cons_succ, List.getElem?_cons_zero]; rfl)
          go_simp
          go_at_call 77
          refine (mdead_any (by exact HM.out.below hb) hn8 hd).mono ?_
          rintro en w5 ⟨rfl, b5⟩
          replace hL := hL.below b5
          replace hP := hP.below b5
          replace hb := below_step hb b5
          clear b5
          refine hK.out _ _ (by exact ⟨hP.cell rfl, hP.cell rfl, HC10.out _ hb⟩) (fun hHeld => ?_)
          clear hK K
          try simp only [Act.put, List.setIfInBounds_toArray, List.set_cons_zero, List.set_cons_succ]
          refine wtk 3 hHeld ?_
          refine wtk 4 hHeld ?_
          refine wtk 5 hHeld ?_
          refine wtk 6 hHeld ?_
          refine wtk 7 hHeld ?_
          refine wtk 8 hHeld ?_
          refine wtk 9 hHeld ?_
          refine wpAnyH_ready (rs := [10]) (by kernel_rfl) (by simp) (AllReadyH.cons (o := ?oq_2_10) ?op_2_10 (fun K hK => ?re_2_10) AllReadyH.nil)
          case op_2_10 => (simp only [List.getElem?_toArray, List.getElem?_cons_succ, List.getElem?_cons_zero]; rfl)
          go_simp
          go_at_call 96
          refine (lfree_any (by exact (HM.out.below hb).book) (w64_nat hn8) (w64_life hl12) hf).mono ?_
          rintro en w6 ⟨rfl, b6⟩
          replace hL := hL.below b6
          replace hP := hP.below b6
          replace hb := below_step hb b6
          clear b6
          refine hK.out _ _ (by exact ⟨hP.cell rfl, hP.cell rfl, HC10.out _ hb⟩) (fun hHeld => ?_)
          clear hK K
          try simp only [Act.put, List.setIfInBounds_toArray, List.set_cons_zero, List.set_cons_succ]
          refine wtk 11 hHeld ?_
          refine wtk 12 hHeld ?_
          refine wpAnyH_done (by kernel_rfl) ?_ _
          refine NoPanic.normal ?_
          have H5 := Lib.hid hL
          have HB5 := Lib.hid hb
          clear hL hb hP hHeld
          go_wp2_with fail
          go_roundw
          case rel => exact ⟨k + 1, by omega, by go_num, by rw [hN.out, hE.out], by rw [hN.out, hE.out]; exact H5.out, HB5.out⟩
          case measure => simp [intOf]; omega
        | true =>
          have hE := Lib.hid (freeStep_yes (V := V) (now := now) (st := (P, t)) (m := ((n : Nat), y)) hd hf)
          refine wp_region_noPanic ?_
          refine wp_region_held_drew (S := (fun w' => w'.cell? ⟨X, 0, none⟩ = some (.int .i64 (n : Nat)) ∧ w'.cell? ⟨X, 1, none⟩ = some (.int .i64 y) ∧ w'.cell? ⟨x, 10, none⟩ = some (.pointer (some ⟨b.bk, 0, none⟩)))) (by kernel_rfl) (by exact ⟨hP.cell rfl, hP.cell rfl, HC10.out _ hb⟩) (fun hHeld => ?_)
          refine wtk 0 hHeld ?_
          refine wtk 1 hHeld ?_
          refine wpAnyH_ready (rs := [2]) (by kernel_rfl) (by simp) (AllReadyH.cons (o := ?oq_3_2) ?op_3_2 (fun K hK => ?re_3_2) AllReadyH.nil)
          case op_3_2 => (simp only [List.getElem?_toArray, List.getElem?_cons_succ, List.getElem?_cons_zero]; rfl)
          go_simp
          go_at_call 77
          refine (mdead_any (by exact HM.out.below hb) hn8 hd).mono ?_
          rintro en w5 ⟨rfl, b5⟩
          replace hL := hL.below b5
          replace hP := hP.below b5
          replace hb := below_step hb b5
          clear b5
          refine hK.out _ _ (by exact ⟨hP.cell rfl, hP.cell rfl, HC10.out _ hb⟩) (fun hHeld => ?_)
          clear hK K
          try simp only [Act.put, List.setIfInBounds_toArray, List.set_cons_zero, List.set_cons_succ]
          refine wtk 3 hHeld ?_
          refine wtk 4 hHeld ?_
          refine wtk 5 hHeld ?_
          refine wtk 6 hHeld ?_
          refine wtk 7 hHeld ?_
          refine wtk 8 hHeld ?_
          refine wtk 9 hHeld ?_
          refine wpAnyH_ready (rs := [10]) (by kernel_rfl) (by simp) (AllReadyH.cons (o := ?oq_3_10) ?op_3_10 (fun K hK => ?re_3_10) AllReadyH.nil)
          case op_3_10 => (simp only [List.getElem?_toArray, List.getElem?_cons_succ, List.getElem?_cons_zero]; rfl)
          go_simp
          go_at_call 96
          refine (lfree_any (by exact (HM.out.below hb).book) (w64_nat hn8) (w64_life hl12) hf).mono ?_
          rintro en w6 ⟨rfl, b6⟩
          replace hL := hL.below b6
          replace hP := hP.below b6
          replace hb := below_step hb b6
          clear b6
          refine hK.out _ _ (by exact ⟨hP.cell rfl, hP.cell rfl, HC10.out _ hb⟩) (fun hHeld => ?_)
          clear hK K
          try simp only [Act.put, List.setIfInBounds_toArray, List.set_cons_zero, List.set_cons_succ]
          refine wtk 11 hHeld ?_
          refine wtk 12 hHeld ?_
          refine wpAnyH_done (by kernel_rfl) ?_ _
          refine NoPanic.normal ?_
          clear hHeld
          go_upto_region 5 with (fail)
          have c21 := HC21.out _ hb
          have hlk : ∀ M, (Instr.lookup 30 (.map (some b.nm)) (.agg #[.int .i64 (n : Nat), .int .i64 y]) true).run Tryz.prog (w6.drewN M) = .ok (.tuple #[.int .i64 ((V.since (n : Nat) y).getD 0), .bool (V.since (n : Nat) y).isSome]) (w6.drewN M) := fun M => look_since (((HM.out.below hb).since).drewN M) (w64_nat hn8) (w64_life hl12)
          have p0 : w6.cell? ⟨X, 0, none⟩ = some (.int .i64 (n : Nat)) := hP.cell rfl
          have p1 : w6.cell? ⟨X, 1, none⟩ = some (.int .i64 y) := hP.cell rfl
          obtain ⟨at_, hat⟩ : ∃ u, u = (V.since (n : Nat) y).getD now := ⟨_, rfl⟩
          simp only at hE
          rw [← hat] at hE
          cases hsn : V.since (n : Nat) y with
          | none =>
            rw [hsn] at hlk hat
            simp only [Option.getD_none, Option.isSome_none] at hlk hat
            subst hat
            go_quiet (fail)
            have hLd := hL.below (below_drewN (Below.refl _ _) nq)
            have hPd := hP.below (below_drewN (Below.refl _ _) nq)
            have hbd := below_drewN hb nq
            clear hL hP hb p0 p1 c21 hlk
            generalize w6.drewN nq = w7 at *
            have p0 : w7.cell? ⟨X, 0, none⟩ = some (.int .i64 (n : Nat)) := hPd.cell rfl
            have p1 : w7.cell? ⟨X, 1, none⟩ = some (.int .i64 y) := hPd.cell rfl
            by_cases hmx : t < at_
            all_goals
              go_wp2_with (first | (at_builtin; refine wpList_append_mems rfl (.tmp 43) (.tmp 45) rfl rfl rfl (hLd.below ((Below.refl _ _).alloc (Nat.le_refl _) _)) (mem_one _ _ _) ?c1 ?c2 ?_))
              case c1 => first | omega | (simp; omega)
              case c2 => first | (have := hbd.size; omega) | (simp; have := hbd.size; omega)
              intro v5 w5 h5 g5 n5
              have hb4 := (Below.refl w7.heap.size w7).alloc (Nat.le_refl _) (.cells #[.int .i64 (n : Nat), .int .i64 y] 42)
              have HB5 := Lib.hid ((below_step hbd hb4).grown g5 (below_step hbd hb4).size (fun j hj => (hLd.lt j hj).1))
              have H5 := Lib.hid h5
              clear p0 p1 hPd hLd hbd g5 n5 hb4 h5
              go_wp2_with fail
              go_roundw
              case rel => exact ⟨k + 1, by omega, by go_num, by rw [hN.out, hE.out], by rw [hN.out, hE.out]; exact H5.out, HB5.out⟩
              case measure => simp [intOf]; omega
          | some t9 =>
            rw [hsn] at hlk hat
            simp only [Option.getD_some, Option.isSome_some] at hlk hat
            subst hat
            go_quiet (fail)
            have hLd := hL.below (below_drewN (Below.refl _ _) nq)
            have hPd := hP.below (below_drewN (Below.refl _ _) nq)
            have hbd := below_drewN hb nq
            clear hL hP hb p0 p1 c21 hlk
            generalize w6.drewN nq = w7 at *
            have p0 : w7.cell? ⟨X, 0, none⟩ = some (.int .i64 (n : Nat)) := hPd.cell rfl
            have p1 : w7.cell? ⟨X, 1, none⟩ = some (.int .i64 y) := hPd.cell rfl
            by_cases hmx : t < at_
            all_goals
              go_wp2_with (first | (at_builtin; refine wpList_append_mems rfl (.tmp 43) (.tmp 45) rfl rfl rfl (hLd.below ((Below.refl _ _).alloc (Nat.le_refl _) _)) (mem_one _ _ _) ?c1 ?c2 ?_))
              case c1 => first | omega | (simp; omega)
              case c2 => first | (have := hbd.size; omega) | (simp; have := hbd.size; omega)
              intro v5 w5 h5 g5 n5
              have hb4 := (Below.refl w7.heap.size w7).alloc (Nat.le_refl _) (.cells #[.int .i64 (n : Nat), .int .i64 y] 42)
              have HB5 := Lib.hid ((below_step hbd hb4).grown g5 (below_step hbd hb4).size (fun j hj => (hLd.lt j hj).1))
              have H5 := Lib.hid h5
              clear p0 p1 hPd hLd hbd g5 n5 hb4 h5
              go_wp2_with fail
              go_roundw
              case rel => exact ⟨k + 1, by omega, by go_num, by rw [hN.out, hE.out], by rw [hN.out, hE.out]; exact H5.out, HB5.out⟩
              case measure => simp [intOf]; omega
    · obtain rfl : k = GL.length := by omega
      obtain ⟨A2, cap2, rfl⟩ := hL.form
      have H5 := Lib.hid hL
      clear hL
      go_wp2_with fail
      go_ret2
      exact ⟨.slice A2 (freeF V now (GL.take GL.length)).1.length cap2, by rw [HAL.out]; rfl, by rw [HAL.out]; exact H5.out.mono HB1.out.size, below_step HB1.out hb⟩
/-- Since when somebody is free. -/
theorem free_fold_time {V : MstV} (hV : MOk V) {now : Int} (ht : TOk now) : ∀ (L : List (Int × Int)) (st : List (Int × Int) × Int), TOk st.2 → TOk (L.foldl (freeStep V now) st).2
  | [], st, h => h
  | m :: L, st, h => by
    rw [List.foldl_cons]
    refine free_fold_time hV ht L _ ?_
    unfold freeStep
    split
    · exact h
    · have : TOk ((V.since m.1 m.2).getD now) := by
        cases hs : V.since m.1 m.2 with
        | none => exact ht
        | some t => exact hV.since _ _ _ hs
      unfold TOk at *
      simp only
      omega
theorem freeM_time {V : MstV} (hV : MOk V) {now : Int} (ht : TOk now) : TOk (freeM V now).2 := free_fold_time hV ht _ _ ⟨by decide, by decide⟩
end Go.Proofs.YtomfmejodmfioaaGreat
namespace Go.Proofs.YtomfmejodmfioaaGreat
open Go.RowKit Go.Maps Go.ChangeShapes Go.WideShapes Go.Joins Go.Deep
set_option linter.unusedVariables false


set_option maxRecDepth 100000 in
set_option maxHeartbeats 4000000 in

theorem mwit1_any {B x N : Nat} {w : World} {b : MBlk} {V : MstV} {l : List UInt8} (h : MAt B w x b N V l) {lv xv sv : Nat} {T1 T2 T3 : TypeId} {vl : Value} {G : List (Int × Int)} (hlv : BlkAt w lv T1 [vl]) (hG : MemsV w vl G) (hxv : BlkAt w xv T2 [.pointer (some ⟨x, 0, none⟩)])
    {since : Int} (hsv : BlkAt w sv T3 [.int .i64 since]) (hts : TOk since) {n y : Int} (hn : W64 n) (hy : W64 y) (z : Bool) :
    Calls Tryz.prog 97 #[.agg #[.int .i64 n, .int .i64 y, .bool z], .pointer (some ⟨lv, 0, none⟩), .pointer (some ⟨xv, 0, none⟩), .pointer (some ⟨sv, 0, none⟩)] w fun e w' => e = .returned (.bool (witS V G since ⟨n, y, z⟩)) ∧ Below w.heap.size w w' := by
  have HX := Lib.hid h.lows
  have HLK : Hid (∀ W, Below w.heap.size w W → (Instr.lookup 84 (.map (some b.bm)) (.agg #[.int .i64 n, .int .i64 y]) false).run Tryz.prog W = .ok (.agg #[.int .i64 (V.beat n y).time, .int .i64 (V.beat n y).epoch, .bool (V.beat n y).synced, .int .i64 (V.beat n y).echo]) W) := Lib.hid (fun W hW => look_beat (h.below hW).beats hn hy)
  have hle := h.ok.susp
  have HW := Lib.hid (show witS V G since ⟨n, y, z⟩ = (z && (!G.contains (n, y) && decide (since + V.s.lease ≤ (V.beat n y).echo))) from rfl)
  have hfd : ∀ w : World, (Instr.field 102 (.agg #[.int .i64 (V.beat n y).time, .int .i64 (V.beat n y).epoch, .bool (V.beat n y).synced, .int .i64 (V.beat n y).echo]) 3).run Tryz.prog w = .ok (.int .i64 (V.beat n y).echo) w := fun _ => by kernel_rfl
  have hadd : IntKind.i64.wrap (since + V.s.lease) = since + V.s.lease := by rw [IntKind.wrap_i64]; unfold TOk at hts; omega
  generalize V.beat n y = bt at *
  have hb := Below.refl w.heap.size w
  clear h
  go_enter Tryz.func97, Tryz.ntmps97
  go_upto_region 1 with (fail)
  have hY := BlkAt.new w 49 [.int .i64 n, .int .i64 y, .bool z]
  replace hlv := hlv.below ((Below.refl _ _).alloc (Nat.le_refl _) (.cells #[.int .i64 n, .int .i64 y, .bool z] 49))
  replace hxv := hxv.below ((Below.refl _ _).alloc (Nat.le_refl _) (.cells #[.int .i64 n, .int .i64 y, .bool z] 49))
  replace hsv := hsv.below ((Below.refl _ _).alloc (Nat.le_refl _) (.cells #[.int .i64 n, .int .i64 y, .bool z] 49))
  replace hG := hG.below ((Below.refl _ _).alloc (Nat.le_refl _) (.cells #[.int .i64 n, .int .i64 y, .bool z] 49))
  replace hb := hb.alloc hb.size (.cells #[.int .i64 n, .int .i64 y, .bool z] 49)
  change Code.wp _ _ _ _ (w.alloc (.cells #[.int .i64 n, .int .i64 y, .bool z] 49))
  change BlkAt (w.alloc (.cells #[.int .i64 n, .int .i64 y, .bool z] 49)) _ _ _ at hY
  have hYn := (show w.heap.size ≤ w.heap.size from Nat.le_refl _)
  generalize w.alloc (.cells #[.int .i64 n, .int .i64 y, .bool z] 49) = w3 at *
  generalize w.heap.size = Y at hY ⊢
  clear hYn
  have bd : Below w3.heap.size w3 w3.drew := below_drewN (Below.refl _ _) 1
  replace hY := hY.below bd
  replace hlv := hlv.below bd
  replace hxv := hxv.below bd
  replace hsv := hsv.below bd
  replace hG := hG.below bd
  replace hb := below_step hb bd
  clear bd
  cases z with
  | false =>
    refine wp_region_noPanic ?_
    refine wp_region_held_drew (S := (fun w' => w'.cell? ⟨Y, 0, none⟩ = some (.int .i64 n) ∧ w'.cell? ⟨Y, 1, none⟩ = some (.int .i64 y) ∧ w'.cell? ⟨Y, 2, none⟩ = some (.bool false) ∧ w'.cell? ⟨lv, 0, none⟩ = some vl ∧ w'.cell? ⟨xv, 0, none⟩ = some (.pointer (some ⟨x, 0, none⟩)) ∧ w'.cell? ⟨sv, 0, none⟩ = some (.int .i64 since) ∧ w'.cell? ⟨x, 11, none⟩ = some (.map (some b.bm)) ∧ w'.cell? ⟨x, 3, none⟩ = some (.int .i64 V.s.lease) ∧ (Instr.lookup 84 (.map (some b.bm)) (.agg #[.int .i64 n, .int .i64 y]) false).run Tryz.prog w' = .ok (.agg #[.int .i64 bt.time, .int .i64 bt.epoch, .bool bt.synced, .int .i64 bt.echo]) w')) (by kernel_rfl) (by exact ⟨hY.cell rfl, hY.cell rfl, hY.cell rfl, hlv.cell rfl, hxv.cell rfl, hsv.cell rfl, HX.out _ hb 11 _ rfl, HX.out _ hb 3 _ rfl, HLK.out _ hb⟩) (fun hHeld => ?_)
    refine wtk 0 hHeld ?_
    refine wtk 1 hHeld ?_
    refine wtk 2 hHeld ?_
    refine wpAnyH_take (i := 3) (oi := ?oq_1_3) (v := undef) ?op_1_3 (by kernel_rfl) (by kernel_rfl) (by kernel_rfl) (fun _ _ _ h => h) ?yi_1_3 hHeld ?re_1_3
    case op_1_3 => (simp only [List.getElem?_toArray, List.getElem?_cons_succ, List.getElem?_cons_zero]; rfl)
    case yi_1_3 => exact Or.inr ⟨by rfl, rfl⟩
    try simp only [Act.put, List.setIfInBounds_toArray, List.set_cons_zero, List.set_cons_succ]
    refine wpAnyH_take (i := 4) (oi := ?oq_1_4) (v := undef) ?op_1_4 (by kernel_rfl) (by kernel_rfl) (by kernel_rfl) (fun _ _ _ h => h) ?yi_1_4 hHeld ?re_1_4
    case op_1_4 => (simp only [List.getElem?_toArray, List.getElem?_cons_succ, List.getElem?_cons_zero]; rfl)
    case yi_1_4 => exact Or.inr ⟨by rfl, rfl⟩
    try simp only [Act.put, List.setIfInBounds_toArray, List.set_cons_zero, List.set_cons_succ]
    refine wpAnyH_take (i := 5) (oi := ?oq_1_5) (v := undef) ?op_1_5 (by kernel_rfl) (by kernel_rfl) (by kernel_rfl) (fun _ _ _ h => h) ?yi_1_5 hHeld ?re_1_5
    case op_1_5 => (simp only [List.getElem?_toArray, List.getElem?_cons_succ, List.getElem?_cons_zero]; rfl)
    case yi_1_5 => exact Or.inr ⟨by rfl, rfl⟩
    try simp only [Act.put, List.setIfInBounds_toArray, List.set_cons_zero, List.set_cons_succ]
    refine wpAnyH_take (i := 6) (oi := ?oq_1_6) (v := undef) ?op_1_6 (by kernel_rfl) (by kernel_rfl) (by kernel_rfl) (fun _ _ _ h => h) ?yi_1_6 hHeld ?re_1_6
    case op_1_6 => (simp only [List.getElem?_toArray, List.getElem?_cons_succ, List.getElem?_cons_zero]; rfl)
    case yi_1_6 => exact Or.inr ⟨by rfl, rfl⟩
    try simp only [Act.put, List.setIfInBounds_toArray, List.set_cons_zero, List.set_cons_succ]
    refine wpAnyH_take (i := 7) (oi := ?oq_1_7) (v := undef) ?op_1_7 (by kernel_rfl) (by kernel_rfl) (by kernel_rfl) (fun _ _ _ h => h) ?yi_1_7 hHeld ?re_1_7
    case op_1_7 => (simp only [List.getElem?_toArray, List.getElem?_cons_succ, List.getElem?_cons_zero]; rfl)
    case yi_1_7 => exact Or.inr ⟨by rfl, rfl⟩
    try simp only [Act.put, List.setIfInBounds_toArray, List.set_cons_zero, List.set_cons_succ]
    refine wtk 8 hHeld ?_
    refine wtk 9 hHeld ?_
    refine wpAnyH_take (i := 10) (oi := ?oq_1_10) (v := undef) ?op_1_10 (by kernel_rfl) (by kernel_rfl) (by kernel_rfl) (fun _ _ _ h => h) ?yi_1_10 hHeld ?re_1_10
    case op_1_10 => (simp only [List.getElem?_toArray, List.getElem?_cons_succ, List.getElem?_cons_zero]; rfl)
    case yi_1_10 => exact Or.inr ⟨by rfl, rfl⟩
    try simp only [Act.put, List.setIfInBounds_toArray, List.set_cons_zero, List.set_cons_succ]
    refine wpAnyH_take (i := 11) (oi := ?oq_1_11) (v := undef) ?op_1_11 (by kernel_rfl) (by kernel_rfl) (by kernel_rfl) (fun _ _ _ h => h) ?yi_1_11 hHeld ?re_1_11
    case op_1_11 => (simp only [List.getElem?_toArray, List.getElem?_cons_succ, List.getElem?_cons_zero]; rfl)
    case yi_1_11 => exact Or.inr ⟨by rfl, rfl⟩
    try simp only [Act.put, List.setIfInBounds_toArray, List.set_cons_zero, List.set_cons_succ]
    refine wpAnyH_take (i := 12) (oi := ?oq_1_12) (v := undef) ?op_1_12 (by kernel_rfl) (by kernel_rfl) (by kernel_rfl) (fun _ _ _ h => h) ?yi_1_12 hHeld ?re_1_12
    case op_1_12 => (simp only [List.getElem?_toArray, List.getElem?_cons_succ, List.getElem?_cons_zero]; rfl)
    case yi_1_12 => exact Or.inr ⟨by rfl, rfl⟩
    try simp only [Act.put, List.setIfInBounds_toArray, List.set_cons_zero, List.set_cons_succ]
    refine wpAnyH_take (i := 13) (oi := ?oq_1_13) (v := undef) ?op_1_13 (by kernel_rfl) (by kernel_rfl) (by kernel_rfl) (fun _ _ _ h => h) ?yi_1_13 hHeld ?re_1_13
    case op_1_13 => (simp only [List.getElem?_toArray, List.getElem?_cons_succ, List.getElem?_cons_zero]; rfl)
    case yi_1_13 => exact Or.inr ⟨by rfl, rfl⟩
    try simp only [Act.put, List.setIfInBounds_toArray, List.set_cons_zero, List.set_cons_succ]
    refine wpAnyH_take (i := 14) (oi := ?oq_1_14) (v := undef) ?op_1_14 (by kernel_rfl) (by kernel_rfl) (by kernel_rfl) (fun _ _ _ h => h) ?yi_1_14 hHeld ?re_1_14
    case op_1_14 => (simp only [List.getElem?_toArray, List.getElem?_cons_succ, List.getElem?_cons_zero]; rfl)
    case yi_1_14 => exact Or.inr ⟨by rfl, rfl⟩
    try simp only [Act.put, List.setIfInBounds_toArray, List.set_cons_zero, List.set_cons_succ]
    refine wpAnyH_take (i := 15) (oi := ?oq_1_15) (v := undef) ?op_1_15 (by kernel_rfl) (by kernel_rfl) (by kernel_rfl) (fun _ _ _ h => h) ?yi_1_15 hHeld ?re_1_15
    case op_1_15 => (simp only [List.getElem?_toArray, List.getElem?_cons_succ, List.getElem?_cons_zero]; rfl)
    case yi_1_15 => exact Or.inr ⟨by rfl, rfl⟩
    try simp only [Act.put, List.setIfInBounds_toArray, List.set_cons_zero, List.set_cons_succ]
    refine wpAnyH_take (i := 16) (oi := ?oq_1_16) (v := undef) ?op_1_16 (by kernel_rfl) (by kernel_rfl) (by kernel_rfl) (fun _ _ _ h => h) ?yi_1_16 hHeld ?re_1_16
    case op_1_16 => (simp only [List.getElem?_toArray, List.getElem?_cons_succ, List.getElem?_cons_zero]; rfl)
    case yi_1_16 => exact Or.inr ⟨by rfl, rfl⟩
    try simp only [Act.put, List.setIfInBounds_toArray, List.set_cons_zero, List.set_cons_succ]
    refine wpAnyH_take (i := 17) (oi := ?oq_1_17) (v := undef) ?op_1_17 (by kernel_rfl) (by kernel_rfl) (by kernel_rfl) (fun _ _ _ h => h) ?yi_1_17 hHeld ?re_1_17
    case op_1_17 => (simp only [List.getElem?_toArray, List.getElem?_cons_succ, List.getElem?_cons_zero]; rfl)
    case yi_1_17 => exact Or.inr ⟨by rfl, rfl⟩
    try simp only [Act.put, List.setIfInBounds_toArray, List.set_cons_zero, List.set_cons_succ]
    refine wpAnyH_take (i := 18) (oi := ?oq_1_18) (v := undef) ?op_1_18 (by kernel_rfl) (by kernel_rfl) (by kernel_rfl) (fun _ _ _ h => h) ?yi_1_18 hHeld ?re_1_18
    case op_1_18 => (simp only [List.getElem?_toArray, List.getElem?_cons_succ, List.getElem?_cons_zero]; rfl)
    case yi_1_18 => exact Or.inr ⟨by rfl, rfl⟩
    try simp only [Act.put, List.setIfInBounds_toArray, List.set_cons_zero, List.set_cons_succ]
    refine wpAnyH_take (i := 19) (oi := ?oq_1_19) (v := undef) ?op_1_19 (by kernel_rfl) (by kernel_rfl) (by kernel_rfl) (fun _ _ _ h => h) ?yi_1_19 hHeld ?re_1_19
    case op_1_19 => (simp only [List.getElem?_toArray, List.getElem?_cons_succ, List.getElem?_cons_zero]; rfl)
    case yi_1_19 => exact Or.inr ⟨by rfl, rfl⟩
    try simp only [Act.put, List.setIfInBounds_toArray, List.set_cons_zero, List.set_cons_succ]
    refine wpAnyH_take (i := 20) (oi := ?oq_1_20) (v := undef) ?op_1_20 (by kernel_rfl) (by kernel_rfl) (by kernel_rfl) (fun _ _ _ h => h) ?yi_1_20 hHeld ?re_1_20
    case op_1_20 => (simp only [List.getElem?_toArray, List.getElem?_cons_succ, List.getElem?_cons_zero]; rfl)
    case yi_1_20 => exact Or.inr ⟨by rfl, rfl⟩
    try simp only [Act.put, List.setIfInBounds_toArray, List.set_cons_zero, List.set_cons_succ]
    refine wpAnyH_take (i := 21) (oi := ?oq_1_21) (v := undef) ?op_1_21 (by kernel_rfl) (by kernel_rfl) (by kernel_rfl) (fun _ _ _ h => h) ?yi_1_21 hHeld ?re_1_21
    case op_1_21 => (simp only [List.getElem?_toArray, List.getElem?_cons_succ, List.getElem?_cons_zero]; rfl)
    case yi_1_21 => exact Or.inr ⟨by rfl, rfl⟩
    try simp only [Act.put, List.setIfInBounds_toArray, List.set_cons_zero, List.set_cons_succ]
    refine wpAnyH_take (i := 22) (oi := ?oq_1_22) (v := undef) ?op_1_22 (by kernel_rfl) (by kernel_rfl) (by kernel_rfl) (fun _ _ _ h => h) ?yi_1_22 hHeld ?re_1_22
    case op_1_22 => (simp only [List.getElem?_toArray, List.getElem?_cons_succ, List.getElem?_cons_zero]; rfl)
    case yi_1_22 => exact Or.inr ⟨by rfl, rfl⟩
    try simp only [Act.put, List.setIfInBounds_toArray, List.set_cons_zero, List.set_cons_succ]
    refine wpAnyH_take (i := 23) (oi := ?oq_1_23) (v := undef) ?op_1_23 (by kernel_rfl) (by kernel_rfl) (by kernel_rfl) (fun _ _ _ h => h) ?yi_1_23 hHeld ?re_1_23
    case op_1_23 => (simp only [List.getElem?_toArray, List.getElem?_cons_succ, List.getElem?_cons_zero]; rfl)
    case yi_1_23 => exact Or.inr ⟨by rfl, rfl⟩
    try simp only [Act.put, List.setIfInBounds_toArray, List.set_cons_zero, List.set_cons_succ]
    refine wpAnyH_take (i := 24) (oi := ?oq_1_24) (v := undef) ?op_1_24 (by kernel_rfl) (by kernel_rfl) (by kernel_rfl) (fun _ _ _ h => h) ?yi_1_24 hHeld ?re_1_24
    case op_1_24 => (simp only [List.getElem?_toArray, List.getElem?_cons_succ, List.getElem?_cons_zero]; rfl)
    case yi_1_24 => exact Or.inr ⟨by rfl, rfl⟩
    try simp only [Act.put, List.setIfInBounds_toArray, List.set_cons_zero, List.set_cons_succ]
    refine wpAnyH_take (i := 25) (oi := ?oq_1_25) (v := undef) ?op_1_25 (by kernel_rfl) (by kernel_rfl) (by kernel_rfl) (fun _ _ _ h => h) ?yi_1_25 hHeld ?re_1_25
    case op_1_25 => (simp only [List.getElem?_toArray, List.getElem?_cons_succ, List.getElem?_cons_zero]; rfl)
    case yi_1_25 => exact Or.inr ⟨by rfl, rfl⟩
    try simp only [Act.put, List.setIfInBounds_toArray, List.set_cons_zero, List.set_cons_succ]
    refine wtk 26 hHeld ?_
    refine wtk 27 hHeld ?_
    refine wpAnyH_done (by kernel_rfl) ?_ _
    refine NoPanic.normal ?_
    go_wp2_with fail
    go_ret
    exact ⟨by rw [HW.out]; rfl, hb⟩
  | true =>
    cases hc : G.contains (n, y) with
    | true =>
      refine wp_region_noPanic ?_
      refine wp_region_held_drew (S := (fun w' => w'.cell? ⟨Y, 0, none⟩ = some (.int .i64 n) ∧ w'.cell? ⟨Y, 1, none⟩ = some (.int .i64 y) ∧ w'.cell? ⟨Y, 2, none⟩ = some (.bool true) ∧ w'.cell? ⟨lv, 0, none⟩ = some vl ∧ w'.cell? ⟨xv, 0, none⟩ = some (.pointer (some ⟨x, 0, none⟩)) ∧ w'.cell? ⟨sv, 0, none⟩ = some (.int .i64 since) ∧ w'.cell? ⟨x, 11, none⟩ = some (.map (some b.bm)) ∧ w'.cell? ⟨x, 3, none⟩ = some (.int .i64 V.s.lease) ∧ (Instr.lookup 84 (.map (some b.bm)) (.agg #[.int .i64 n, .int .i64 y]) false).run Tryz.prog w' = .ok (.agg #[.int .i64 bt.time, .int .i64 bt.epoch, .bool bt.synced, .int .i64 bt.echo]) w')) (by kernel_rfl) (by exact ⟨hY.cell rfl, hY.cell rfl, hY.cell rfl, hlv.cell rfl, hxv.cell rfl, hsv.cell rfl, HX.out _ hb 11 _ rfl, HX.out _ hb 3 _ rfl, HLK.out _ hb⟩) (fun hHeld => ?_)
      refine wtk 0 hHeld ?_
      refine wtk 1 hHeld ?_
      refine wtk 2 hHeld ?_
      refine wtk 3 hHeld ?_
      refine wtk 4 hHeld ?_
      refine wtk 5 hHeld ?_
      refine wpAnyH_ready (rs := [6]) (by kernel_rfl) (by simp) (AllReadyH.cons (o := ?oq_2_6) ?op_2_6 (fun K hK => ?re_2_6) AllReadyH.nil)
      case op_2_6 => (simp only [List.getElem?_toArray, List.getElem?_cons_succ, List.getElem?_cons_zero]; rfl)
      go_simp
      go_at_call 72
      refine (contmem_any (by exact hG) n y).mono ?_
      rintro en w5 ⟨rfl, b5⟩
      rw [hc]
      replace hY := hY.below b5
      replace hlv := hlv.below b5
      replace hxv := hxv.below b5
      replace hsv := hsv.below b5
      replace hG := hG.below b5
      replace hb := below_step hb b5
      clear b5
      refine hK.out _ _ (by exact ⟨hY.cell rfl, hY.cell rfl, hY.cell rfl, hlv.cell rfl, hxv.cell rfl, hsv.cell rfl, HX.out _ hb 11 _ rfl, HX.out _ hb 3 _ rfl, HLK.out _ hb⟩) (fun hHeld => ?_)
      clear hK K
      try simp only [Act.put, List.setIfInBounds_toArray, List.set_cons_zero, List.set_cons_succ]
      refine wtk 7 hHeld ?_
      refine wtk 8 hHeld ?_
      refine wtk 9 hHeld ?_
      refine wpAnyH_take (i := 10) (oi := ?oq_2_10) (v := undef) ?op_2_10 (by kernel_rfl) (by kernel_rfl) (by kernel_rfl) (fun _ _ _ h => h) ?yi_2_10 hHeld ?re_2_10
      case op_2_10 => (simp only [List.getElem?_toArray, List.getElem?_cons_succ, List.getElem?_cons_zero]; rfl)
      case yi_2_10 => exact Or.inr ⟨by rfl, rfl⟩
      try simp only [Act.put, List.setIfInBounds_toArray, List.set_cons_zero, List.set_cons_succ]
      refine wpAnyH_take (i := 11) (oi := ?oq_2_11) (v := undef) ?op_2_11 (by kernel_rfl) (by kernel_rfl) (by kernel_rfl) (fun _ _ _ h => h) ?yi_2_11 hHeld ?re_2_11
      case op_2_11 => (simp only [List.getElem?_toArray, List.getElem?_cons_succ, List.getElem?_cons_zero]; rfl)
      case yi_2_11 => exact Or.inr ⟨by rfl, rfl⟩
      try simp only [Act.put, List.setIfInBounds_toArray, List.set_cons_zero, List.set_cons_succ]
      refine wpAnyH_take (i := 12) (oi := ?oq_2_12) (v := undef) ?op_2_12 (by kernel_rfl) (by kernel_rfl) (by kernel_rfl) (fun _ _ _ h => h) ?yi_2_12 hHeld ?re_2_12
      case op_2_12 => (simp only [List.getElem?_toArray, List.getElem?_cons_succ, List.getElem?_cons_zero]; rfl)
      case yi_2_12 => exact Or.inr ⟨by rfl, rfl⟩
      try simp only [Act.put, List.setIfInBounds_toArray, List.set_cons_zero, List.set_cons_succ]
      refine wpAnyH_take (i := 13) (oi := ?oq_2_13) (v := undef) ?op_2_13 (by kernel_rfl) (by kernel_rfl) (by kernel_rfl) (fun _ _ _ h => h) ?yi_2_13 hHeld ?re_2_13
      case op_2_13 => (simp only [List.getElem?_toArray, List.getElem?_cons_succ, List.getElem?_cons_zero]; rfl)
      case yi_2_13 => exact Or.inr ⟨by rfl, rfl⟩
      try simp only [Act.put, List.setIfInBounds_toArray, List.set_cons_zero, List.set_cons_succ]
      refine wpAnyH_take (i := 14) (oi := ?oq_2_14) (v := undef) ?op_2_14 (by kernel_rfl) (by kernel_rfl) (by kernel_rfl) (fun _ _ _ h => h) ?yi_2_14 hHeld ?re_2_14
      case op_2_14 => (simp only [List.getElem?_toArray, List.getElem?_cons_succ, List.getElem?_cons_zero]; rfl)
      case yi_2_14 => exact Or.inr ⟨by rfl, rfl⟩
      try simp only [Act.put, List.setIfInBounds_toArray, List.set_cons_zero, List.set_cons_succ]
      refine wpAnyH_take (i := 15) (oi := ?oq_2_15) (v := undef) ?op_2_15 (by kernel_rfl) (by kernel_rfl) (by kernel_rfl) (fun _ _ _ h => h) ?yi_2_15 hHeld ?re_2_15
      case op_2_15 => (simp only [List.getElem?_toArray, List.getElem?_cons_succ, List.getElem?_cons_zero]; rfl)
      case yi_2_15 => exact Or.inr ⟨by rfl, rfl⟩
      try simp only [Act.put, List.setIfInBounds_toArray, List.set_cons_zero, List.set_cons_succ]
      refine wpAnyH_take (i := 16) (oi := ?oq_2_16) (v := undef) ?op_2_16 (by kernel_rfl) (by kernel_rfl) (by kernel_rfl) (fun _ _ _ h => h) ?yi_2_16 hHeld ?re_2_16
      case op_2_16 => (simp only [List.getElem?_toArray, List.getElem?_cons_succ, List.getElem?_cons_zero]; rfl)
      case yi_2_16 => exact Or.inr ⟨by rfl, rfl⟩
      try simp only [Act.put, List.setIfInBounds_toArray, List.set_cons_zero, List.set_cons_succ]
      refine wpAnyH_take (i := 17) (oi := ?oq_2_17) (v := undef) ?op_2_17 (by kernel_rfl) (by kernel_rfl) (by kernel_rfl) (fun _ _ _ h => h) ?yi_2_17 hHeld ?re_2_17
      case op_2_17 => (simp only [List.getElem?_toArray, List.getElem?_cons_succ, List.getElem?_cons_zero]; rfl)
      case yi_2_17 => exact Or.inr ⟨by rfl, rfl⟩
      try simp only [Act.put, List.setIfInBounds_toArray, List.set_cons_zero, List.set_cons_succ]
      refine wpAnyH_take (i := 18) (oi := ?oq_2_18) (v := undef) ?op_2_18 (by kernel_rfl) (by kernel_rfl) (by kernel_rfl) (fun _ _ _ h => h) ?yi_2_18 hHeld ?re_2_18
      case op_2_18 => (simp only [List.getElem?_toArray, List.getElem?_cons_succ, List.getElem?_cons_zero]; rfl)
      case yi_2_18 => exact Or.inr ⟨by rfl, rfl⟩
      try simp only [Act.put, List.setIfInBounds_toArray, List.set_cons_zero, List.set_cons_succ]
      refine wpAnyH_take (i := 19) (oi := ?oq_2_19) (v := undef) ?op_2_19 (by kernel_rfl) (by kernel_rfl) (by kernel_rfl) (fun _ _ _ h => h) ?yi_2_19 hHeld ?re_2_19
      case op_2_19 => (simp only [List.getElem?_toArray, List.getElem?_cons_succ, List.getElem?_cons_zero]; rfl)
      case yi_2_19 => exact Or.inr ⟨by rfl, rfl⟩
      try simp only [Act.put, List.setIfInBounds_toArray, List.set_cons_zero, List.set_cons_succ]
      refine wpAnyH_take (i := 20) (oi := ?oq_2_20) (v := undef) ?op_2_20 (by kernel_rfl) (by kernel_rfl) (by kernel_rfl) (fun _ _ _ h => h) ?yi_2_20 hHeld ?re_2_20
      case op_2_20 => (simp only [List.getElem?_toArray, List.getElem?_cons_succ, List.getElem?_cons_zero]; rfl)
      case yi_2_20 => exact Or.inr ⟨by rfl, rfl⟩
      try simp only [Act.put, List.setIfInBounds_toArray, List.set_cons_zero, List.set_cons_succ]
      refine wpAnyH_take (i := 21) (oi := ?oq_2_21) (v := undef) ?op_2_21 (by kernel_rfl) (by kernel_rfl) (by kernel_rfl) (fun _ _ _ h => h) ?yi_2_21 hHeld ?re_2_21
      case op_2_21 => (simp only [List.getElem?_toArray, List.getElem?_cons_succ, List.getElem?_cons_zero]; rfl)
      case yi_2_21 => exact Or.inr ⟨by rfl, rfl⟩
      try simp only [Act.put, List.setIfInBounds_toArray, List.set_cons_zero, List.set_cons_succ]
      refine wpAnyH_take (i := 22) (oi := ?oq_2_22) (v := undef) ?op_2_22 (by kernel_rfl) (by kernel_rfl) (by kernel_rfl) (fun _ _ _ h => h) ?yi_2_22 hHeld ?re_2_22
      case op_2_22 => (simp only [List.getElem?_toArray, List.getElem?_cons_succ, List.getElem?_cons_zero]; rfl)
      case yi_2_22 => exact Or.inr ⟨by rfl, rfl⟩
      try simp only [Act.put, List.setIfInBounds_toArray, List.set_cons_zero, List.set_cons_succ]
      refine wpAnyH_take (i := 23) (oi := ?oq_2_23) (v := undef) ?op_2_23 (by kernel_rfl) (by kernel_rfl) (by kernel_rfl) (fun _ _ _ h => h) ?yi_2_23 hHeld ?re_2_23
      case op_2_23 => (simp only [List.getElem?_toArray, List.getElem?_cons_succ, List.getElem?_cons_zero]; rfl)
      case yi_2_23 => exact Or.inr ⟨by rfl, rfl⟩
      try simp only [Act.put, List.setIfInBounds_toArray, List.set_cons_zero, List.set_cons_succ]
      refine wpAnyH_take (i := 24) (oi := ?oq_2_24) (v := undef) ?op_2_24 (by kernel_rfl) (by kernel_rfl) (by kernel_rfl) (fun _ _ _ h => h) ?yi_2_24 hHeld ?re_2_24
      case op_2_24 => (simp only [List.getElem?_toArray, List.getElem?_cons_succ, List.getElem?_cons_zero]; rfl)
      case yi_2_24 => exact Or.inr ⟨by rfl, rfl⟩
      try simp only [Act.put, List.setIfInBounds_toArray, List.set_cons_zero, List.set_cons_succ]
      refine wpAnyH_take (i := 25) (oi := ?oq_2_25) (v := undef) ?op_2_25 (by kernel_rfl) (by kernel_rfl) (by kernel_rfl) (fun _ _ _ h => h) ?yi_2_25 hHeld ?re_2_25
      case op_2_25 => (simp only [List.getElem?_toArray, List.getElem?_cons_succ, List.getElem?_cons_zero]; rfl)
      case yi_2_25 => exact Or.inr ⟨by rfl, rfl⟩
      try simp only [Act.put, List.setIfInBounds_toArray, List.set_cons_zero, List.set_cons_succ]
      refine wtk 26 hHeld ?_
      refine wtk 27 hHeld ?_
      refine wpAnyH_done (by kernel_rfl) ?_ _
      refine NoPanic.normal ?_
      go_wp2_with fail
      go_ret
      exact ⟨by rw [HW.out, hc]; rfl, hb⟩
    | false =>
      refine wp_region_noPanic ?_
      refine wp_region_held_drew (S := (fun w' => w'.cell? ⟨Y, 0, none⟩ = some (.int .i64 n) ∧ w'.cell? ⟨Y, 1, none⟩ = some (.int .i64 y) ∧ w'.cell? ⟨Y, 2, none⟩ = some (.bool true) ∧ w'.cell? ⟨lv, 0, none⟩ = some vl ∧ w'.cell? ⟨xv, 0, none⟩ = some (.pointer (some ⟨x, 0, none⟩)) ∧ w'.cell? ⟨sv, 0, none⟩ = some (.int .i64 since) ∧ w'.cell? ⟨x, 11, none⟩ = some (.map (some b.bm)) ∧ w'.cell? ⟨x, 3, none⟩ = some (.int .i64 V.s.lease) ∧ (Instr.lookup 84 (.map (some b.bm)) (.agg #[.int .i64 n, .int .i64 y]) false).run Tryz.prog w' = .ok (.agg #[.int .i64 bt.time, .int .i64 bt.epoch, .bool bt.synced, .int .i64 bt.echo]) w')) (by kernel_rfl) (by exact ⟨hY.cell rfl, hY.cell rfl, hY.cell rfl, hlv.cell rfl, hxv.cell rfl, hsv.cell rfl, HX.out _ hb 11 _ rfl, HX.out _ hb 3 _ rfl, HLK.out _ hb⟩) (fun hHeld => ?_)
      refine wtk 0 hHeld ?_
      refine wtk 1 hHeld ?_
      refine wtk 2 hHeld ?_
      refine wtk 3 hHeld ?_
      refine wtk 4 hHeld ?_
      refine wtk 5 hHeld ?_
      refine wpAnyH_ready (rs := [6]) (by kernel_rfl) (by simp) (AllReadyH.cons (o := ?oq_3_6) ?op_3_6 (fun K hK => ?re_3_6) AllReadyH.nil)
      case op_3_6 => (simp only [List.getElem?_toArray, List.getElem?_cons_succ, List.getElem?_cons_zero]; rfl)
      go_simp
      go_at_call 72
      refine (contmem_any (by exact hG) n y).mono ?_
      rintro en w5 ⟨rfl, b5⟩
      rw [hc]
      replace hY := hY.below b5
      replace hlv := hlv.below b5
      replace hxv := hxv.below b5
      replace hsv := hsv.below b5
      replace hG := hG.below b5
      replace hb := below_step hb b5
      clear b5
      refine hK.out _ _ (by exact ⟨hY.cell rfl, hY.cell rfl, hY.cell rfl, hlv.cell rfl, hxv.cell rfl, hsv.cell rfl, HX.out _ hb 11 _ rfl, HX.out _ hb 3 _ rfl, HLK.out _ hb⟩) (fun hHeld => ?_)
      clear hK K
      try simp only [Act.put, List.setIfInBounds_toArray, List.set_cons_zero, List.set_cons_succ]
      refine wtk 7 hHeld ?_
      refine wtk 8 hHeld ?_
      refine wtk 9 hHeld ?_
      refine wtk 10 hHeld ?_
      refine wtk 11 hHeld ?_
      refine wtk 12 hHeld ?_
      refine wtk 13 hHeld ?_
      refine wtk 14 hHeld ?_
      refine wtk 15 hHeld ?_
      refine wtk 16 hHeld ?_
      refine wtk 17 hHeld ?_
      refine wtk 18 hHeld ?_
      refine wtk 19 hHeld ?_
      refine wtk 20 hHeld ?_
      refine wtk 21 hHeld ?_
      refine wtk 22 hHeld ?_
      refine wtk 23 hHeld ?_
      refine wtk 24 hHeld ?_
      refine wtk 25 hHeld ?_
      refine wtk 26 hHeld ?_
      refine wtk 27 hHeld ?_
      refine wpAnyH_done (by kernel_rfl) ?_ _
      refine NoPanic.normal ?_
      go_wp2_with fail
      go_ret
      exact ⟨by rw [HW.out, hc]; rfl, hb⟩
set_option maxRecDepth 100000 in
set_option maxHeartbeats 2000000 in

theorem mwit_any {B x N : Nat} {w : World} {b : MBlk} {V : MstV} {l : List UInt8} (h : MAt B w x b N V l) {now since : Int} (ht : TOk now) (hts : TOk since) {q : Bool} (hq : witnessM V now since = q) :
    Calls Tryz.prog 79 #[.pointer (some ⟨x, 0, none⟩), .int .i64 now, .int .i64 since] w fun e w' => e = .returned (.bool q) ∧ Below w.heap.size w w' := by
  have hmf : ∀ (fn : Fn) (first cap : Array Value) (w : World), (Instr.makeFunc fn first cap).run Tryz.prog w = .ok (.func fn first cap) w := fun _ _ _ _ => rfl
  have HM := Lib.hid h
  have HQ := Lib.hid hq
  clear h hq
  go_enter Tryz.func79, Tryz.ntmps79
  go_upto_region 1 with (fail)
  have hxv : BlkAt ((w.alloc (.cells #[.pointer (some ⟨x, 0, none⟩)] 37)).alloc (.cells #[.int .i64 since] 3)) w.heap.size 37 [.pointer (some ⟨x, 0, none⟩)] := (BlkAt.new w 37 [.pointer (some ⟨x, 0, none⟩)]).alloc _
  have hsv : BlkAt ((w.alloc (.cells #[.pointer (some ⟨x, 0, none⟩)] 37)).alloc (.cells #[.int .i64 since] 3)) (w.heap.size + 1) 3 [.int .i64 since] := BlkAt.newAt (by simp) 3 [.int .i64 since]
  have hb : Below w.heap.size w ((w.alloc (.cells #[.pointer (some ⟨x, 0, none⟩)] 37)).alloc (.cells #[.int .i64 since] 3)) := ((Below.refl w.heap.size w).alloc (Nat.le_refl _) _).alloc (by simp) _
  change Code.wp _ _ _ _ ((w.alloc (.cells #[.pointer (some ⟨x, 0, none⟩)] 37)).alloc (.cells #[.int .i64 since] 3))
  generalize (w.alloc (.cells #[.pointer (some ⟨x, 0, none⟩)] 37)).alloc (.cells #[.int .i64 since] 3) = W at *
  generalize hsd : w.heap.size + 1 = sv at *
  have x0 : W.cell? ⟨w.heap.size, 0, none⟩ = some (.pointer (some ⟨x, 0, none⟩)) := hxv.cell rfl
  go_wp2_with fail
  refine (mlate_any (by exact HM.out.below hb) ht rfl).mono ?_
  rintro en w1 ⟨vl, rfl, hG, b1⟩
  clear x0
  obtain ⟨A0, cap0, rfl⟩ := hG.form
  have hG := hG.v
  replace hxv := hxv.below b1
  replace hsv := hsv.below b1
  replace hb := below_step hb b1
  clear b1
  go_upto_region 2 with (fail)
  have hlv := BlkAt.new w1 97 [.slice A0 (lateM V now).length cap0]
  replace hxv := hxv.below ((Below.refl _ _).alloc (Nat.le_refl _) (.cells #[.slice A0 (lateM V now).length cap0] 97))
  replace hsv := hsv.below ((Below.refl _ _).alloc (Nat.le_refl _) (.cells #[.slice A0 (lateM V now).length cap0] 97))
  replace hG := hG.below ((Below.refl _ _).alloc (Nat.le_refl _) (.cells #[.slice A0 (lateM V now).length cap0] 97))
  replace hb := hb.alloc hb.size (.cells #[.slice A0 (lateM V now).length cap0] 97)
  change Code.wp _ _ _ _ (w1.alloc (.cells #[.slice A0 (lateM V now).length cap0] 97))
  change BlkAt (w1.alloc (.cells #[.slice A0 (lateM V now).length cap0] 97)) _ _ _ at hlv
  have hlvn := (show w1.heap.size ≤ w1.heap.size from Nat.le_refl _)
  generalize w1.alloc (.cells #[.slice A0 (lateM V now).length cap0] 97) = w2 at *
  generalize w1.heap.size = lv at hlv ⊢
  clear hlvn
  have x0 : w2.cell? ⟨w.heap.size, 0, none⟩ = some (.pointer (some ⟨x, 0, none⟩)) := hxv.cell rfl
  obtain ⟨A, cap, hC, hX⟩ := (HM.out.below hb).cells
  have c9 : w2.cell? ⟨x, 9, none⟩ = some (.slice A V.cf.chain.length cap) := hX.cell (mcells_low rfl)
  go_wp2_with fail
  refine (contfunc_any (witS V (lateM V now) since) 97 #[.pointer (some ⟨lv, 0, none⟩), .pointer (some ⟨w.heap.size, 0, none⟩), .pointer (some ⟨sv, 0, none⟩)] (fun _ _ => rfl) (by exact hC.1) (fun W' n y z hn hy hb' =>
    (mwit1_any (HM.out.below (below_step hb hb')) (hlv.below hb') (hG.below hb') (hxv.below hb') (hsv.below hb') hts hn hy z).mono fun _ _ ⟨h, g⟩ => ⟨h, hb'.trans (g.mono hb'.size)⟩)).mono ?_
  rintro en w3 ⟨rfl, b3⟩
  have hb3 := below_step hb b3
  rw [show V.cf.chain.any (witS V (lateM V now) since) = q from HQ.out]
  clear hX hC hxv hsv hlv hG x0 c9 hb b3
  go_wp2_with fail
  go_ret
  exact ⟨rfl, hb3⟩
end Go.Proofs.YtomfmejodmfioaaGreat
namespace Go.Proofs.YtomfmejodmfioaaGreat
open Go.RowKit Go.Maps Go.ChangeShapes Go.WideShapes Go.Joins Go.Deep
set_option linter.unusedVariables false

/-- A chain handed back, and whether it is one. -/
def MConf (w w' : World) (en : Ending) (r : ConfV × Bool) : Prop :=
  ∃ A cap, en = .returned (.tuple #[.agg #[.int .i64 r.1.epoch, .slice A r.1.chain.length cap], .bool r.2]) ∧ ChainS w' (.slice A r.1.chain.length cap) r.1.chain ∧ Below w.heap.size w w'
theorem ChainS.set {w : World} {v : Value} {L : List SeatV} {D : Nat} {cs : List Value} (h : ChainS w v L) (hD : BlkAt w D 35 cs) (i : Nat) (u : Value) : ChainS (w.setCell ⟨D, i, none⟩ u) v L := ChainAt.grownS h (grown_setCell w D i u) (cells_not hD.kind (by decide))
theorem ChainS.set2 {w : World} {v : Value} {L : List SeatV} {D : Nat} {cs : List Value} (h : ChainS w v L) (hD : BlkAt w D 35 cs) (p q : Value) : ChainS ((w.setCell ⟨D, 0, none⟩ p).setCell ⟨D, 1, none⟩ q) v L := (h.set hD 0 p).set (hD.set 0 p) 1 q
theorem ChainS.form {w : World} {v : Value} {L : List SeatV} (h : ChainS w v L) : ∃ A cap, v = .slice A L.length cap := by
  obtain ⟨⟨a, cap, rfl, _⟩, _⟩ := h
  exact ⟨_, _, rfl⟩
theorem okC_parts (r : ConfV × Int) : ∃ pe pL px, r = (⟨pe, pL⟩, px) := ⟨r.1.epoch, r.1.chain, r.2, rfl⟩
theorem cwithout_m {w : World} {v vg : Value} {L : List SeatV} {G : List (Int × Int)} (hv : ChainAt w v L) (hg : MemsV w vg G) {e pe px : Int} {pL : List SeatV} (h : withoutC ⟨e, L⟩ G = (⟨pe, pL⟩, px)) :
    Calls Tryz.prog 43 #[.agg #[.int .i64 e, v], vg] w fun en w' => ∃ A cap, en = .returned (.tuple #[.agg #[.int .i64 pe, .slice A pL.length cap], .int .i64 px]) ∧ ChainS w' (.slice A pL.length cap) pL ∧ Below w.heap.size w w' :=
  (cwithout_s hv hg e).mono fun _ _ ⟨u, h1, h2, h3⟩ => by
    rw [h] at h1 h2
    obtain ⟨A, cap, rfl⟩ := h2.form
    exact ⟨A, cap, h1, h2, h3⟩
theorem csynced_m {w : World} {v : Value} {L : List SeatV} (hv : ChainAt w v L) {e n l : Int} (hn : W64 n) (hl : W64 l) {pe px : Int} {pL : List SeatV} (h : syncedC ⟨e, L⟩ n l = (⟨pe, pL⟩, px)) :
    Calls Tryz.prog 38 #[.agg #[.int .i64 e, v], .agg #[.int .i64 n, .int .i64 l]] w fun en w' => ∃ A cap, en = .returned (.tuple #[.agg #[.int .i64 pe, .slice A pL.length cap], .int .i64 px]) ∧ ChainS w' (.slice A pL.length cap) pL ∧ Below w.heap.size w w' :=
  (csynced_s hv e n l hn hl).mono fun _ _ ⟨u, h1, h2, h3⟩ => by
    rw [h] at h1 h2
    obtain ⟨A, cap, rfl⟩ := h2.form
    exact ⟨A, cap, h1, h2, h3⟩
theorem cjoin_m {w : World} {v : Value} {L : List SeatV} (hv : ChainAt w v L) {e n l : Int} (hn : W64 n) (hl : W64 l) {pe px : Int} {pL : List SeatV} (h : joinC ⟨e, L⟩ n l = (⟨pe, pL⟩, px)) :
    Calls Tryz.prog 40 #[.agg #[.int .i64 e, v], .agg #[.int .i64 n, .int .i64 l]] w fun en w' => ∃ A cap, en = .returned (.tuple #[.agg #[.int .i64 pe, .slice A pL.length cap], .int .i64 px]) ∧ ChainS w' (.slice A pL.length cap) pL ∧ Below w.heap.size w w' :=
  (cjoin_s hv e n l hn hl).mono fun _ _ ⟨u, h1, h2, h3⟩ => by
    rw [h] at h1 h2
    obtain ⟨A, cap, rfl⟩ := h2.form
    exact ⟨A, cap, h1, h2, h3⟩
/-- The chain of a master, as calls want it. -/
theorem MAt.conf {B x N : Nat} {w : World} {b : MBlk} {V : MstV} {l : List UInt8} (h : MAt B w x b N V l) : ∃ A cap, ChainS w (.slice A V.cf.chain.length cap) V.cf.chain ∧ w.cell? ⟨x, 8, none⟩ = some (.int .i64 V.cf.epoch) ∧ w.cell? ⟨x, 9, none⟩ = some (.slice A V.cf.chain.length cap) := by
  obtain ⟨A, cap, hC, hX⟩ := h.cells
  exact ⟨A, cap, hC, hX.cell (mcells_low rfl), hX.cell (mcells_low rfl)⟩

set_option maxRecDepth 100000 in
set_option maxHeartbeats 4000000 in

theorem mshrink_any {B x N : Nat} {w : World} {b : MBlk} {V : MstV} {l : List UInt8} (h : MAt B w x b N V l) {now : Int} (ht : TOk now) {r : ConfV × Bool} (hr : shrinkM V now = r) :
    Calls Tryz.prog 46 #[.pointer (some ⟨x, 0, none⟩), .int .i64 now] w fun e w' => MConf w w' e r := by
  have hl8 := right_len h.ok.right
  have hrs : Hid (∀ s ∈ V.cf.chain, ∃ n : Nat, n < 8 ∧ s.node = n ∧ 1 ≤ s.life ∧ s.life ≤ 1099511627776) := Lib.hid (fun s hs => right_seat h.ok.right hs)
  have HR0 := Lib.hid hr
  have hfl : (freeM V now).1.length ≤ 72 := Nat.le_trans (freeF_len V now _) (lateM_len hl8.2)
  clear hr
  go_enter Tryz.func46, Tryz.ntmps46
  go_upto_region 1 with (fail)
  have hD : BlkAt (w.alloc (.cells #[.int .i64 0, .slice none 0 0] 35)) w.heap.size 35 [.int .i64 0, .slice none 0 0] := BlkAt.new w 35 [.int .i64 0, .slice none 0 0]
  have hb : Below w.heap.size w (w.alloc (.cells #[.int .i64 0, .slice none 0 0] 35)) := (Below.refl w.heap.size w).alloc (Nat.le_refl _) _
  have hWs : w.heap.size + 1 ≤ (w.alloc (.cells #[.int .i64 0, .slice none 0 0] 35)).heap.size := by simp
  change Code.wp _ _ _ _ (w.alloc (.cells #[.int .i64 0, .slice none 0 0] 35))
  generalize w.alloc (.cells #[.int .i64 0, .slice none 0 0] 35) = W at *
  obtain ⟨D, hDD⟩ : ∃ D, D = w.heap.size := ⟨_, rfl⟩
  have hDn : w.heap.size ≤ D := by omega
  rw [← hDD] at hD ⊢
  have HM := Lib.hid (h.below hb)
  have HB0 := Lib.hid hb
  have HD := Lib.hid hD
  have hDs : D < W.heap.size := hD.lt
  clear hDD hWs hD hb h
  have hb := Below.refl W.heap.size W
  obtain ⟨A, cap, hC, c8, c9⟩ := HM.out.conf
  obtain ⟨_, _, hqq, hs⟩ := hC.1
  cases hqq
  have HS := Lib.hid hs
  clear c8 hC hs
  go_wp2_with fail
  clear c9
  go_loopw [6, 19] (fun gv i wr => ∃ (k : Nat), k ≤ V.cf.chain.length ∧ i = .int .i64 k ∧ MemsO W.heap.size wr gv (deadL V (V.cf.chain.take k)) ∧ Below W.heap.size W wr) (fun _ i _ => V.cf.chain.length - (intOf i).toNat)
  case atStart => exact ⟨0, Nat.zero_le _, rfl, MemsO.nil _ _, hb⟩
  case round =>
    obtain ⟨k, hk, rfl, hG, hbr⟩ := hrel
    clear hb
    have hb := hbr
    clear hbr
    by_cases hlt' : k < V.cf.chain.length
    · obtain ⟨q, off, rfl, hab, hc⟩ := HS.out.2.2 (by omega)
      obtain ⟨s, hs'⟩ : ∃ s, V.cf.chain[k]? = some s := ⟨_, List.getElem?_eq_getElem hlt'⟩
      obtain ⟨s0, s1, s2⟩ := (hc k s hs').of (w' := wr) fun j => hb.cell (p := ⟨q, j, none⟩) hab
      obtain ⟨n, hn8, hn, hl1, hl2⟩ := hrs.out s (List.mem_of_getElem? hs')
      have hln := Nat.le_trans (deadL_len V (V.cf.chain.take k)) (by rw [List.length_take]; exact Nat.min_le_left _ _)
      have HSY := Lib.hid (deadL_snoc_yes V hs')
      have HSO := Lib.hid (deadL_snoc_no V hs')
      obtain ⟨x0, y, z⟩ := s
      simp only at s0 s1 s2 hn hl1 hl2 HSY HSO
      subst hn
      clear hc hs'
      go_upto_region 5 with (fail)
      have hP := BlkAt.new wr 49 [.int .i64 (n : Nat), .int .i64 y, .bool z]
      have hGq := hG.below ((Below.refl _ _).alloc (Nat.le_refl _) (.cells #[.int .i64 (n : Nat), .int .i64 y, .bool z] 49))
      clear hG
      have hG := hGq
      clear hGq
      have hbq := hb.alloc hb.size (.cells #[.int .i64 (n : Nat), .int .i64 y, .bool z] 49)
      clear hb
      have hb := hbq
      clear hbq
      change Code.wp _ _ _ _ (wr.alloc (.cells #[.int .i64 (n : Nat), .int .i64 y, .bool z] 49))
      change BlkAt (wr.alloc (.cells #[.int .i64 (n : Nat), .int .i64 y, .bool z] 49)) _ _ _ at hP
      have hPn := (show wr.heap.size ≤ wr.heap.size from Nat.le_refl _)
      generalize wr.alloc (.cells #[.int .i64 (n : Nat), .int .i64 y, .bool z] 49) = w3 at *
      generalize wr.heap.size = X at hP ⊢
      clear hPn
      clear s0 s1 s2
      have p0 : w3.cell? ⟨X, 0, none⟩ = some (.int .i64 (n : Nat)) := hP.cell rfl
      have p1 : w3.cell? ⟨X, 1, none⟩ = some (.int .i64 y) := hP.cell rfl
      have p2 : w3.cell? ⟨X, 2, none⟩ = some (.bool z) := hP.cell rfl
      cases hd : deadM V (n : Nat) y with
      | true =>
        have hE := Lib.hid (HSY.out hd)
        go_wp2_with fail
        refine (mdead_any (by exact HM.out.below hb) hn8 hd).mono ?_
        rintro en w4 ⟨rfl, b4⟩
        clear p0 p1 p2
        have hGq := hG.below b4
        clear hG
        have hG := hGq
        clear hGq
        have hPq := hP.below b4
        clear hP
        have hP := hPq
        clear hPq
        have hbq := below_step hb b4
        clear hb
        have hb := hbq
        clear hbq b4
        have p0 : w4.cell? ⟨X, 0, none⟩ = some (.int .i64 (n : Nat)) := hP.cell rfl
        have p1 : w4.cell? ⟨X, 1, none⟩ = some (.int .i64 y) := hP.cell rfl
        have p2 : w4.cell? ⟨X, 2, none⟩ = some (.bool z) := hP.cell rfl
        go_wp2_with (first | (at_builtin; refine wpList_append_mems rfl (.tmp 27) (.tmp 30) rfl rfl rfl (hG.below ((Below.refl _ _).alloc (Nat.le_refl _) _)) (mem_one _ _ _) ?c1 ?c2 ?_))
        case c1 => first | omega | (simp; omega)
        case c2 => first | (have := hb.size; omega) | (simp; have := hb.size; omega)
        intro v5 w5 h5 g5 n5
        have hb4 := (Below.refl w4.heap.size w4).alloc (Nat.le_refl _) (.cells #[.int .i64 (n : Nat), .int .i64 y] 42)
        have HB5 := Lib.hid ((below_step hb hb4).grown g5 (below_step hb hb4).size (fun j hj => (hG.lt j hj).1))
        have H5 := Lib.hid h5
        clear p0 p1 p2 hP hG hb g5 n5 hb4 h5
        go_wp2_with fail
        go_roundw
        case rel => exact ⟨k + 1, by omega, by go_num, by rw [hE.out]; exact H5.out, HB5.out⟩
        case measure => simp [intOf]; omega
      | false =>
        have hE := Lib.hid (HSO.out hd)
        go_wp2_with fail
        refine (mdead_any (by exact HM.out.below hb) hn8 hd).mono ?_
        rintro en w4 ⟨rfl, b4⟩
        clear p0 p1 p2
        have hGq := hG.below b4
        clear hG
        have hG := hGq
        clear hGq
        have hbq := below_step hb b4
        clear hb
        have hb := hbq
        clear hbq b4
        have H5 := Lib.hid hG
        have HB5 := Lib.hid hb
        clear hG hb hP
        go_wp2_with fail
        go_roundw
        case rel => exact ⟨k + 1, by omega, by go_num, by rw [hE.out]; exact H5.out, HB5.out⟩
        case measure => simp [intOf]; omega
    · have hke : k = V.cf.chain.length := by omega
      subst hke
      rw [List.take_of_length_le (Nat.le_refl _)] at hG
      have hdl := deadL_len V V.cf.chain
      obtain ⟨F, t, hF⟩ : ∃ F t, freeM V now = (F, t) := ⟨_, _, rfl⟩
      have hFt : TOk t := by
        have := freeM_time HM.out.ok ht
        rw [hF] at this
        exact this
      have hFl : F.length ≤ 72 := by rw [hF] at hfl; exact hfl
      clear hfl
      go_wp2_with fail
      refine (mfree_any (by exact HM.out.below hb) ht hF).mono ?_
      rintro en w2 ⟨fv, rfl, hFv, b2⟩
      obtain ⟨FA, Fcap, rfl⟩ := hFv.form
      have hFv := hFv.v
      have hGq := hG.below b2
      clear hG
      have hG := hGq
      clear hGq
      have hbq := below_step hb b2
      clear hb
      have hb := hbq
      clear hbq b2
      have HG : Hid (goneM V now = deadL V V.cf.chain ++ (if (decide (0 < F.length) && witnessM V now t) = true then F else [])) := Lib.hid (by unfold goneM; rw [hF])
      clear hF
      by_cases hF0 : F.length = 0
      · have hF1 : ¬ (0 : Int) < (F.length : Int) := by omega
        have hGN : Hid (goneM V now = deadL V V.cf.chain) := Lib.hid (by rw [HG.out, if_neg (by simp; omega), List.append_nil])
        clear HG hFv
        obtain ⟨pe, pL, px, hpq⟩ := okC_parts (withoutC V.cf (deadL V V.cf.chain))
        have HR1 : Hid (r = (⟨pe, pL⟩, px == 0)) := Lib.hid (by rw [← HR0.out, shrinkM, hGN.out, hpq]; rfl)
        obtain ⟨A, cap, hC, c8, c9⟩ := (HM.out.below hb).conf
        obtain ⟨GA, Gcap, rfl⟩ := hG.form
        have HPQ := Lib.hid hpq
        clear hpq
        go_wp2_with fail
        refine (cwithout_m (by exact hC.1) (by exact hG.v) HPQ.out).mono ?_
        rintro en w7 ⟨RA, Rcap, rfl, hR, b7⟩
        clear c8 c9 hC hG

        have hbq := below_step hb b7
        clear hb
        have hb := hbq
        clear hbq b7
        go_upto_region 12 with (fail)
        have hY := BlkAt.new w7 35 [.int .i64 pe, .slice RA pL.length Rcap]
        have hRq := hR.below ((Below.refl _ _).alloc (Nat.le_refl _) (.cells #[.int .i64 pe, .slice RA pL.length Rcap] 35))
        clear hR
        have hR := hRq
        clear hRq
        have hbq := hb.alloc hb.size (.cells #[.int .i64 pe, .slice RA pL.length Rcap] 35)
        clear hb
        have hb := hbq
        clear hbq
        change Code.wp _ _ _ _ (w7.alloc (.cells #[.int .i64 pe, .slice RA pL.length Rcap] 35))
        change BlkAt (w7.alloc (.cells #[.int .i64 pe, .slice RA pL.length Rcap] 35)) _ _ _ at hY
        have hYn := (show w7.heap.size ≤ w7.heap.size from Nat.le_refl _)
        generalize w7.alloc (.cells #[.int .i64 pe, .slice RA pL.length Rcap] 35) = w8 at *
        generalize w7.heap.size = Y at hY ⊢
        clear hYn
        have y0 : w8.cell? ⟨Y, 0, none⟩ = some (.int .i64 pe) := hY.cell rfl
        have y1 : w8.cell? ⟨Y, 1, none⟩ = some (.slice RA pL.length Rcap) := hY.cell rfl
        have hD := HD.out.belowAt hb hDs
        have hbw := below_step HB0.out hb
        have hvE := ChainS.set2 hR hD (.int .i64 pe) (.slice RA pL.length Rcap)
        have d0 : w8.cell? ⟨D, 0, none⟩ = some (.int .i64 0) := hD.cell rfl
        have d1 : w8.cell? ⟨D, 1, none⟩ = some (.slice none 0 0) := hD.cell rfl
        have hf := hD.free
        go_wp2_with fail
        obtain ⟨hE, hbE⟩ := fin2 (p := .int .i64 pe) (q := .slice RA pL.length Rcap) hD hbw hDn
        change bodyPost _ _ _ _ _ ((w8.setCell ⟨D, 0, none⟩ (.int .i64 pe)).setCell ⟨D, 1, none⟩ (.slice RA pL.length Rcap))
        generalize (w8.setCell ⟨D, 0, none⟩ (.int .i64 pe)).setCell ⟨D, 1, none⟩ (.slice RA pL.length Rcap) = W9 at *
        clear d0 d1
        have d0 := hE.cell (i := 0) rfl
        have d1 := hE.cell (i := 1) rfl
        exact bodyPost_ret (v := .tuple #[.agg #[.int .i64 pe, .slice RA pL.length Rcap], .bool (px == 0)]) (by simp [results, Tryz.results46, go_sem, d0, d1] <;> rfl) rfl ⟨_, _, by (rw [HR1.out] <;> try rfl), by rw [HR1.out]; exact hvE, hbE⟩
      · have hF1 : (0 : Int) < (F.length : Int) := by omega
        cases hw : witnessM V now t with
        | false =>
          have hGN : Hid (goneM V now = deadL V V.cf.chain) := Lib.hid (by rw [HG.out, hw, if_neg (by simp), List.append_nil])
          clear HG
          go_wp2_with fail
          refine (mwit_any (by exact HM.out.below hb) ht hFt hw).mono ?_
          rintro en w4 ⟨rfl, b4⟩
          have hGq := hG.below b4
          clear hG
          have hG := hGq
          clear hGq
          have hbq := below_step hb b4
          clear hb
          have hb := hbq
          clear hbq b4
          clear hFv
          obtain ⟨pe, pL, px, hpq⟩ := okC_parts (withoutC V.cf (deadL V V.cf.chain))
          have HR1 : Hid (r = (⟨pe, pL⟩, px == 0)) := Lib.hid (by rw [← HR0.out, shrinkM, hGN.out, hpq]; rfl)
          obtain ⟨A, cap, hC, c8, c9⟩ := (HM.out.below hb).conf
          obtain ⟨GA, Gcap, rfl⟩ := hG.form
          have HPQ := Lib.hid hpq
          clear hpq
          go_wp2_with fail
          refine (cwithout_m (by exact hC.1) (by exact hG.v) HPQ.out).mono ?_
          rintro en w7 ⟨RA, Rcap, rfl, hR, b7⟩
          clear c8 c9 hC hG

          have hbq := below_step hb b7
          clear hb
          have hb := hbq
          clear hbq b7
          go_upto_region 12 with (fail)
          have hY := BlkAt.new w7 35 [.int .i64 pe, .slice RA pL.length Rcap]
          have hRq := hR.below ((Below.refl _ _).alloc (Nat.le_refl _) (.cells #[.int .i64 pe, .slice RA pL.length Rcap] 35))
          clear hR
          have hR := hRq
          clear hRq
          have hbq := hb.alloc hb.size (.cells #[.int .i64 pe, .slice RA pL.length Rcap] 35)
          clear hb
          have hb := hbq
          clear hbq
          change Code.wp _ _ _ _ (w7.alloc (.cells #[.int .i64 pe, .slice RA pL.length Rcap] 35))
          change BlkAt (w7.alloc (.cells #[.int .i64 pe, .slice RA pL.length Rcap] 35)) _ _ _ at hY
          have hYn := (show w7.heap.size ≤ w7.heap.size from Nat.le_refl _)
          generalize w7.alloc (.cells #[.int .i64 pe, .slice RA pL.length Rcap] 35) = w8 at *
          generalize w7.heap.size = Y at hY ⊢
          clear hYn
          have y0 : w8.cell? ⟨Y, 0, none⟩ = some (.int .i64 pe) := hY.cell rfl
          have y1 : w8.cell? ⟨Y, 1, none⟩ = some (.slice RA pL.length Rcap) := hY.cell rfl
          have hD := HD.out.belowAt hb hDs
          have hbw := below_step HB0.out hb
          have hvE := ChainS.set2 hR hD (.int .i64 pe) (.slice RA pL.length Rcap)
          have d0 : w8.cell? ⟨D, 0, none⟩ = some (.int .i64 0) := hD.cell rfl
          have d1 : w8.cell? ⟨D, 1, none⟩ = some (.slice none 0 0) := hD.cell rfl
          have hf := hD.free
          go_wp2_with fail
          obtain ⟨hE, hbE⟩ := fin2 (p := .int .i64 pe) (q := .slice RA pL.length Rcap) hD hbw hDn
          change bodyPost _ _ _ _ _ ((w8.setCell ⟨D, 0, none⟩ (.int .i64 pe)).setCell ⟨D, 1, none⟩ (.slice RA pL.length Rcap))
          generalize (w8.setCell ⟨D, 0, none⟩ (.int .i64 pe)).setCell ⟨D, 1, none⟩ (.slice RA pL.length Rcap) = W9 at *
          clear d0 d1
          have d0 := hE.cell (i := 0) rfl
          have d1 := hE.cell (i := 1) rfl
          exact bodyPost_ret (v := .tuple #[.agg #[.int .i64 pe, .slice RA pL.length Rcap], .bool (px == 0)]) (by simp [results, Tryz.results46, go_sem, d0, d1] <;> rfl) rfl ⟨_, _, by (rw [HR1.out] <;> try rfl), by rw [HR1.out]; exact hvE, hbE⟩
        | true =>
          have hGN : Hid (goneM V now = deadL V V.cf.chain ++ F) := Lib.hid (by rw [HG.out, hw, if_pos (by simp; omega)])
          clear HG
          go_wp2_with fail
          refine (mwit_any (by exact HM.out.below hb) ht hFt hw).mono ?_
          rintro en w4 ⟨rfl, b4⟩
          have hFv := hFv.below b4
          have hGq := hG.below b4
          clear hG
          have hG := hGq
          clear hGq
          have hbq := below_step hb b4
          clear hb
          have hb := hbq
          clear hbq b4
          go_wp2_with (first | (at_builtin; refine wpList_append_mems rfl (.tmp 48) (.tmp 49) rfl rfl rfl hG hFv ?c1 ?c2 ?_))
          case c1 => omega
          case c2 => exact hb.size
          intro v5 w5 h5 g5 n5
          have hb5 := hb.grown g5 hb.size (fun j hj => (hG.lt j hj).1)
          clear hG hFv hb g5 n5
          have hb := hb5
          have hG := h5
          clear hb5 h5
          generalize deadL V V.cf.chain ++ F = GG at *
          obtain ⟨pe, pL, px, hpq⟩ := okC_parts (withoutC V.cf GG)
          have HR1 : Hid (r = (⟨pe, pL⟩, px == 0)) := Lib.hid (by rw [← HR0.out, shrinkM, hGN.out, hpq]; rfl)
          obtain ⟨A, cap, hC, c8, c9⟩ := (HM.out.below hb).conf
          obtain ⟨GA, Gcap, rfl⟩ := hG.form
          have HPQ := Lib.hid hpq
          clear hpq
          go_wp2_with fail
          refine (cwithout_m (by exact hC.1) (by exact hG.v) HPQ.out).mono ?_
          rintro en w7 ⟨RA, Rcap, rfl, hR, b7⟩
          clear c8 c9 hC hG

          have hbq := below_step hb b7
          clear hb
          have hb := hbq
          clear hbq b7
          go_upto_region 12 with (fail)
          have hY := BlkAt.new w7 35 [.int .i64 pe, .slice RA pL.length Rcap]
          have hRq := hR.below ((Below.refl _ _).alloc (Nat.le_refl _) (.cells #[.int .i64 pe, .slice RA pL.length Rcap] 35))
          clear hR
          have hR := hRq
          clear hRq
          have hbq := hb.alloc hb.size (.cells #[.int .i64 pe, .slice RA pL.length Rcap] 35)
          clear hb
          have hb := hbq
          clear hbq
          change Code.wp _ _ _ _ (w7.alloc (.cells #[.int .i64 pe, .slice RA pL.length Rcap] 35))
          change BlkAt (w7.alloc (.cells #[.int .i64 pe, .slice RA pL.length Rcap] 35)) _ _ _ at hY
          have hYn := (show w7.heap.size ≤ w7.heap.size from Nat.le_refl _)
          generalize w7.alloc (.cells #[.int .i64 pe, .slice RA pL.length Rcap] 35) = w8 at *
          generalize w7.heap.size = Y at hY ⊢
          clear hYn
          have y0 : w8.cell? ⟨Y, 0, none⟩ = some (.int .i64 pe) := hY.cell rfl
          have y1 : w8.cell? ⟨Y, 1, none⟩ = some (.slice RA pL.length Rcap) := hY.cell rfl
          have hD := HD.out.belowAt hb hDs
          have hbw := below_step HB0.out hb
          have hvE := ChainS.set2 hR hD (.int .i64 pe) (.slice RA pL.length Rcap)
          have d0 : w8.cell? ⟨D, 0, none⟩ = some (.int .i64 0) := hD.cell rfl
          have d1 : w8.cell? ⟨D, 1, none⟩ = some (.slice none 0 0) := hD.cell rfl
          have hf := hD.free
          go_wp2_with fail
          obtain ⟨hE, hbE⟩ := fin2 (p := .int .i64 pe) (q := .slice RA pL.length Rcap) hD hbw hDn
          change bodyPost _ _ _ _ _ ((w8.setCell ⟨D, 0, none⟩ (.int .i64 pe)).setCell ⟨D, 1, none⟩ (.slice RA pL.length Rcap))
          generalize (w8.setCell ⟨D, 0, none⟩ (.int .i64 pe)).setCell ⟨D, 1, none⟩ (.slice RA pL.length Rcap) = W9 at *
          clear d0 d1
          have d0 := hE.cell (i := 0) rfl
          have d1 := hE.cell (i := 1) rfl
          exact bodyPost_ret (v := .tuple #[.agg #[.int .i64 pe, .slice RA pL.length Rcap], .bool (px == 0)]) (by simp [results, Tryz.results46, go_sem, d0, d1] <;> rfl) rfl ⟨_, _, by (rw [HR1.out] <;> try rfl), by rw [HR1.out]; exact hvE, hbE⟩
end Go.Proofs.YtomfmejodmfioaaGreat
