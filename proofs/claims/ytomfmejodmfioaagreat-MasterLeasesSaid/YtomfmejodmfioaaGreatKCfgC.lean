/- The document's Synced. Follows. The document's Follows. -/
import Derived.Test.YtomfmejodmfioaaGreatKCfgB
import Derived.Deep.DeepCutAuto
import Derived.Test.YtomfmejodmfioaaGreatKCfg
import Derived.Deep.CutRange
namespace Go.Proofs.YtomfmejodmfioaaGreat
open Go.RowKit Go.ChangeShapes Go.WideShapes Go.Joins
set_option linter.unusedVariables false

theorem own_kept_ne {w : World} {base g X cap i : Nat} {e : TypeId} {size n : Nat} {xs : List Value} {u : Value} (h : w.ownsRow base e size (.slice (some ⟨g, 0, none⟩) n cap) n xs) (hX : X ≠ g) :
    (w.setCell ⟨X, i, none⟩ u).ownsRow base e size (.slice (some ⟨g, 0, none⟩) n cap) n xs := by
  refine ⟨h.1, ?_⟩
  rcases h.2 with ⟨h0, _⟩ | ⟨g', cap', cur, hv, hb, hg, r⟩
  · cases h0
  · cases hv
    exact .inr ⟨g, cap, cur, rfl, hb, (Below.heap_setCell w ⟨X, i, none⟩ u g (fun e => hX e.symm)).trans hg, r⟩
theorem set_own2 {w : World} {base g X cap : Nat} {e : TypeId} {size n : Nat} {xs : List Value} (h : w.ownsRow base e size (.slice (some ⟨g, 0, none⟩) n cap) n xs) (u v : Value) (hX : X ≠ g) :
    ((w.setCell ⟨X, 0, none⟩ u).setCell ⟨X, 1, none⟩ v).ownsRow base e size (.slice (some ⟨g, 0, none⟩) n cap) n xs := by
  have h1 := own_kept_ne (i := 0) (u := u) h hX
  exact own_kept_ne (i := 1) (u := v) h1 hX
theorem src_cells {w : World} {b off cap : Nat} {L : List SeatV} (h : ChainAt w (.slice (some ⟨b, off, none⟩) L.length cap) L) : ∀ j u, (seatsCells L)[j]? = some u → w.cell? ((⟨b, off, none⟩ : Addr).add j) = some u := by
  obtain ⟨a, cap', hv, hs⟩ := h
  cases hv
  intro j u hj
  have hp : 0 < L.length := by
    have := (List.getElem?_eq_some_iff.1 hj).1
    rw [seatsCells_len] at this
    omega
  obtain ⟨b', off', he, hab, hc⟩ := hs.2.2 hp
  cases he
  rw [addr_add]
  exact SeatsAt.cells hc j u hj

end Go.Proofs.YtomfmejodmfioaaGreat
namespace Go.Proofs.YtomfmejodmfioaaGreat
open Go.RowKit Go.ChangeShapes Go.WideShapes Go.Joins
set_option linter.unusedVariables false

/-- A chain handed back, with an error, each part by its name. -/
def ConfIs (w w' : World) (en : Ending) (pe : Int) (pL : List SeatV) (px : Int) : Prop :=
  ∃ a cap, en = .returned (.tuple #[.agg #[.int .i64 pe, .slice a pL.length cap], .int .i64 px]) ∧ ChainAt w' (.slice a pL.length cap) pL ∧ Below w.heap.size w w'
theorem ConfRes.is {w w' : World} {en : Ending} {r : ConfV × Int} {pe : Int} {pL : List SeatV} {px : Int} (h : ConfRes w w' en r.1 (.int .i64 r.2)) (hr : r = (⟨pe, pL⟩, px)) : ConfIs w w' en pe pL px := by
  subst hr
  obtain ⟨v, he, hv, hb⟩ := h
  obtain ⟨a, cap, rfl, hs⟩ := hv
  exact ⟨a, cap, he, ⟨a, cap, rfl, hs⟩, hb⟩
theorem csynced_at {w : World} {v : Value} {L : List SeatV} (hv : ChainAt w v L) {e n l : Int} (hn : W64 n) (hl : W64 l) {pe : Int} {pL : List SeatV} {px : Int} (h : syncedC ⟨e, L⟩ n l = (⟨pe, pL⟩, px)) :
    Calls Tryz.prog 38 #[.agg #[.int .i64 e, v], .agg #[.int .i64 n, .int .i64 l]] w fun en w' => ConfIs w w' en pe pL px := (csynced_any hv e n l hn hl).mono fun _ _ r => r.is h
theorem cjoin_at {w : World} {v : Value} {L : List SeatV} (hv : ChainAt w v L) {e n l : Int} (hn : W64 n) (hl : W64 l) {pe : Int} {pL : List SeatV} {px : Int} (h : joinC ⟨e, L⟩ n l = (⟨pe, pL⟩, px)) :
    Calls Tryz.prog 40 #[.agg #[.int .i64 e, v], .agg #[.int .i64 n, .int .i64 l]] w fun en w' => ConfIs w w' en pe pL px := (cjoin_any hv e n l hn hl).mono fun _ _ r => r.is h
theorem cwithout_at {w : World} {v vg : Value} {L : List SeatV} {G : List (Int × Int)} (hv : ChainAt w v L) (hg : MemsV w vg G) {e : Int} {pe : Int} {pL : List SeatV} {px : Int} (h : withoutC ⟨e, L⟩ G = (⟨pe, pL⟩, px)) :
    Calls Tryz.prog 43 #[.agg #[.int .i64 e, v], vg] w fun en w' => ConfIs w w' en pe pL px := (cwithout_any hv hg e).mono fun _ _ r => r.is h
theorem conf_parts (r : ConfV × Int) : ∃ pe pL px, r = (⟨pe, pL⟩, px) := ⟨r.1.epoch, r.1.chain, r.2, rfl⟩
theorem sameC_lit (e f : Int) (L M : List SeatV) : sameC ⟨e, L⟩ ⟨f, M⟩ = (e == f && decide (L = M)) := rfl

set_option maxRecDepth 100000 in
set_option maxHeartbeats 2000000 in

theorem follows1_any {w : World} {ca cb : Nat} {e f : Int} {v u : Value} {L M : List SeatV} (hA : BlkAt w ca 35 [.int .i64 e, v]) (hB : BlkAt w cb 35 [.int .i64 f, u]) (hv : ChainAt w v L) (hu : ChainAt w u M)
    (x y : Int) (b : Bool) (hx : W64 x) (hy : W64 y) :
    Calls Tryz.prog 37 #[.agg #[.int .i64 x, .int .i64 y, .bool b], .pointer (some ⟨ca, 0, none⟩), .pointer (some ⟨cb, 0, none⟩)] w fun en w' => en = .returned (.bool (syncTo ⟨e, L⟩ ⟨f, M⟩ ⟨x, y, b⟩)) ∧ Below w.heap.size w w' := by
  obtain ⟨pe, pL, px, hP⟩ := conf_parts (syncedC ⟨e, L⟩ x y)
  have HE := Lib.hid (show syncTo ⟨e, L⟩ ⟨f, M⟩ ⟨x, y, b⟩ = ((px == 0) && (pe == f && decide (pL = M))) by simp only [syncTo, hP, sameC_lit])
  have HP := Lib.hid hP
  clear hP
  go_enter Tryz.func37, Tryz.ntmps37
  go_upto_region 1 with (fail)
  have hS : BlkAt (w.alloc (.cells #[.int .i64 x, .int .i64 y, .bool b] 49)) w.heap.size 49 [.int .i64 x, .int .i64 y, .bool b] := BlkAt.new w 49 [.int .i64 x, .int .i64 y, .bool b]
  have hb : Below w.heap.size w (w.alloc (.cells #[.int .i64 x, .int .i64 y, .bool b] 49)) := (Below.refl w.heap.size w).alloc (Nat.le_refl _) _
  have hWs : w.heap.size + 1 ≤ (w.alloc (.cells #[.int .i64 x, .int .i64 y, .bool b] 49)).heap.size := by simp
  have hA := hA.below hb
  have hB := hB.below hb
  have hv := hv.below hb
  have hu := hu.below hb
  change Code.wp _ _ _ _ (w.alloc (.cells #[.int .i64 x, .int .i64 y, .bool b] 49))
  generalize w.alloc (.cells #[.int .i64 x, .int .i64 y, .bool b] 49) = W at *
  have a0 : W.cell? ⟨ca, 0, none⟩ = some (.int .i64 e) := hA.cell rfl
  have a1 : W.cell? ⟨ca, 1, none⟩ = some (v) := hA.cell rfl
  have s0 : W.cell? ⟨w.heap.size, 0, none⟩ = some (.int .i64 x) := hS.cell rfl
  have s1 : W.cell? ⟨w.heap.size, 1, none⟩ = some (.int .i64 y) := hS.cell rfl
  go_wp2_with fail
  refine (csynced_at (by exact hv) hx hy HP.out).mono ?_
  rintro en w2 ⟨a2, cap2, rfl, hv2, b2⟩
  have hB := hB.below b2
  have hu := hu.below b2
  have hb := below_step hb b2
  clear b2
  clear a0 a1 s0 s1 hA hS hv hWs
  go_upto_region 2 with (fail)
  have hC := BlkAt.new w2 35 [.int .i64 pe, .slice a2 pL.length cap2]
  have hB := hB.alloc (.cells #[.int .i64 pe, .slice a2 pL.length cap2] 35)
  have hu := hu.alloc (.cells #[.int .i64 pe, .slice a2 pL.length cap2] 35)
  have hv2 := hv2.alloc (.cells #[.int .i64 pe, .slice a2 pL.length cap2] 35)
  have hb := hb.alloc hb.size (.cells #[.int .i64 pe, .slice a2 pL.length cap2] 35)
  change Code.wp _ _ _ _ (w2.alloc (.cells #[.int .i64 pe, .slice a2 pL.length cap2] 35))
  change BlkAt (w2.alloc (.cells #[.int .i64 pe, .slice a2 pL.length cap2] 35)) _ _ _ at hC
  generalize w2.alloc (.cells #[.int .i64 pe, .slice a2 pL.length cap2] 35) = w3 at *
  generalize w2.heap.size = C at *
  by_cases hz : px = 0
  · subst hz
    go_wp2_with fail
    refine (csame_any (by exact hC) (by exact hB) (by exact hv2) (by exact hu)).mono ?_
    rintro en w4 ⟨rfl, m, rfl⟩
    go_wp2_with fail
    go_ret
    exact ⟨by rw [HE.out]; rfl, below_drewN hb m⟩
  · have hz' : (px == 0) = false := by simpa using hz
    have HE := Lib.hid (show syncTo ⟨e, L⟩ ⟨f, M⟩ ⟨x, y, b⟩ = false by rw [HE.out, hz']; rfl)
    go_wp2_with fail
    go_ret
    exact ⟨by rw [HE.out]; rfl, hb⟩

/-- Members' cells. -/
def memsCells (G : List (Int × Int)) : List Value := G.flatMap fun g => [.int .i64 g.1, .int .i64 g.2]
theorem memsCells_snoc (G : List (Int × Int)) (g : Int × Int) : memsCells (G ++ [g]) = memsCells G ++ [.int .i64 g.1, .int .i64 g.2] := by simp [memsCells]
theorem memsCells_at : ∀ (G : List (Int × Int)) (i : Nat) (g : Int × Int), G[i]? = some g → (memsCells G)[i * 2]? = some (.int .i64 g.1) ∧ (memsCells G)[i * 2 + 1]? = some (.int .i64 g.2)
  | [], i, g, h => by simp at h
  | x :: G, 0, g, h => by
    obtain rfl : x = g := by simpa using h
    exact ⟨rfl, rfl⟩
  | x :: G, i + 1, g, h => by
    obtain ⟨h0, h1⟩ := memsCells_at G i g (by simpa using h)
    have : memsCells (x :: G) = [.int .i64 x.1, .int .i64 x.2] ++ memsCells G := rfl
    rw [this]
    refine ⟨?_, ?_⟩
    · rw [List.getElem?_append_right (by simp; omega), ← h0]; congr 1; simp; omega
    · rw [List.getElem?_append_right (by simp; omega), ← h1]; congr 1; simp; omega
theorem mem_full : (Tryz.prog.info? 42).map (fun i => (i.zero, i.size, i.bytes)) = some (some (.agg #[.int .i64 0, .int .i64 0]), 2, 16) := by kernel_rfl
theorem mems_of_own {w : World} {base : Nat} {e : TypeId} {v : Value} {G : List (Int × Int)} (h : w.ownsRow base e 2 v G.length (memsCells G)) : MemsV w v G := by
  obtain ⟨h1, h2⟩ := h
  rcases h2 with ⟨rfl, h0⟩ | ⟨g, cap, cur, rfl, hb, hg, hn, hc, hs, ht⟩
  · rw [List.length_eq_zero_iff] at h0
    subst h0
    exact MemsV.nil w
  · refine ⟨_, cap, rfl, by omega, fun _ => ⟨g, 0, rfl, (Array.getElem?_eq_some_iff.1 hg).1, fun i s hi => ?_⟩⟩
    have hil := (List.getElem?_eq_some_iff.1 hi).1
    have hcell : ∀ j, j < G.length * 2 → w.cell? ⟨g, j, none⟩ = (memsCells G)[j]? := fun j hj =>
      World.ownsRow.cellAt (w := w) (base := base) (e := e) (size := 2) (g := g) (cap := cap) (n := G.length) (xs := memsCells G) ⟨h1, .inr ⟨g, cap, cur, rfl, hb, hg, hn, hc, hs, ht⟩⟩ j hj
    obtain ⟨t0, t1⟩ := memsCells_at G i s hi
    rw [Nat.zero_add]
    exact ⟨by rw [hcell _ (by omega), t0], by rw [hcell _ (by omega), t1]⟩
theorem goneC_snoc {L M : List SeatV} {k : Nat} {s : SeatV} (h : L[k]? = some s) : goneC (L.take (k + 1)) M = if M.contains s = true then goneC (L.take k) M else goneC (L.take k) M ++ [(s.node, s.life)] := by
  rw [take_snoc h, goneC, List.filter_append, List.map_append]
  cases hc : M.contains s with
  | true => rw [if_pos rfl, List.filter_cons_of_neg (by simpa using hc)]; simp [goneC]
  | false => rw [if_neg (by simp), List.filter_cons_of_pos (by simpa using hc)]; simp [goneC]
theorem goneC_len (L M : List SeatV) : (goneC L M).length ≤ L.length := by rw [goneC, List.length_map]; exact List.length_filter_le _ _
theorem atC_w64 {L : List SeatV} {i : Int} (h : ∀ s ∈ L, SeatOk s) : W64 (atC L i).1 ∧ W64 (atC L i).2.1 := by
  unfold atC
  split
  · exact ⟨W64.mk (by decide) (by decide), W64.mk (by decide) (by decide)⟩
  · split
    · rename_i s hs
      exact h s (List.mem_of_getElem? hs)
    · exact ⟨W64.mk (by decide) (by decide), W64.mk (by decide) (by decide)⟩
theorem ChainAt.ok {w : World} {v : Value} {L : List SeatV} (h : ChainAt w v L) : ∀ s ∈ L, SeatOk s := by
  obtain ⟨a, cap, _, hs⟩ := h
  exact hs.2.1

set_option maxRecDepth 100000 in
set_option maxHeartbeats 4000000 in

theorem cfollows_any {w : World} {v u : Value} {L M : List SeatV} (hv : ChainAt w v L) (hu : ChainAt w u M) (e f : Int) :
    Calls Tryz.prog 18 #[.agg #[.int .i64 e, v], .agg #[.int .i64 f, u]] w fun en w' => en = .returned (.bool (followsC ⟨e, L⟩ ⟨f, M⟩)) ∧ Below w.heap.size w w' := by
  obtain ⟨i0, hi0, hz0, hz1, hz2⟩ := info_parts mem_full
  have hMok := hu.ok
  obtain ⟨a, cap, rfl, hs⟩ := hv
  have hv : ChainAt w (.slice a L.length cap) L := ⟨a, cap, rfl, hs⟩
  have hlen := hs.1
  unfold maxLen at hlen
  obtain ⟨a2, cap2, rfl, hs2⟩ := hu
  have hu : ChainAt w (.slice a2 M.length cap2) M := ⟨a2, cap2, rfl, hs2⟩
  have hv0 := hv
  have hu0 := hu
  go_enter Tryz.func18, Tryz.ntmps18
  go_upto_region 1 with (fail)
  have hA : BlkAt ((w.alloc (.cells #[.int .i64 e, .slice a L.length cap] 35)).alloc (.cells #[.int .i64 f, .slice a2 M.length cap2] 35)) w.heap.size 35 [.int .i64 e, .slice a L.length cap] := (BlkAt.new w 35 [.int .i64 e, .slice a L.length cap]).alloc _
  have hB : BlkAt ((w.alloc (.cells #[.int .i64 e, .slice a L.length cap] 35)).alloc (.cells #[.int .i64 f, .slice a2 M.length cap2] 35)) (w.heap.size + 1) 35 [.int .i64 f, .slice a2 M.length cap2] := BlkAt.newAt (by simp) 35 [.int .i64 f, .slice a2 M.length cap2]
  have hb : Below w.heap.size w ((w.alloc (.cells #[.int .i64 e, .slice a L.length cap] 35)).alloc (.cells #[.int .i64 f, .slice a2 M.length cap2] 35)) := ((Below.refl w.heap.size w).alloc (Nat.le_refl _) _).alloc (by simp) _
  have hWs : w.heap.size + 2 ≤ ((w.alloc (.cells #[.int .i64 e, .slice a L.length cap] 35)).alloc (.cells #[.int .i64 f, .slice a2 M.length cap2] 35)).heap.size := by simp
  have hv := hv.below hb
  have hu := hu.below hb
  change Code.wp _ _ _ _ ((w.alloc (.cells #[.int .i64 e, .slice a L.length cap] 35)).alloc (.cells #[.int .i64 f, .slice a2 M.length cap2] 35))
  generalize (w.alloc (.cells #[.int .i64 e, .slice a L.length cap] 35)).alloc (.cells #[.int .i64 f, .slice a2 M.length cap2] 35) = W at *
  have hBn : w.heap.size ≤ w.heap.size + 1 := by omega
  have hBb : w.heap.size + 1 < w.heap.size + 2 := by omega
  have hB0 : w.heap.size + 1 ≠ w.heap.size := by omega
  generalize hBd : w.heap.size + 1 = B at *
  have a0 : W.cell? ⟨w.heap.size, 0, none⟩ = some (.int .i64 e) := hA.cell rfl
  have a1 : W.cell? ⟨w.heap.size, 1, none⟩ = some (.slice a L.length cap) := hA.cell rfl
  go_wp2_with fail
  refine (cright_any (by exact hv) e).mono ?_
  rintro en w2 ⟨rfl, b2⟩
  have hA := hA.below b2
  have hB := hB.below b2
  have hv := hv.below b2
  have hu := hu.below b2
  have hWs : w.heap.size + 2 ≤ w2.heap.size := by have := b2.size; omega
  have hb := below_step hb b2
  clear b2
  clear a0 a1
  cases hra : rightC ⟨e, L⟩ with
  | false =>
    have HE := Lib.hid (show followsC ⟨e, L⟩ ⟨f, M⟩ = false by rw [followsC, if_pos hra])
    go_wp2_with fail
    go_ret
    exact ⟨by rw [HE.out]; rfl, hb⟩
  | true =>
  have HA := Lib.hid hra
  have hri := rightC_iff.1 hra
  have he1 : 1 ≤ e := hri.1
  have he2 : e ≤ 1099511627776 := hri.2.1
  have hl8 : L.length ≤ 8 := hri.2.2.2.1
  clear hra hri
  have a0 : w2.cell? ⟨B, 0, none⟩ = some (.int .i64 f) := hB.cell rfl
  have a1 : w2.cell? ⟨B, 1, none⟩ = some (.slice a2 M.length cap2) := hB.cell rfl
  go_wp2_with fail
  refine (cright_any (by exact hu) f).mono ?_
  rintro en w3 ⟨rfl, b3⟩
  have hA := hA.below b3
  have hB := hB.below b3
  have hv := hv.below b3
  have hu := hu.below b3
  have hWs : w.heap.size + 2 ≤ w3.heap.size := by have := b3.size; omega
  have hb := below_step hb b3
  clear b3
  clear a0 a1
  cases hrb : rightC ⟨f, M⟩ with
  | false =>
    have HE := Lib.hid (show followsC ⟨e, L⟩ ⟨f, M⟩ = false by rw [followsC, if_neg (by rw [HA.out]; simp), if_pos hrb])
    go_wp2_with fail
    go_ret
    exact ⟨by rw [HE.out]; rfl, hb⟩
  | true =>
  have HB := Lib.hid hrb
  have hri := rightC_iff.1 hrb
  have hm8 : M.length ≤ 8 := hri.2.2.2.1
  clear hrb hri
  have H1 := Lib.hid (show followsC ⟨e, L⟩ ⟨f, M⟩ = if sameC ⟨e, L⟩ ⟨f, M⟩ = true then true else if e = f then L.any (syncTo ⟨e, L⟩ ⟨f, M⟩) else if joinTo ⟨e, L⟩ ⟨f, M⟩ (lastC M).1 (lastC M).2.1 = true then true else leaveTo ⟨e, L⟩ ⟨f, M⟩ by rw [followsC, if_neg (by rw [HA.out]; simp), if_neg (by rw [HB.out]; simp)])
  go_wp2_with fail
  refine (csame_any (by exact hA) (by exact hB) (by exact hv) (by exact hu)).mono ?_
  rintro en w4 ⟨rfl, m, rfl⟩
  rw [← sameC_lit]
  have hA := hA.drewN m
  have hB := hB.drewN m
  have hv := hv.drewN m
  have hu := hu.drewN m
  have hb := below_drewN hb m
  have hWs : w.heap.size + 2 ≤ (w3.drewN m).heap.size := hWs
  generalize w3.drewN m = w4 at *
  cases hsm : sameC ⟨e, L⟩ ⟨f, M⟩ with
  | true =>
    have HE := Lib.hid (show followsC ⟨e, L⟩ ⟨f, M⟩ = true by rw [H1.out, if_pos hsm])
    go_wp2_with fail
    go_ret
    exact ⟨by rw [HE.out]; rfl, hb⟩
  | false =>
  have H2 := Lib.hid (show followsC ⟨e, L⟩ ⟨f, M⟩ = if e = f then L.any (syncTo ⟨e, L⟩ ⟨f, M⟩) else if joinTo ⟨e, L⟩ ⟨f, M⟩ (lastC M).1 (lastC M).2.1 = true then true else leaveTo ⟨e, L⟩ ⟨f, M⟩ by rw [H1.out, if_neg (by rw [hsm]; simp)])
  clear hsm
  have a0 : w4.cell? ⟨w.heap.size, 0, none⟩ = some (.int .i64 e) := hA.cell rfl
  have a1 : w4.cell? ⟨w.heap.size, 1, none⟩ = some (.slice a L.length cap) := hA.cell rfl
  have c0 : w4.cell? ⟨B, 0, none⟩ = some (.int .i64 f) := hB.cell rfl
  have c1 : w4.cell? ⟨B, 1, none⟩ = some (.slice a2 M.length cap2) := hB.cell rfl
  by_cases hef : e = f
  · have HE := Lib.hid (show followsC ⟨e, L⟩ ⟨f, M⟩ = L.any (syncTo ⟨e, L⟩ ⟨f, M⟩) by rw [H2.out, if_pos hef])
    have hef' : (e == f) = true := by simpa using hef
    have HF := Lib.hid hef
    clear hef
    go_wp2_with fail
    refine (contfunc_any (syncTo ⟨e, L⟩ ⟨f, M⟩) 37 #[.pointer (some ⟨w.heap.size, 0, none⟩), .pointer (some ⟨B, 0, none⟩)] (fun _ _ => rfl) (by exact hv) (fun W' x y b hx hy hb' => (follows1_any (hA.below hb') (hB.below hb') (hv.below hb') (hu.below hb') x y b hx hy).mono fun _ _ ⟨h, g⟩ => ⟨h, hb'.trans (g.mono hb'.size)⟩)).mono ?_
    rintro en w5 ⟨rfl, b5⟩
    have hb := below_step hb b5
    go_wp2_with fail
    go_ret
    exact ⟨by rw [HE.out]; rfl, hb⟩
  · have H3 := Lib.hid (show followsC ⟨e, L⟩ ⟨f, M⟩ = if joinTo ⟨e, L⟩ ⟨f, M⟩ (lastC M).1 (lastC M).2.1 = true then true else leaveTo ⟨e, L⟩ ⟨f, M⟩ by rw [H2.out, if_neg hef])
    have hef' : (e == f) = false := by simpa using hef
    obtain ⟨hw1, hw2⟩ := atC_w64 (i := (M.length : Int) - 1) hMok
    have HF := Lib.hid hef
    clear hef
    go_wp2_with fail
    refine (ctail_any (by exact hu) f).mono ?_
    rintro en w5 ⟨rfl, b5⟩
    have hA := hA.below b5
    have hB := hB.below b5
    have hv := hv.below b5
    have hu := hu.below b5
    have hWs : w.heap.size + 2 ≤ w5.heap.size := by have := b5.size; omega
    have hb := below_step hb b5
    clear b5
    clear a0 a1 c0 c1
    obtain ⟨ln, ll, lb, hlst⟩ : ∃ ln ll lb, atC M ((M.length : Int) - 1) = (ln, ll, lb) := ⟨_, _, _, rfl⟩
    have H4 := Lib.hid (show followsC ⟨e, L⟩ ⟨f, M⟩ = if joinTo ⟨e, L⟩ ⟨f, M⟩ ln ll = true then true else leaveTo ⟨e, L⟩ ⟨f, M⟩ by rw [H3.out, lastC, hlst])
    rw [hlst] at hw1 hw2 ⊢
    clear hlst
    go_upto_region 8 with (fail)
    have hT := BlkAt.new w5 42 [.int .i64 ln, .int .i64 ll]
    have hA := hA.alloc (.cells #[.int .i64 ln, .int .i64 ll] 42)
    have hB := hB.alloc (.cells #[.int .i64 ln, .int .i64 ll] 42)
    have hv := hv.alloc (.cells #[.int .i64 ln, .int .i64 ll] 42)
    have hu := hu.alloc (.cells #[.int .i64 ln, .int .i64 ll] 42)
    have hb := hb.alloc hb.size (.cells #[.int .i64 ln, .int .i64 ll] 42)
    have hWq : w.heap.size + 2 ≤ (w5.alloc (.cells #[.int .i64 ln, .int .i64 ll] 42)).heap.size := by simp; omega
    have hTs : w5.heap.size + 1 ≤ (w5.alloc (.cells #[.int .i64 ln, .int .i64 ll] 42)).heap.size := by simp
    have hT0 : w.heap.size ≠ w5.heap.size := by omega
    have hTB : B ≠ w5.heap.size := by omega
    have hTn : w.heap.size ≤ w5.heap.size := by omega
    clear hWs
    have hWs := hWq
    clear hWq
    change Code.wp _ _ _ _ (w5.alloc (.cells #[.int .i64 ln, .int .i64 ll] 42))
    change BlkAt (w5.alloc (.cells #[.int .i64 ln, .int .i64 ll] 42)) _ _ _ at hT
    generalize w5.alloc (.cells #[.int .i64 ln, .int .i64 ll] 42) = w6 at *
    generalize w5.heap.size = T at *
    have a0 : w6.cell? ⟨w.heap.size, 0, none⟩ = some (.int .i64 e) := hA.cell rfl
    have a1 : w6.cell? ⟨w.heap.size, 1, none⟩ = some (.slice a L.length cap) := hA.cell rfl
    have t0 : w6.cell? ⟨T, 0, none⟩ = some (.int .i64 ln) := hT.cell rfl
    have t1 : w6.cell? ⟨T, 1, none⟩ = some (.int .i64 ll) := hT.cell rfl
    obtain ⟨pe, pL, px, hP⟩ := conf_parts (joinC ⟨e, L⟩ ln ll)
    have HJ := Lib.hid (show joinTo ⟨e, L⟩ ⟨f, M⟩ ln ll = ((px == 0) && (pe == f && decide (pL = M))) by simp only [joinTo, hP, sameC_lit])
    have HP := Lib.hid hP
    clear hP
    go_wp2_with fail
    refine (cjoin_at (by exact hv) hw1 hw2 HP.out).mono ?_
    rintro en w7 ⟨a7, cap7, rfl, hv7, b7⟩
    have hA := hA.below b7
    have hB := hB.below b7
    have hv := hv.below b7
    have hu := hu.below b7
    have hWs : w.heap.size + 2 ≤ w7.heap.size := by have := b7.size; omega
    have hb := below_step hb b7
    clear b7
    clear a0 a1 t0 t1 hT hTs
    go_upto_region 9 with (fail)
    have hC := BlkAt.new w7 35 [.int .i64 pe, .slice a7 pL.length cap7]
    have hA := hA.alloc (.cells #[.int .i64 pe, .slice a7 pL.length cap7] 35)
    have hB := hB.alloc (.cells #[.int .i64 pe, .slice a7 pL.length cap7] 35)
    have hv := hv.alloc (.cells #[.int .i64 pe, .slice a7 pL.length cap7] 35)
    have hu := hu.alloc (.cells #[.int .i64 pe, .slice a7 pL.length cap7] 35)
    have hv7 := hv7.alloc (.cells #[.int .i64 pe, .slice a7 pL.length cap7] 35)
    have hb := hb.alloc hb.size (.cells #[.int .i64 pe, .slice a7 pL.length cap7] 35)
    have hWq : w.heap.size + 2 ≤ (w7.alloc (.cells #[.int .i64 pe, .slice a7 pL.length cap7] 35)).heap.size := by simp; omega
    have hCs : w7.heap.size + 1 ≤ (w7.alloc (.cells #[.int .i64 pe, .slice a7 pL.length cap7] 35)).heap.size := by simp
    have hC0 : w.heap.size ≠ w7.heap.size := by omega
    have hCB : B ≠ w7.heap.size := by omega
    have hCn : w.heap.size ≤ w7.heap.size := by omega
    clear hWs
    have hWs := hWq
    clear hWq
    change Code.wp _ _ _ _ (w7.alloc (.cells #[.int .i64 pe, .slice a7 pL.length cap7] 35))
    change BlkAt (w7.alloc (.cells #[.int .i64 pe, .slice a7 pL.length cap7] 35)) _ _ _ at hC
    generalize w7.alloc (.cells #[.int .i64 pe, .slice a7 pL.length cap7] 35) = w8 at *
    generalize w7.heap.size = C at *
    clear hCs
    go_cut [47] (fun s wx => ∃ q : Bool, s = .bool q ∧ Aside (joinTo ⟨e, L⟩ ⟨f, M⟩ ln ll = q) ∧ BlkAt wx w.heap.size 35 [.int .i64 e, .slice a L.length cap] ∧ BlkAt wx B 35 [.int .i64 f, .slice a2 M.length cap2] ∧ ChainAt wx (.slice a L.length cap) L ∧ ChainAt wx (.slice a2 M.length cap2) M ∧ Below w.heap.size w wx ∧ w.heap.size + 2 ≤ wx.heap.size)
    case first =>
      by_cases hz : px = 0
      · subst hz
        go_wp2_with fail
        refine (csame_any (by exact hC) (by exact hB) (by exact hv7) (by exact hu)).mono ?_
        rintro en w9 ⟨rfl, m, rfl⟩
        go_wp2_with fail
        go_meet
        exact ⟨_, rfl, by rw [HJ.out]; rfl, hA.drewN m, hB.drewN m, hv.drewN m, hu.drewN m, below_drewN hb m, hWs⟩
      · have hz' : (px == 0) = false := by simpa using hz
        have HE := Lib.hid (show joinTo ⟨e, L⟩ ⟨f, M⟩ ln ll = false by rw [HJ.out, hz']; rfl)
        go_wp2_with fail
        go_meet
        exact ⟨_, rfl, HE.out, hA, hB, hv, hu, hb, hWs⟩
    case rest =>
      obtain ⟨q, rfl, HQ, hA, hB, hv, hu, hb, hWs⟩ := hcut
      clear hC hv7
      cases q with
      | true =>
        have HE := Lib.hid (show followsC ⟨e, L⟩ ⟨f, M⟩ = true by rw [H4.out, HQ.out, if_pos rfl])
        go_wp2_with fail
        go_ret
        exact ⟨by rw [HE.out]; rfl, hb⟩
      | false =>
        have H5 := Lib.hid (show followsC ⟨e, L⟩ ⟨f, M⟩ = leaveTo ⟨e, L⟩ ⟨f, M⟩ by rw [H4.out, HQ.out, if_neg (by simp)])
        have a1 : wc.cell? ⟨w.heap.size, 1, none⟩ = some (.slice a L.length cap) := hA.cell rfl
        obtain ⟨Z, hZe⟩ : ∃ Z, Z = wc.heap.size := ⟨_, rfl⟩
        have hsz : Z ≤ wc.heap.size := by omega
        have hZ : w.heap.size + 2 ≤ Z := by omega
        clear hZe
        go_wp2_with fail
        go_loopw [9, 51] (fun gv i wr => ∃ k : Nat, k ≤ L.length ∧ i = .int .i64 k ∧ wr.ownsRow Z 42 2 gv (goneC (L.take k) M).length (memsCells (goneC (L.take k) M)) ∧ BlkAt wr w.heap.size 35 [.int .i64 e, .slice a L.length cap] ∧ BlkAt wr B 35 [.int .i64 f, .slice a2 M.length cap2] ∧ Below w.heap.size w wr ∧ Z ≤ wr.heap.size) (fun _ i _ => L.length - (intOf i).toNat)
        case atStart => exact ⟨0, Nat.zero_le _, rfl, World.ownsRow_nil _ _ _ _, hA, hB, hb, hsz⟩
        case round =>
          obtain ⟨k, hk, rfl, hown, hA, hB, hb, hsz⟩ := hrel
          clear a1 hWs
          by_cases hlt : k < L.length
          · obtain ⟨b, off, rfl, hab, hc⟩ := hs.2.2 (by omega)
            obtain ⟨s, hs'⟩ : ∃ s, L[k]? = some s := ⟨_, List.getElem?_eq_getElem hlt⟩
            obtain ⟨s0, s1, s2⟩ := (hc k s hs').of (w' := wr) fun j => hb.cell (p := ⟨b, j, none⟩) hab
            have HL := Lib.hid (goneC_snoc (M := M) hs')
            have hgl : (goneC (L.take k) M).length ≤ 8 := Nat.le_trans (goneC_len _ _) (by rw [List.length_take]; omega)
            obtain ⟨x, y, z⟩ := s
            simp only at s0 s1 s2 HL
            have hHs := Lib.hid hs
            have huw := hu0.below hb
            clear hc hs' hs hv hu
            go_upto_region 15 with (fail)
            have hS := BlkAt.new wr 49 [.int .i64 x, .int .i64 y, .bool z]
            have hA := hA.alloc (.cells #[.int .i64 x, .int .i64 y, .bool z] 49)
            have hB := hB.alloc (.cells #[.int .i64 x, .int .i64 y, .bool z] 49)
            have huw := huw.alloc (.cells #[.int .i64 x, .int .i64 y, .bool z] 49)
            have hown := hown.alloc (.cells #[.int .i64 x, .int .i64 y, .bool z] 49)
            have hb := hb.alloc hb.size (.cells #[.int .i64 x, .int .i64 y, .bool z] 49)
            have hSs : wr.heap.size + 1 ≤ (wr.alloc (.cells #[.int .i64 x, .int .i64 y, .bool z] 49)).heap.size := by simp
            have hS0 : w.heap.size ≠ wr.heap.size := by omega
            have hSB : B ≠ wr.heap.size := by omega
            have hSn : w.heap.size ≤ wr.heap.size := by omega
            change Code.wp _ _ _ _ (wr.alloc (.cells #[.int .i64 x, .int .i64 y, .bool z] 49))
            change BlkAt (wr.alloc (.cells #[.int .i64 x, .int .i64 y, .bool z] 49)) _ _ _ at hS
            generalize wr.alloc (.cells #[.int .i64 x, .int .i64 y, .bool z] 49) = w9 at *
            generalize wr.heap.size = S at *
            have hsz : Z ≤ w9.heap.size := by omega
            clear s0 s1 s2
            have b1 : w9.cell? ⟨B, 1, none⟩ = some (.slice a2 M.length cap2) := hB.cell rfl
            have s0 : w9.cell? ⟨S, 0, none⟩ = some (.int .i64 x) := hS.cell rfl
            have s1 : w9.cell? ⟨S, 1, none⟩ = some (.int .i64 y) := hS.cell rfl
            have s2 : w9.cell? ⟨S, 2, none⟩ = some (.bool z) := hS.cell rfl
            go_wp2_with fail
            refine (contseat_any (by exact huw) x y z).mono ?_
            rintro en w10 ⟨rfl, b10⟩
            have hA := hA.below b10
            have hB := hB.below b10
            have hS := hS.below b10
            have hown := own_below hown b10
            have hsz : Z ≤ w10.heap.size := by have := b10.size; omega
            have hb := below_step hb b10
            clear b10
            clear s0 s1 s2 b1
            cases hq : M.contains (⟨x, y, z⟩ : SeatV) with
            | true =>
              have HK := Lib.hid (show goneC (L.take (k + 1)) M = goneC (L.take k) M by rw [HL.out, hq]; rfl)
              clear hq
              go_wp2_with fail
              go_roundw
              case rel => exact ⟨k + 1, by omega, by go_num, by rw [HK.out]; exact hown, hA, hB, hb, hsz⟩
              case measure => simp [intOf]; omega
            | false =>
              have HK := Lib.hid (show goneC (L.take (k + 1)) M = goneC (L.take k) M ++ [(x, y)] by rw [HL.out, hq]; rfl)
              clear hq
              have s0 : w10.cell? ⟨S, 0, none⟩ = some (.int .i64 x) := hS.cell rfl
              have s1 : w10.cell? ⟨S, 1, none⟩ = some (.int .i64 y) := hS.cell rfl
              go_wp2_with (at_builtin; refine wpList_append_lies _ rfl (.tmp 60) (.tmp 63) 97 rfl Z 42 i0 _ 2 16 Tryz.underlying97 hi0 hz0 hz1 hz2 rfl (by omega) _ _ _ rfl (hown.alloc _) ⟨w10.heap.size, 0, none⟩ 1 1 [.int .i64 x, .int .i64 y] rfl rfl ?c1 ?c2 (by omega) ?c3 ?c4 ?c5 (w10.heap.size + 1) (by simp) ?_)
              case c1 => first | exact World.news_of_block (heap_alloc_new _ _) | exact fun _ _ h => h
              case c2 => intro u hu; simp at hu; rcases hu with rfl | rfl <;> rfl
              case c3 => unfold maxLen; omega
              case c4 => omega
              case c5 => first | omega | (simp; omega)
              intro g' cap' w' hown' hg' hat' hlt'
              have hne1 := own_ne hown (D := w.heap.size) (by omega)
              have hne2 := own_ne hown (D := B) (by omega)
              have hAl := hA.lt
              have hBl := hB.lt
              have hA2 : BlkAt w' w.heap.size 35 [.int .i64 e, .slice (some ⟨b, off, none⟩) L.length cap] := (hg'.block _ (by simp; omega) hne1).trans (hA.alloc (.cells #[.int .i64 x, .int .i64 y] 42))
              have hB2 : BlkAt w' B 35 [.int .i64 f, .slice a2 M.length cap2] := (hg'.block _ (by simp; omega) hne2).trans (hB.alloc (.cells #[.int .i64 x, .int .i64 y] 42))
              have hb2 : Below w.heap.size w w' := (hb.alloc hb.size _).grown hg' (by simp; omega) (fun j hj => by have := (hown.lt j hj).1; omega)
              have hsz2 : Z ≤ w'.heap.size := by have := hg'.size; simp at this; omega
              clear hg' hat' hA hB hown hb hsz s0 s1
              go_wp2_with fail
              go_roundw
              case rel => exact ⟨k + 1, by omega, by go_num, by rw [HK.out, memsCells_snoc, List.length_append]; exact hown', hA2, hB2, hb2, hsz2⟩
              case measure => simp [intOf]; omega
          · obtain rfl : k = L.length := by omega
            rw [List.take_of_length_le (Nat.le_refl _)] at hown
            have hmv := mems_of_own hown
            have hgl := goneC_len L M
            have HLT := Lib.hid (show leaveTo ⟨e, L⟩ ⟨f, M⟩ = if (goneC L M).length = 0 then f == e + 1 && decide (L = M) else ((withoutC ⟨e, L⟩ (goneC L M)).2 == 0) && sameC (withoutC ⟨e, L⟩ (goneC L M)).1 ⟨f, M⟩ from rfl)
            have hv := hv0.below hb
            have hu := hu0.below hb
            clear hown hs
            generalize goneC L M = G at *
            obtain ⟨ag, cg, rfl, hmg⟩ := hmv
            have hmv : MemsV wr (.slice ag G.length cg) G := ⟨ag, cg, rfl, hmg⟩
            clear hmg
            by_cases hG : G.length = 0
            · have H6 := Lib.hid (show followsC ⟨e, L⟩ ⟨f, M⟩ = (f == e + 1 && decide (L = M)) by rw [H5.out, HLT.out, if_pos hG])
              have hG' : ((G.length : Int) == 0) = true := by simp [hG]
              have hG'' : (G.length : Int) = 0 := by omega
              have HG := Lib.hid hG
              clear hG
              have a0 : wr.cell? ⟨w.heap.size, 0, none⟩ = some (.int .i64 e) := hA.cell rfl
              have a1 : wr.cell? ⟨w.heap.size, 1, none⟩ = some (.slice a L.length cap) := hA.cell rfl
              have b0 : wr.cell? ⟨B, 0, none⟩ = some (.int .i64 f) := hB.cell rfl
              have b1 : wr.cell? ⟨B, 1, none⟩ = some (.slice a2 M.length cap2) := hB.cell rfl
              by_cases hfe : f = e + 1
              · have hfe' : (f == e + 1) = true := by simpa using hfe
                have HE := Lib.hid (show followsC ⟨e, L⟩ ⟨f, M⟩ = decide (L = M) by rw [H6.out, hfe']; rfl)
                have HFE := Lib.hid hfe
                clear hfe
                go_wp2_with fail
                refine (equal_any (by exact hv) (by exact hu)).mono ?_
                rintro en w9 ⟨rfl, m, rfl⟩
                go_wp2_with fail
                go_ret
                exact ⟨by rw [HE.out]; rfl, below_drewN hb m⟩
              · have hfe' : (f == e + 1) = false := by simpa using hfe
                have HE := Lib.hid (show followsC ⟨e, L⟩ ⟨f, M⟩ = false by rw [H6.out, hfe']; rfl)
                go_wp2_with fail
                go_ret
                exact ⟨by rw [HE.out]; rfl, hb⟩
            · have H6 := Lib.hid (show followsC ⟨e, L⟩ ⟨f, M⟩ = (((withoutC ⟨e, L⟩ G).2 == 0) && sameC (withoutC ⟨e, L⟩ G).1 ⟨f, M⟩) by rw [H5.out, HLT.out, if_neg hG])
              have hG' : ((G.length : Int) == 0) = false := by rw [beq_eq_false_iff_ne]; omega
              have hG'' : ¬ (G.length : Int) = 0 := by omega
              obtain ⟨pe, pL, px, hP⟩ := conf_parts (withoutC ⟨e, L⟩ G)
              have H7 := Lib.hid (show followsC ⟨e, L⟩ ⟨f, M⟩ = ((px == 0) && (pe == f && decide (pL = M))) by rw [H6.out, hP]; rfl)
              have HP := Lib.hid hP
              clear hP
              have a0 : wr.cell? ⟨w.heap.size, 0, none⟩ = some (.int .i64 e) := hA.cell rfl
              have a1 : wr.cell? ⟨w.heap.size, 1, none⟩ = some (.slice a L.length cap) := hA.cell rfl
              go_wp2_with fail
              refine (cwithout_at (by exact hv) (by exact hmv) HP.out).mono ?_
              rintro en w7 ⟨a7, cap7, rfl, hv7, b7⟩
              have hWs : w.heap.size + 2 ≤ wr.heap.size := by omega
              have hB := hB.below b7
              have hu := hu.below b7
              have hWs : w.heap.size + 2 ≤ w7.heap.size := by have := b7.size; omega
              have hb := below_step hb b7
              clear b7
              clear a0 a1 hA hmv hv
              go_upto_region 21 with (fail)
              have hC := BlkAt.new w7 35 [.int .i64 pe, .slice a7 pL.length cap7]
              have hB := hB.alloc (.cells #[.int .i64 pe, .slice a7 pL.length cap7] 35)
              have hu := hu.alloc (.cells #[.int .i64 pe, .slice a7 pL.length cap7] 35)
              have hv7 := hv7.alloc (.cells #[.int .i64 pe, .slice a7 pL.length cap7] 35)
              have hb := hb.alloc hb.size (.cells #[.int .i64 pe, .slice a7 pL.length cap7] 35)
              have hWq : w.heap.size + 2 ≤ (w7.alloc (.cells #[.int .i64 pe, .slice a7 pL.length cap7] 35)).heap.size := by simp; omega
              have hCs : w7.heap.size + 1 ≤ (w7.alloc (.cells #[.int .i64 pe, .slice a7 pL.length cap7] 35)).heap.size := by simp
              have hC0 : w.heap.size ≠ w7.heap.size := by omega
              have hCB : B ≠ w7.heap.size := by omega
              have hCn : w.heap.size ≤ w7.heap.size := by omega
              clear hWs
              have hWs := hWq
              clear hWq
              change Code.wp _ _ _ _ (w7.alloc (.cells #[.int .i64 pe, .slice a7 pL.length cap7] 35))
              change BlkAt (w7.alloc (.cells #[.int .i64 pe, .slice a7 pL.length cap7] 35)) _ _ _ at hC
              generalize w7.alloc (.cells #[.int .i64 pe, .slice a7 pL.length cap7] 35) = w8 at *
              generalize w7.heap.size = C at *
              by_cases hz : px = 0
              · subst hz
                go_wp2_with fail
                refine (csame_any (by exact hC) (by exact hB) (by exact hv7) (by exact hu)).mono ?_
                rintro en w9 ⟨rfl, m, rfl⟩
                go_wp2_with fail
                go_ret
                exact ⟨by rw [H7.out]; rfl, below_drewN hb m⟩
              · have hz' : (px == 0) = false := by simpa using hz
                have HE := Lib.hid (show followsC ⟨e, L⟩ ⟨f, M⟩ = false by rw [H7.out, hz']; rfl)
                go_wp2_with fail
                go_ret
                exact ⟨by rw [HE.out]; rfl, hb⟩
end Go.Proofs.YtomfmejodmfioaaGreat
namespace Go.Proofs.YtomfmejodmfioaaGreat
open Go.RowKit Go.ChangeShapes Go.WideShapes Go.Joins
set_option linter.unusedVariables false

theorem chain_ne2 {w : World} {b off cap n X : Nat} {T : TypeId} {p q : Value} {L : List SeatV} (h : ChainAt w (.slice (some ⟨b, off, none⟩) n cap) L) (h0 : 0 < L.length) (hX : BlkAt w X T [p, q]) : b ≠ X := by
  rintro rfl
  obtain ⟨a, c, hv, hs⟩ := h
  cases hv
  obtain ⟨b', off', he, hab, hc⟩ := hs.2.2 h0
  cases he
  obtain ⟨s, hs'⟩ : ∃ s, L[0]? = some s := ⟨_, List.getElem?_eq_getElem h0⟩
  have h2 := (hc 0 s hs').2.2
  rw [cell_of_row _ _ _ _ _ _ hX] at h2
  simp at h2
theorem ChainAt.set2 {w : World} {v : Value} {L : List SeatV} {X : Nat} {T : TypeId} {p q : Value} (h : ChainAt w v L) (hX : BlkAt w X T [p, q]) (i : Nat) (u : Value) : ChainAt (w.setCell ⟨X, i, none⟩ u) v L := by
  have h' := h
  obtain ⟨a, cap, rfl, hs⟩ := h
  refine ⟨a, cap, rfl, hs.1, hs.2.1, fun hp => ?_⟩
  obtain ⟨b, off, rfl, hab, hc⟩ := hs.2.2 hp
  have hne := chain_ne2 h' hp hX
  refine ⟨b, off, rfl, by simpa [World.setCell] using hab, fun i' s hi => ?_⟩
  obtain ⟨c0, c1, c2⟩ := hc i' s hi
  exact ⟨cell_set_ne c0 hne, cell_set_ne c1 hne, cell_set_ne c2 hne⟩

end Go.Proofs.YtomfmejodmfioaaGreat
