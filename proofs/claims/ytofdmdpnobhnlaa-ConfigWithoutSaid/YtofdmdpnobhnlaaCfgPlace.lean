/- The contracts of Place, at, Head, Tail, Next, Ahead. -/
import Derived.Test.YtofdmdpnobhnlaaCfgEql
import Derived.Deep.DeepCutAuto
namespace Go.Proofs.Ytofdmdpnobhnlaa
open Go.RowKit Go.ChangeShapes Go.WideShapes Go.Joins
set_option linter.unusedVariables false

set_option maxRecDepth 100000 in
set_option maxHeartbeats 1000000 in
theorem place1_any {w : World} {c : Nat} {n l : Int} (hc : BlkAt w c 27 [.int .i64 n, .int .i64 l]) (x y : Int) (b : Bool) :
    Calls Try.prog 55 #[.agg #[.int .i64 x, .int .i64 y, .bool b], .pointer (some ⟨c, 0, none⟩)] w fun e w' => e = .returned (.bool (x == n && y == l)) ∧ Below w.heap.size w w' := by
  have hC := hc.alloc (.cells #[.int .i64 x, .int .i64 y, .bool b] 50)
  have hbel := (Below.refl w.heap.size w).alloc (Nat.le_refl _) (.cells #[.int .i64 x, .int .i64 y, .bool b] 50)
  have c0 : (w.alloc (.cells #[.int .i64 x, .int .i64 y, .bool b] 50)).cell? ⟨c, 0, none⟩ = some (.int .i64 n) := hC.cell rfl
  have c1 : (w.alloc (.cells #[.int .i64 x, .int .i64 y, .bool b] 50)).cell? ⟨c, 1, none⟩ = some (.int .i64 l) := hC.cell rfl
  have hq := mem_eql x y n l
  go_enter Try.func55, Try.ntmps55
  go_wp2_with fail
  go_ret
  exact ⟨rfl, hbel⟩

set_option maxRecDepth 100000 in
set_option maxHeartbeats 1000000 in
theorem cplace_any {w : World} {v : Value} {L : List SeatV} (hv : ChainAt w v L) (e n l : Int) :
    Calls Try.prog 24 #[.agg #[.int .i64 e, v], .agg #[.int .i64 n, .int .i64 l]] w fun en w' => en = .returned (.int .i64 (placeC L n l)) ∧ Below w.heap.size w w' := by
  obtain ⟨a, cap, rfl, hs⟩ := hv
  have hv : ChainAt w (.slice a L.length cap) L := ⟨a, cap, rfl, hs⟩
  go_enter Try.func24, Try.ntmps24
  go_upto_region 1 with (fail)
  have hA := (BlkAt.new w 24 [.int .i64 e, .slice a L.length cap]).alloc (.cells #[.int .i64 n, .int .i64 l] 27)
  have hB := BlkAt.newAt (w := w.alloc (.cells #[.int .i64 e, .slice a L.length cap] 24)) (n := w.heap.size + 1) (by simp) 27 [.int .i64 n, .int .i64 l]
  have hb := ((Below.refl w.heap.size w).alloc (Nat.le_refl _) (.cells #[.int .i64 e, .slice a L.length cap] 24)).alloc (by simp) (.cells #[.int .i64 n, .int .i64 l] 27)
  have hv2 := hv.below hb
  change Code.wp _ _ _ _ ((w.alloc (.cells #[.int .i64 e, .slice a L.length cap] 24)).alloc (.cells #[.int .i64 n, .int .i64 l] 27))
  change BlkAt ((w.alloc (.cells #[.int .i64 e, .slice a L.length cap] 24)).alloc (.cells #[.int .i64 n, .int .i64 l] 27)) _ _ _ at hA
  change BlkAt ((w.alloc (.cells #[.int .i64 e, .slice a L.length cap] 24)).alloc (.cells #[.int .i64 n, .int .i64 l] 27)) _ _ _ at hB
  generalize (w.alloc (.cells #[.int .i64 e, .slice a L.length cap] 24)).alloc (.cells #[.int .i64 n, .int .i64 l] 27) = W at *
  have c1 : W.cell? ⟨w.heap.size, 1, none⟩ = some (.slice a L.length cap) := hA.cell rfl
  clear hv hs
  go_wp2_with fail
  refine (indfunc_any (fun s => s.node == n && s.life == l) 55 #[.pointer (some ⟨w.heap.size + 1, 0, none⟩)] (fun _ _ => rfl) (by exact hv2) (fun W' x y b _ _ hb' => (place1_any (hB.below hb') x y b).mono fun _ _ ⟨h, g⟩ => ⟨h, hb'.trans (g.mono hb'.size)⟩)).mono ?_
  rintro en w' ⟨rfl, b'⟩
  have hb2 := below_step hb b'
  go_wp2_with fail
  go_ret
  exact ⟨rfl, hb2⟩

theorem fin2 {w W : World} {D : Nat} {T : TypeId} {x y p q : Value} (hD : BlkAt W D T [x, y]) (hb : Below w.heap.size w W) (hDn : w.heap.size ≤ D) :
    BlkAt ((W.setCell ⟨D, 0, none⟩ p).setCell ⟨D, 1, none⟩ q) D T [p, q] ∧ Below w.heap.size w ((W.setCell ⟨D, 0, none⟩ p).setCell ⟨D, 1, none⟩ q) :=
  ⟨(hD.set 0 p).set 1 q, grown_below (grown_below hb (grown_setCell W D 0 p) hDn) (grown_setCell _ D 1 q) hDn⟩

theorem atC_lo {L : List SeatV} {i : Int} (h : i < 0) : atC L i = (0, 0, false) := by rw [atC, if_pos h]
theorem atC_hi {L : List SeatV} {i : Int} (h : (L.length : Int) ≤ i) : atC L i = (0, 0, false) := by
  rw [atC, if_neg (by omega), List.getElem?_eq_none (by omega)]
theorem atC_in {L : List SeatV} {i : Nat} {s : SeatV} (h : L[i]? = some s) : atC L i = (s.node, s.life, true) := by
  rw [atC, if_neg (by omega), Int.toNat_natCast, h]

set_option maxRecDepth 100000 in
set_option maxHeartbeats 1000000 in
theorem cat_any {w : World} {c : Nat} {e : Int} {v : Value} {L : List SeatV} (hc : BlkAt w c 24 [.int .i64 e, v]) (hv : ChainAt w v L) (i : Int) :
    Calls Try.prog 53 #[.pointer (some ⟨c, 0, none⟩), .int .i64 i] w fun en w' => en = .returned (.tuple #[.agg #[.int .i64 (atC L i).1, .int .i64 (atC L i).2.1], .bool (atC L i).2.2]) ∧ Below w.heap.size w w' := by
  obtain ⟨a, cap, rfl, hs⟩ := hv
  have hlen := hs.1
  unfold maxLen at hlen
  go_enter Try.func53, Try.ntmps53
  go_upto_region 1 with (fail)
  have hD := BlkAt.new w 27 [.int .i64 0, .int .i64 0]
  have hC := hc.alloc (.cells #[.int .i64 0, .int .i64 0] 27)
  have hb := (Below.refl w.heap.size w).alloc (Nat.le_refl _) (.cells #[.int .i64 0, .int .i64 0] 27)
  have hs2 := hs.alloc (.cells #[.int .i64 0, .int .i64 0] 27)
  change Code.wp _ _ _ _ (w.alloc (.cells #[.int .i64 0, .int .i64 0] 27))
  change BlkAt (w.alloc (.cells #[.int .i64 0, .int .i64 0] 27)) _ _ _ at hD
  have hsz : w.heap.size < (w.alloc (.cells #[.int .i64 0, .int .i64 0] 27)).heap.size := by simp
  generalize w.alloc (.cells #[.int .i64 0, .int .i64 0] 27) = W at *
  have c1 : W.cell? ⟨c, 1, none⟩ = some (.slice a L.length cap) := hC.cell rfl
  have d0 : W.cell? ⟨w.heap.size, 0, none⟩ = some (.int .i64 0) := hD.cell rfl
  have d1 : W.cell? ⟨w.heap.size, 1, none⟩ = some (.int .i64 0) := hD.cell rfl
  have hf := hD.free
  have hDn : w.heap.size ≤ w.heap.size := Nat.le_refl _
  by_cases h1 : i < 0
  · have HA := Lib.hid (atC_lo (L := L) h1)
    go_wp2_with fail
    obtain ⟨hE, hbE⟩ := fin2 (p := .int .i64 0) (q := .int .i64 0) hD hb hDn
    change bodyPost _ _ _ _ _ ((W.setCell ⟨w.heap.size, 0, none⟩ (.int .i64 0)).setCell ⟨w.heap.size, 1, none⟩ (.int .i64 0))
    generalize (W.setCell ⟨w.heap.size, 0, none⟩ (.int .i64 0)).setCell ⟨w.heap.size, 1, none⟩ (.int .i64 0) = W9 at *
    clear d0 d1
    have d0 := hE.cell (i := 0) rfl
    have d1 := hE.cell (i := 1) rfl
    exact bodyPost_ret (v := .tuple #[.agg #[.int .i64 0, .int .i64 0], .bool false]) (by simp [results, Try.results53, go_sem, d0, d1] <;> rfl) rfl ⟨by rw [HA.out], hbE⟩
  · by_cases h2 : (L.length : Int) ≤ i
    · have HA := Lib.hid (atC_hi (L := L) h2)
      go_wp2_with fail
      obtain ⟨hE, hbE⟩ := fin2 (p := .int .i64 0) (q := .int .i64 0) hD hb hDn
      change bodyPost _ _ _ _ _ ((W.setCell ⟨w.heap.size, 0, none⟩ (.int .i64 0)).setCell ⟨w.heap.size, 1, none⟩ (.int .i64 0))
      generalize (W.setCell ⟨w.heap.size, 0, none⟩ (.int .i64 0)).setCell ⟨w.heap.size, 1, none⟩ (.int .i64 0) = W9 at *
      clear d0 d1
      have d0 := hE.cell (i := 0) rfl
      have d1 := hE.cell (i := 1) rfl
      exact bodyPost_ret (v := .tuple #[.agg #[.int .i64 0, .int .i64 0], .bool false]) (by simp [results, Try.results53, go_sem, d0, d1] <;> rfl) rfl ⟨by rw [HA.out], hbE⟩
    · obtain ⟨k, rfl⟩ : ∃ k : Nat, i = k := ⟨i.toNat, by omega⟩
      have hk : k < L.length := by omega
      obtain ⟨b, off, rfl, hab, hcell⟩ := hs2.2.2 (by omega)
      obtain ⟨s, hs'⟩ : ∃ s, L[k]? = some s := ⟨_, List.getElem?_eq_getElem hk⟩
      obtain ⟨s0, s1, _⟩ := hcell k s hs'
      have HA := Lib.hid (atC_in hs')
      clear hcell hs' hs hs2
      go_wp2_with fail
      obtain ⟨hE, hbE⟩ := fin2 (p := .int .i64 s.node) (q := .int .i64 s.life) hD hb hDn
      change bodyPost _ _ _ _ _ ((W.setCell ⟨w.heap.size, 0, none⟩ (.int .i64 s.node)).setCell ⟨w.heap.size, 1, none⟩ (.int .i64 s.life))
      generalize (W.setCell ⟨w.heap.size, 0, none⟩ (.int .i64 s.node)).setCell ⟨w.heap.size, 1, none⟩ (.int .i64 s.life) = W9 at *
      clear d0 d1
      have d0 := hE.cell (i := 0) rfl
      have d1 := hE.cell (i := 1) rfl
      exact bodyPost_ret (v := .tuple #[.agg #[.int .i64 s.node, .int .i64 s.life], .bool true]) (by simp [results, Try.results53, go_sem, d0, d1] <;> rfl) rfl ⟨by rw [HA.out], hbE⟩
end Go.Proofs.Ytofdmdpnobhnlaa
