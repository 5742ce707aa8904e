/- later, ContainsFunc, Clone, Equal, same. -/
import Derived.Test.YtofdmdpnobhnlaaCfgIdx
namespace Go.Proofs.Ytofdmdpnobhnlaa
open Go.RowKit Go.ChangeShapes Go.WideShapes Go.Joins
set_option linter.unusedVariables false

set_option maxRecDepth 100000 in
set_option maxHeartbeats 2000000 in
theorem later_full {w : World} {c : Nat} {e : Int} {vc : Value} {a : Option Addr} {n cap : Nat} (hc : BlkAt w c 24 [.int .i64 e, vc]) (h : 1099511627776 ≤ e) :
    Calls Try.prog 43 #[.pointer (some ⟨c, 0, none⟩), .slice a n cap] w fun en w' => en = .returned (.tuple #[.agg #[.int .i64 0, .slice none 0 0], .int .i64 5]) ∧ Below w.heap.size w w' := by
  have hce := hc.alloc (.cells #[.int .i64 0, .slice none 0 0] 24)
  go_enter Try.func43, Try.ntmps43
  go_upto_region 1 with (fail)
  have hD : BlkAt (w.alloc (.cells #[.int .i64 0, .slice none 0 0] 24)) w.heap.size 24 [.int .i64 0, .slice none 0 0] := BlkAt.new w 24 [.int .i64 0, .slice none 0 0]
  have hb : Below w.heap.size w (w.alloc (.cells #[.int .i64 0, .slice none 0 0] 24)) := (Below.refl w.heap.size w).alloc (Nat.le_refl _) _
  change Code.wp _ _ _ _ (w.alloc (.cells #[.int .i64 0, .slice none 0 0] 24))
  generalize w.alloc (.cells #[.int .i64 0, .slice none 0 0] 24) = W at *
  have hDn : w.heap.size ≤ w.heap.size := Nat.le_refl _
  have c0 : W.cell? ⟨c, 0, none⟩ = some (.int .i64 e) := hce.cell rfl
  have d0 : W.cell? ⟨w.heap.size, 0, none⟩ = some (.int .i64 0) := hD.cell rfl
  have d1 : W.cell? ⟨w.heap.size, 1, none⟩ = some (.slice none 0 0) := hD.cell rfl
  have hf := hD.free
  clear hc hce
  go_wp2_with fail
  obtain ⟨hE, hbE⟩ := fin2 (p := .int .i64 0) (q := .slice none 0 0) hD hb hDn
  change bodyPost _ _ _ _ _ ((W.setCell ⟨w.heap.size, 0, none⟩ (.int .i64 0)).setCell ⟨w.heap.size, 1, none⟩ (.slice none 0 0))
  generalize (W.setCell ⟨w.heap.size, 0, none⟩ (.int .i64 0)).setCell ⟨w.heap.size, 1, none⟩ (.slice none 0 0) = W9 at *
  clear d0 d1
  have d0 := hE.cell (i := 0) rfl
  have d1 := hE.cell (i := 1) rfl
  exact bodyPost_ret (v := .tuple #[.agg #[.int .i64 0, .slice none 0 0], .int .i64 5]) (by simp [results, Try.results43, go_sem, d0, d1] <;> rfl) rfl ⟨rfl, hbE⟩

set_option maxRecDepth 100000 in
set_option maxHeartbeats 2000000 in
theorem later_ok {w : World} {c : Nat} {e : Int} {vc : Value} {a : Option Addr} {n cap : Nat} (hc : BlkAt w c 24 [.int .i64 e, vc]) (h : e < 1099511627776) (hw : 0 ≤ e) :
    Calls Try.prog 43 #[.pointer (some ⟨c, 0, none⟩), .slice a n cap] w fun en w' => en = .returned (.tuple #[.agg #[.int .i64 (e + 1), .slice a n cap], .int .i64 0]) ∧ Below w.heap.size w w' := by
  have hce := hc.alloc (.cells #[.int .i64 0, .slice none 0 0] 24)
  go_enter Try.func43, Try.ntmps43
  go_upto_region 1 with (fail)
  have hD : BlkAt (w.alloc (.cells #[.int .i64 0, .slice none 0 0] 24)) w.heap.size 24 [.int .i64 0, .slice none 0 0] := BlkAt.new w 24 [.int .i64 0, .slice none 0 0]
  have hb : Below w.heap.size w (w.alloc (.cells #[.int .i64 0, .slice none 0 0] 24)) := (Below.refl w.heap.size w).alloc (Nat.le_refl _) _
  change Code.wp _ _ _ _ (w.alloc (.cells #[.int .i64 0, .slice none 0 0] 24))
  generalize w.alloc (.cells #[.int .i64 0, .slice none 0 0] 24) = W at *
  have hDn : w.heap.size ≤ w.heap.size := Nat.le_refl _
  have c0 : W.cell? ⟨c, 0, none⟩ = some (.int .i64 e) := hce.cell rfl
  have d0 : W.cell? ⟨w.heap.size, 0, none⟩ = some (.int .i64 0) := hD.cell rfl
  have d1 : W.cell? ⟨w.heap.size, 1, none⟩ = some (.slice none 0 0) := hD.cell rfl
  have hf := hD.free
  clear hc hce
  go_wp2_with fail
  obtain ⟨hE, hbE⟩ := fin2 (p := .int .i64 (e + 1)) (q := .slice a n cap) hD hb hDn
  change bodyPost _ _ _ _ _ ((W.setCell ⟨w.heap.size, 0, none⟩ (.int .i64 (e + 1))).setCell ⟨w.heap.size, 1, none⟩ (.slice a n cap))
  generalize (W.setCell ⟨w.heap.size, 0, none⟩ (.int .i64 (e + 1))).setCell ⟨w.heap.size, 1, none⟩ (.slice a n cap) = W9 at *
  clear d0 d1
  have d0 := hE.cell (i := 0) rfl
  have d1 := hE.cell (i := 1) rfl
  exact bodyPost_ret (v := .tuple #[.agg #[.int .i64 (e + 1), .slice a n cap], .int .i64 0]) (by simp [results, Try.results43, go_sem, d0, d1] <;> rfl) rfl ⟨rfl, hbE⟩

set_option maxRecDepth 100000 in
set_option maxHeartbeats 2000000 in
theorem contfunc_any (p : SeatV → Bool) (g : Nat) (lb : Array Value) (eg : ∀ args w, (callFunc g args).run Try.prog w = .ok (.enter g args) w) {w : World} {v : Value} {L : List SeatV} (hv : ChainAt w v L) (hp : PredB g lb p w) :
    Calls Try.prog 45 #[v, .func (.func g) #[] lb] w fun e w' => e = .returned (.bool (L.any p)) ∧ Below w.heap.size w w' := by
  have HA := Lib.hid (placeBy_any p L)
  go_enter Try.func45, Try.ntmps45
  go_wp2_with fail
  refine (indfunc_any p g lb eg (by exact hv) hp).mono ?_
  rintro en w2 ⟨rfl, b2⟩
  generalize placeBy p L = P at *
  go_wp2_with fail
  go_ret
  exact ⟨by rw [← HA.out]; rfl, b2⟩

set_option maxRecDepth 100000 in
set_option maxHeartbeats 2000000 in
theorem join1_any {w : World} {c : Nat} {n l : Int} (hc : BlkAt w c 27 [.int .i64 n, .int .i64 l]) (x y : Int) (b : Bool) :
    Calls Try.prog 46 #[.agg #[.int .i64 x, .int .i64 y, .bool b], .pointer (some ⟨c, 0, none⟩)] w fun e w' => e = .returned (.bool (x == n)) ∧ Below w.heap.size w w' := by
  have hC := hc.alloc (.cells #[.int .i64 x, .int .i64 y, .bool b] 50)
  have hbel := (Below.refl w.heap.size w).alloc (Nat.le_refl _) (.cells #[.int .i64 x, .int .i64 y, .bool b] 50)
  have c0 : (w.alloc (.cells #[.int .i64 x, .int .i64 y, .bool b] 50)).cell? ⟨c, 0, none⟩ = some (.int .i64 n) := hC.cell rfl
  go_enter Try.func46, Try.ntmps46
  go_wp2_with fail
  go_ret
  exact ⟨rfl, hbel⟩

set_option maxRecDepth 100000 in
set_option maxHeartbeats 2000000 in
theorem clone_any {w : World} {v : Value} {L : List SeatV} (hv : ChainAt w v L) (h0 : 0 < L.length) (h1 : L.length ≤ 1000) :
    Calls Try.prog 47 #[v] w fun en w' => ∃ g cap, en = .returned (.slice (some ⟨g, 0, none⟩) L.length cap) ∧ w'.ownsRow w.heap.size 50 3 (.slice (some ⟨g, 0, none⟩) L.length cap) L.length (seatsCells L) ∧ Below w.heap.size w w' := by
  obtain ⟨a, cap, rfl, hlen, hok, hcell⟩ := hv
  obtain ⟨b, off, rfl, hab, hc⟩ := hcell h0
  have hcs := SeatsAt.cells hc
  obtain ⟨i0, hi0, hz0, hz1, hz2⟩ := info_parts seat_full
  have q22 : ∀ (w : World) (a : Option Addr) (n c n' c' : Nat), (binOp .eql 22 (.slice a n c) (.slice none n' c')).run Try.prog w = .ok (.bool a.isNone) w := fun w a n c n' c' => Lib.run_eql_slice_nil w _ _ a n c n' c' Try.underlying22
  clear hcell hc
  go_enter Try.func47, Try.ntmps47
  go_wp2_with (at_builtin; refine wpList_append_lies _ rfl (.tmp 5) (.tmp 6) 22 rfl w.heap.size 50 i0 _ 3 24 Try.underlying22 hi0 hz0 hz1 hz2 rfl (by omega) _ _ _ rfl (World.ownsRow_made w #[] 0 (Nat.le_refl _) (Nat.zero_le _) rfl) ⟨b, off, none⟩ L.length cap (seatsCells L) rfl (seatsCells_len L) ?c1 seatsCells_one h0 ?c3 ?c4 ?c5 (w.heap.size + 1) ?c6 ?_)
  case c1 =>
    intro j u hj
    rw [Addr.add_lit]
    refine (World.cell?_alloc_lt w _ ⟨b, off + j, none⟩ hab).trans (hcs j u hj)
  case c3 => unfold maxLen; omega
  case c4 => omega
  case c5 => simp
  case c6 => simp
  intro g' cap' w' hown' hg' hat' hlt'
  have hb : Below w.heap.size w w' := ((Below.refl _ w).alloc (Nat.le_refl _) _).grown hg' (by simp) (by intro k hk; simp [Value.ownBlock] at hk; omega)
  have hown : w'.ownsRow w.heap.size 50 3 (.slice (some ⟨g', 0, none⟩) L.length cap') L.length (seatsCells L) := by simpa using hown'
  clear hg' hat' hown' hcs
  go_wp2_with fail
  go_ret
  exact ⟨g', cap', by simp <;> rfl, hown, hb⟩

end Go.Proofs.Ytofdmdpnobhnlaa
