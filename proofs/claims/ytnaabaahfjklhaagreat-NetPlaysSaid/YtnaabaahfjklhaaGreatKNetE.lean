/- The document's network: where it lies; place, Peek. The document's network: Take. The document's network: Send. -/
import Derived.Test.YtnaabaahfjklhaaGreatKNetC
import Derived.Test.YtnaabaahfjklhaaGreatKNetA
import Derived.Test.YtnaabaahfjklhaaGreatKNetD
import Derived.Deep.RegionLaw
import Derived.Test.YtnaabaahfjklhaaGreatKWireP
namespace Go.Proofs.YtnaabaahfjklhaaGreat
open Go.RowKit Go.ChangeShapes Go.WideShapes Go.Joins Go.Deep
set_option linter.unusedVariables false

/-- Block b is the document's network; what its messages lead to in w0. -/
def QNetAt (B : Nat) (w0 w : World) (b : Nat) (v : Value) (L : List MsgV) (s t : Int) : Prop :=
  B ≤ b ∧ w.heap[b]? = some (.cells #[v, .int .i64 s, .int .i64 t] 59 (0, 0)) ∧ MsgsO B w0 w v L
section
variable {B b : Nat} {w0 w w' : World} {v : Value} {L : List MsgV} {s t : Int}
theorem QNetAt.lt (h : QNetAt B w0 w b v L s t) : b < w.heap.size := (Array.getElem?_eq_some_iff.1 h.2.1).1
theorem QNetAt.cell0 (h : QNetAt B w0 w b v L s t) : w.cell? ⟨b, 0, none⟩ = some v := cell_of_row _ _ 0 _ _ _ h.2.1
theorem QNetAt.cell1 (h : QNetAt B w0 w b v L s t) : w.cell? ⟨b, 1, none⟩ = some (.int .i64 s) := cell_of_row _ _ 1 _ _ _ h.2.1
theorem QNetAt.cell2 (h : QNetAt B w0 w b v L s t) : w.cell? ⟨b, 2, none⟩ = some (.int .i64 t) := cell_of_row _ _ 2 _ _ _ h.2.1
theorem QNetAt.free (h : QNetAt B w0 w b v L s t) (i : Nat) : w.frozen? ⟨b, i, none⟩ = false := by
  have := h.2.1
  simp [World.frozen?, this]
theorem QNetAt.form (h : QNetAt B w0 w b v L s t) : ∃ A cap, v = .slice A L.length cap := h.2.2.form
theorem QNetAt.below (h : QNetAt B w0 w b v L s t) (hb : Below w.heap.size w w') : QNetAt B w0 w' b v L s t := ⟨h.1, (hb.block b h.lt).trans h.2.1, h.2.2.below hb⟩
theorem QNetAt.row (h : QNetAt B w0 w b v L s t) : ∀ j, v.ownBlock = some j → B ≤ j ∧ j < w.heap.size := by
  obtain ⟨_, _, css, _, h2, _⟩ := h
  exact h2.lt
theorem QNetAt.apart (h : QNetAt B w0 w b v L s t) : some b ≠ v.ownBlock := by
  obtain ⟨_, h1, css, _, h2, _⟩ := h
  exact own_apartN h1 h2 (by decide)
/-- Where the other network changes, it stays as it was. -/
theorem QNetAt.nkept {c : Nat} {r : Option Nat} (h : QNetAt B w0 w b v L s t) (hk : NKept w w' c r) (hbc : b ≠ c) (hbr : some b ≠ r) (hc : some c ≠ v.ownBlock) (hr : v.ownBlock = none ∨ v.ownBlock ≠ r) : QNetAt B w0 w' b v L s t :=
  ⟨h.1, (hk.block b h.lt hbc hbr).trans h.2.1, h.2.2.nkept hk hc hr⟩
end
set_option maxRecDepth 100000 in
set_option maxHeartbeats 1000000 in
theorem qplace_none {B b : Nat} {w0 w : World} {v : Value} {s t : Int} (h : QNetAt B w0 w b v [] s t) (i : Int) :
    Calls Tryz.prog 36 #[.pointer (some ⟨b, 0, none⟩), .int .i64 i] w fun e w' => e = .returned (.int .i64 (-1)) ∧ w = w' := by
  obtain ⟨A, cap, rfl⟩ := h.form
  have c0 := h.cell0
  clear h
  go_enter Tryz.func36, Tryz.ntmps36
  go_wp2_with fail
  go_ret
  exact ⟨rfl, rfl⟩
set_option maxRecDepth 100000 in
set_option maxHeartbeats 1000000 in
theorem qplace_any {B b : Nat} {w0 w : World} {v : Value} {L : List MsgV} {s t : Int} (h : QNetAt B w0 w b v L s t) (hL : L ≠ []) (hl : L.length ≤ 1000000) {i : Int} (hi : W64 i) :
    Calls Tryz.prog 36 #[.pointer (some ⟨b, 0, none⟩), .int .i64 i] w fun e w' => e = .returned (.int .i64 (placeN i L.length : Nat)) ∧ w = w' := by
  obtain ⟨A, cap, rfl⟩ := h.form
  have c0 := h.cell0
  have hp : 0 < L.length := List.length_pos_iff.2 hL
  have hp0 : ((L.length : Int) == 0) = false := by simp; omega
  have HM := Lib.hid (mod_place i hp)
  clear h
  go_enter Tryz.func36, Tryz.ntmps36
  go_wp2_with fail
  go_ret
  exact ⟨congrArg (fun x : Int => Ending.returned (.int .i64 x)) HM.out, rfl⟩

set_option maxRecDepth 100000 in
set_option maxHeartbeats 2000000 in

theorem qpeek_none {B b : Nat} {w0 w : World} {v : Value} {s t : Int} (h : QNetAt B w0 w b v [] s t) (i : Int) :
    Calls Tryz.prog 23 #[.pointer (some ⟨b, 0, none⟩), .int .i64 i] w fun en w' => ∃ u, en = .returned (.tuple #[u, .int .i64 10]) ∧ msgZero.At w' u ∧ Below w.heap.size w w' := by
  obtain ⟨zs, hzs⟩ : ∃ zs : List Value, zs = [.int .i64 0, .int .i64 0, .int .i64 0, .int .i64 0, .int .i64 0, .int .i64 0, .int .i64 0, .int .i64 0, .int .i64 0, .int .i64 0, .bool false, .int .i64 0, .int .i64 0, .int .i64 0, .int .i64 0, .int .i64 0, .int .i64 0, .int .i64 0, .int .i64 0, .int .i64 0, .string ⟨#[]⟩, .int .i64 0, .int .i64 0, .int .i64 0, .int .i64 0, .slice none 0 0, .slice none 0 0, .int .i64 0] := ⟨_, rfl⟩
  have hzl : zs.length = 28 := by rw [hzs]; rfl
  have hz1 : zs.toArray.all (·.oneCell') = true := by rw [hzs]; simp [Value.oneCell']
  go_enter Tryz.func23, Tryz.ntmps23
  go_upto_region 1 with (fail)
  have hD : BlkAt (w.alloc (.cells #[.int .i64 0, .int .i64 0, .int .i64 0, .int .i64 0, .int .i64 0, .int .i64 0, .int .i64 0, .int .i64 0, .int .i64 0, .int .i64 0, .bool false, .int .i64 0, .int .i64 0, .int .i64 0, .int .i64 0, .int .i64 0, .int .i64 0, .int .i64 0, .int .i64 0, .int .i64 0, .string ⟨#[]⟩, .int .i64 0, .int .i64 0, .int .i64 0, .int .i64 0, .slice none 0 0, .slice none 0 0, .int .i64 0] 40)) w.heap.size 40 [.int .i64 0, .int .i64 0, .int .i64 0, .int .i64 0, .int .i64 0, .int .i64 0, .int .i64 0, .int .i64 0, .int .i64 0, .int .i64 0, .bool false, .int .i64 0, .int .i64 0, .int .i64 0, .int .i64 0, .int .i64 0, .int .i64 0, .int .i64 0, .int .i64 0, .int .i64 0, .string ⟨#[]⟩, .int .i64 0, .int .i64 0, .int .i64 0, .int .i64 0, .slice none 0 0, .slice none 0 0, .int .i64 0] := BlkAt.new w 40 [.int .i64 0, .int .i64 0, .int .i64 0, .int .i64 0, .int .i64 0, .int .i64 0, .int .i64 0, .int .i64 0, .int .i64 0, .int .i64 0, .bool false, .int .i64 0, .int .i64 0, .int .i64 0, .int .i64 0, .int .i64 0, .int .i64 0, .int .i64 0, .int .i64 0, .int .i64 0, .string ⟨#[]⟩, .int .i64 0, .int .i64 0, .int .i64 0, .int .i64 0, .slice none 0 0, .slice none 0 0, .int .i64 0]
  have hb : Below w.heap.size w (w.alloc (.cells #[.int .i64 0, .int .i64 0, .int .i64 0, .int .i64 0, .int .i64 0, .int .i64 0, .int .i64 0, .int .i64 0, .int .i64 0, .int .i64 0, .bool false, .int .i64 0, .int .i64 0, .int .i64 0, .int .i64 0, .int .i64 0, .int .i64 0, .int .i64 0, .int .i64 0, .int .i64 0, .string ⟨#[]⟩, .int .i64 0, .int .i64 0, .int .i64 0, .int .i64 0, .slice none 0 0, .slice none 0 0, .int .i64 0] 40)) := (Below.refl w.heap.size w).alloc (Nat.le_refl _) _
  have hWs : w.heap.size + 1 ≤ (w.alloc (.cells #[.int .i64 0, .int .i64 0, .int .i64 0, .int .i64 0, .int .i64 0, .int .i64 0, .int .i64 0, .int .i64 0, .int .i64 0, .int .i64 0, .bool false, .int .i64 0, .int .i64 0, .int .i64 0, .int .i64 0, .int .i64 0, .int .i64 0, .int .i64 0, .int .i64 0, .int .i64 0, .string ⟨#[]⟩, .int .i64 0, .int .i64 0, .int .i64 0, .int .i64 0, .slice none 0 0, .slice none 0 0, .int .i64 0] 40)).heap.size := by simp
  change Code.wp _ _ _ _ (w.alloc (.cells #[.int .i64 0, .int .i64 0, .int .i64 0, .int .i64 0, .int .i64 0, .int .i64 0, .int .i64 0, .int .i64 0, .int .i64 0, .int .i64 0, .bool false, .int .i64 0, .int .i64 0, .int .i64 0, .int .i64 0, .int .i64 0, .int .i64 0, .int .i64 0, .int .i64 0, .int .i64 0, .string ⟨#[]⟩, .int .i64 0, .int .i64 0, .int .i64 0, .int .i64 0, .slice none 0 0, .slice none 0 0, .int .i64 0] 40))
  generalize w.alloc (.cells #[.int .i64 0, .int .i64 0, .int .i64 0, .int .i64 0, .int .i64 0, .int .i64 0, .int .i64 0, .int .i64 0, .int .i64 0, .int .i64 0, .bool false, .int .i64 0, .int .i64 0, .int .i64 0, .int .i64 0, .int .i64 0, .int .i64 0, .int .i64 0, .int .i64 0, .int .i64 0, .string ⟨#[]⟩, .int .i64 0, .int .i64 0, .int .i64 0, .int .i64 0, .slice none 0 0, .slice none 0 0, .int .i64 0] 40) = W at *
  obtain ⟨D, hDD⟩ : ∃ D, D = w.heap.size := ⟨_, rfl⟩
  have hDw : w.heap.size ≤ D := Nat.le_of_eq hDD.symm
  have hDw2 : D ≤ w.heap.size := Nat.le_of_eq hDD
  have hDs : D + 1 ≤ W.heap.size := by omega
  rw [← hzs] at hD
  rw [← hDD] at hD ⊢
  clear hDD hWs
  have hz : ∀ w, (zeroValue 40).run Tryz.prog w = .ok (.agg zs.toArray) w := fun w => by rw [hzs]; kernel_rfl
  have h := h.below hb
  go_wp2_with fail
  refine (qplace_none (by exact h) i).mono ?_
  rintro en w1 ⟨rfl, rfl⟩
  clear h hDs
  have HM2 := Lib.hid (hD.stored (vs := zs) rfl)
  have HT2 := Lib.hid (blk_there hD)
  have G := grown_setCells D zs 0 W
  have HB2 := Lib.hid (grown_below hb G hDw)
  have HLN := Lib.hid hzl
  have HZS := Lib.hid hzs
  clear hD hb G
  clear hzs
  go_wp2_with (refine wpList_store_mid rfl 40 (.tmp 4) (.tmp 12) rfl D 0 zs.toArray rfl rfl (by exact HT2.out) (by rw [List.size_toArray, hzl]; exact msg_info) hz1 ?_; rw [List.toList_toArray])
  exact bodyPost_ret (v := .tuple #[.agg zs.toArray, .int .i64 10]) (results_msg rfl rfl rfl HM2.out HLN.out) rfl ⟨_, rfl, ⟨.slice none 0 0, .slice none 0 0, by rw [HZS.out]; rfl, ChainAt.nil _, FiresAt.nil _⟩, HB2.out⟩
set_option maxRecDepth 100000 in
set_option maxHeartbeats 2000000 in

theorem qpeek_any {B b : Nat} {w0 w : World} {v : Value} {L : List MsgV} {s t : Int} (h : QNetAt B w0 w b v L s t) (hb0 : Below w0.heap.size w0 w) (hL : L ≠ []) (hl : L.length ≤ 1000000) {i : Int} (hi : W64 i) {M : MsgV} (hM : L[placeN i L.length]? = some M) :
    Calls Tryz.prog 23 #[.pointer (some ⟨b, 0, none⟩), .int .i64 i] w fun en w' => ∃ u, en = .returned (.tuple #[u, .int .i64 0]) ∧ M.At w' u ∧ Below w.heap.size w w' := by
  obtain ⟨A, cap, rfl⟩ := h.form
  have hlt : placeN i L.length < L.length := placeN_lt i (List.length_pos_iff.2 hL)
  obtain ⟨zs, hzs⟩ : ∃ zs : List Value, zs = [.int .i64 0, .int .i64 0, .int .i64 0, .int .i64 0, .int .i64 0, .int .i64 0, .int .i64 0, .int .i64 0, .int .i64 0, .int .i64 0, .bool false, .int .i64 0, .int .i64 0, .int .i64 0, .int .i64 0, .int .i64 0, .int .i64 0, .int .i64 0, .int .i64 0, .int .i64 0, .string ⟨#[]⟩, .int .i64 0, .int .i64 0, .int .i64 0, .int .i64 0, .slice none 0 0, .slice none 0 0, .int .i64 0] := ⟨_, rfl⟩
  have hzl : zs.length = 28 := by rw [hzs]; rfl
  have hz1 : zs.toArray.all (·.oneCell') = true := by rw [hzs]; simp [Value.oneCell']
  go_enter Tryz.func23, Tryz.ntmps23
  go_upto_region 1 with (fail)
  have hD : BlkAt (w.alloc (.cells #[.int .i64 0, .int .i64 0, .int .i64 0, .int .i64 0, .int .i64 0, .int .i64 0, .int .i64 0, .int .i64 0, .int .i64 0, .int .i64 0, .bool false, .int .i64 0, .int .i64 0, .int .i64 0, .int .i64 0, .int .i64 0, .int .i64 0, .int .i64 0, .int .i64 0, .int .i64 0, .string ⟨#[]⟩, .int .i64 0, .int .i64 0, .int .i64 0, .int .i64 0, .slice none 0 0, .slice none 0 0, .int .i64 0] 40)) w.heap.size 40 [.int .i64 0, .int .i64 0, .int .i64 0, .int .i64 0, .int .i64 0, .int .i64 0, .int .i64 0, .int .i64 0, .int .i64 0, .int .i64 0, .bool false, .int .i64 0, .int .i64 0, .int .i64 0, .int .i64 0, .int .i64 0, .int .i64 0, .int .i64 0, .int .i64 0, .int .i64 0, .string ⟨#[]⟩, .int .i64 0, .int .i64 0, .int .i64 0, .int .i64 0, .slice none 0 0, .slice none 0 0, .int .i64 0] := BlkAt.new w 40 [.int .i64 0, .int .i64 0, .int .i64 0, .int .i64 0, .int .i64 0, .int .i64 0, .int .i64 0, .int .i64 0, .int .i64 0, .int .i64 0, .bool false, .int .i64 0, .int .i64 0, .int .i64 0, .int .i64 0, .int .i64 0, .int .i64 0, .int .i64 0, .int .i64 0, .int .i64 0, .string ⟨#[]⟩, .int .i64 0, .int .i64 0, .int .i64 0, .int .i64 0, .slice none 0 0, .slice none 0 0, .int .i64 0]
  have hb : Below w.heap.size w (w.alloc (.cells #[.int .i64 0, .int .i64 0, .int .i64 0, .int .i64 0, .int .i64 0, .int .i64 0, .int .i64 0, .int .i64 0, .int .i64 0, .int .i64 0, .bool false, .int .i64 0, .int .i64 0, .int .i64 0, .int .i64 0, .int .i64 0, .int .i64 0, .int .i64 0, .int .i64 0, .int .i64 0, .string ⟨#[]⟩, .int .i64 0, .int .i64 0, .int .i64 0, .int .i64 0, .slice none 0 0, .slice none 0 0, .int .i64 0] 40)) := (Below.refl w.heap.size w).alloc (Nat.le_refl _) _
  have hWs : w.heap.size + 1 ≤ (w.alloc (.cells #[.int .i64 0, .int .i64 0, .int .i64 0, .int .i64 0, .int .i64 0, .int .i64 0, .int .i64 0, .int .i64 0, .int .i64 0, .int .i64 0, .bool false, .int .i64 0, .int .i64 0, .int .i64 0, .int .i64 0, .int .i64 0, .int .i64 0, .int .i64 0, .int .i64 0, .int .i64 0, .string ⟨#[]⟩, .int .i64 0, .int .i64 0, .int .i64 0, .int .i64 0, .slice none 0 0, .slice none 0 0, .int .i64 0] 40)).heap.size := by simp
  change Code.wp _ _ _ _ (w.alloc (.cells #[.int .i64 0, .int .i64 0, .int .i64 0, .int .i64 0, .int .i64 0, .int .i64 0, .int .i64 0, .int .i64 0, .int .i64 0, .int .i64 0, .bool false, .int .i64 0, .int .i64 0, .int .i64 0, .int .i64 0, .int .i64 0, .int .i64 0, .int .i64 0, .int .i64 0, .int .i64 0, .string ⟨#[]⟩, .int .i64 0, .int .i64 0, .int .i64 0, .int .i64 0, .slice none 0 0, .slice none 0 0, .int .i64 0] 40))
  generalize w.alloc (.cells #[.int .i64 0, .int .i64 0, .int .i64 0, .int .i64 0, .int .i64 0, .int .i64 0, .int .i64 0, .int .i64 0, .int .i64 0, .int .i64 0, .bool false, .int .i64 0, .int .i64 0, .int .i64 0, .int .i64 0, .int .i64 0, .int .i64 0, .int .i64 0, .int .i64 0, .int .i64 0, .string ⟨#[]⟩, .int .i64 0, .int .i64 0, .int .i64 0, .int .i64 0, .slice none 0 0, .slice none 0 0, .int .i64 0] 40) = W at *
  obtain ⟨D, hDD⟩ : ∃ D, D = w.heap.size := ⟨_, rfl⟩
  have hDw : w.heap.size ≤ D := Nat.le_of_eq hDD.symm
  have hDw2 : D ≤ w.heap.size := Nat.le_of_eq hDD
  have hDs : D + 1 ≤ W.heap.size := by omega
  rw [← hzs] at hD
  rw [← hDD] at hD ⊢
  clear hDD hWs
  have hz : ∀ w, (zeroValue 40).run Tryz.prog w = .ok (.agg zs.toArray) w := fun w => by rw [hzs]; kernel_rfl
  clear hz
  have h := h.below hb
  go_wp2_with fail
  refine (qplace_any (by exact h) hL hl hi).mono ?_
  rintro en w1 ⟨rfl, rfl⟩
  generalize placeN i L.length = k at *
  have hlt' : (k : Int) < (L.length : Int) := by omega
  have hneg : ¬ (k : Int) < 0 := by omega
  obtain ⟨g, cs, rfl, hC, hcell⟩ := h.2.2.at hM
  have c0 := h.cell0
  have hcl := hC.1
  have hcone := hC.2.1
  have hrg : W.rangeAt g (k * 28) cs := hcell
  have hl2 : cs.length = zs.length := by rw [hcl, hzl]
  have HM2 := Lib.hid (hD.stored (vs := cs) hl2)
  have HT2 := Lib.hid (blk_there2 hD hl2)
  have G := grown_setCells D cs 0 W
  have HB2 := Lib.hid (grown_below hb G hDw)
  have HA := Lib.hid (hC.2.2.below (Below.trans hb0 (HB2.out.mono hb0.size)))
  have HLN := Lib.hid hcl
  clear hD hb G hl2 h hC hcell
  go_wp2_with (first | (refine wpList_load_mid rfl 40 (.tmp 18) rfl g (k * 28) rfl cs _ hrg Tryz.underlying40 rfl (by rw [hcl]; exact msg_info) ?_; simp only [Act.put, List.setIfInBounds_toArray, List.set_cons_zero, List.set_cons_succ]) | (refine wpList_store_mid rfl 40 (.tmp 4) (.tmp 19) rfl D 0 cs.toArray rfl rfl (by exact HT2.out) (by rw [List.size_toArray, hcl]; exact msg_info) hcone ?_; rw [List.toList_toArray]))
  exact bodyPost_ret (v := .tuple #[.agg cs.toArray, .int .i64 0]) (results_msg rfl rfl rfl HM2.out HLN.out) rfl ⟨_, rfl, HA.out, HB2.out⟩
set_option maxRecDepth 100000 in
set_option maxHeartbeats 1000000 in
theorem qdouble_none {B b : Nat} {w0 w : World} {v : Value} {s t : Int} (h : QNetAt B w0 w b v [] s t) (i : Int) :
    Calls Tryz.prog 22 #[.pointer (some ⟨b, 0, none⟩), .int .i64 i] w fun e w' => e = .returned (.int .i64 10) ∧ w = w' := by
  go_enter Tryz.func22, Tryz.ntmps22
  go_wp2_with fail
  refine (qplace_none (by exact h) i).mono ?_
  rintro en w2 ⟨rfl, rfl⟩
  go_wp2_with fail
  go_ret
  exact ⟨rfl, rfl⟩
theorem QNetAt.put0 {B b : Nat} {w0 w : World} {u v' : Value} {L' : List MsgV} {s t : Int} (hB : B ≤ b) (hb : w.heap[b]? = some (.cells #[u, .int .i64 s, .int .i64 t] 59 (0, 0))) (hO : MsgsO B w0 w v' L') :
    QNetAt B w0 (w.setCell ⟨b, 0, none⟩ v') b v' L' s t := by
  obtain ⟨css, h1, h2, h3⟩ := hO
  refine ⟨hB, ?_, css, h1, h2.kept (grown_setCell w b 0 v') (.inr fun e => own_apartN hb h2 (by decide) e.symm), h3⟩
  simp [World.setCell, Array.getElem?_modify, hb]
set_option maxRecDepth 100000 in
set_option maxHeartbeats 4000000 in

theorem qdouble_any {B b : Nat} {w0 w : World} {v : Value} {L : List MsgV} {s t : Int} (h : QNetAt B w0 w b v L s t) (hL : L ≠ []) (hl : L.length ≤ 10000) {i : Int} (hi : W64 i) {L' : List MsgV} {x : Int} (hx : dblN L i = (L', x)) :
    Calls Tryz.prog 22 #[.pointer (some ⟨b, 0, none⟩), .int .i64 i] w fun e w' => e = .returned (.int .i64 x) ∧ ∃ v', QNetAt B w0 w' b v' L' s t ∧ NKept w w' b v.ownBlock ∧ RNew w v v' := by
  obtain ⟨i0, hi0, hz0, hz1, hz2⟩ := info_parts msg_full
  obtain ⟨M, hM⟩ := place_some hL i
  rw [dblN_some hM] at hx
  have HX := Lib.hid hx
  obtain ⟨A, cap, rfl⟩ := h.form
  have hlt : placeN i L.length < L.length := placeN_lt i (List.length_pos_iff.2 hL)
  have c0 := h.cell0
  clear hx
  go_enter Tryz.func22, Tryz.ntmps22
  go_wp2_with fail
  refine (qplace_any (by exact h) hL (by omega) hi).mono ?_
  rintro en w2 ⟨rfl, rfl⟩
  generalize placeN i L.length = k at *
  have hneg : ¬ (k : Int) < 0 := by omega
  by_cases hf : 2000 ≤ L.length
  · have hf' : (2000 : Int) ≤ (L.length : Int) := by omega
    have HE : Hid (L' = L ∧ x = 5) := Lib.hid (by
      have := HX.out
      rw [if_pos hf] at this
      obtain ⟨h1, h2⟩ := Prod.mk.inj this
      exact ⟨h1.symm, h2.symm⟩)
    have HN := Lib.hid h
    clear h
    go_wp2_with fail
    go_ret
    exact ⟨by (rw [HE.out.2]; try rfl), _, by rw [HE.out.1]; exact HN.out, NKept.refl _ _ _, RNew.refl _ _⟩
  · have hf' : ¬ (2000 : Int) ≤ (L.length : Int) := by omega
    have HE : Hid (L' = L ++ [M] ∧ x = 0) := Lib.hid (by
      have := HX.out
      rw [if_neg hf] at this
      obtain ⟨h1, h2⟩ := Prod.mk.inj this
      exact ⟨h1.symm, h2.symm⟩)
    have hlt' : (k : Int) < (L.length : Int) := by omega
    obtain ⟨g, cs, rfl, hC, hcell⟩ := h.2.2.at hM
    obtain ⟨hBb, hbk, css, hS1, hS2, hS3⟩ := h
    have hcl := hC.1
    have hbl : b < w.heap.size := (Array.getElem?_eq_some_iff.1 hbk).1
    have hgl : g < w.heap.size := (hS2.lt g rfl).2
    have hBw : B ≤ w.heap.size := by omega
    have hap : some b ≠ (Value.slice (some ⟨g, 0, none⟩) L.length cap).ownBlock := own_apartN hbk hS2 (by decide)
    have hone : ∀ u ∈ cs, u.oneCell' = true := by
      have h1 := hC.2.1
      rw [Array.all_eq_true_iff_forall_mem] at h1
      exact fun u hu => h1 u (by simpa using hu)
    have hrg : w.drew.rangeAt g (k * 28) cs := hcell
    go_upto_region 6 with (fail)
    have c0d : w.drew.cell? ⟨b, 0, none⟩ = some (.slice (some ⟨g, 0, none⟩) L.length cap) := c0
    have c0a : ∀ o, (w.drew.alloc o).cell? ⟨b, 0, none⟩ = some (.slice (some ⟨g, 0, none⟩) L.length cap) := fun o => cell_alloc_old (w := w.drew) c0 _
    refine wp_region_noPanic ?_
    refine wp_region_held_drew (S := fun _ => True) (by kernel_rfl) trivial (fun hHeld => ?_)
    refine wpAnyH_take (i := 0) (oi := ?oq_1_1_0) (v := ?va_1_1_0) ?op_1_1_0 (by kernel_rfl) (by kernel_rfl) (by kernel_rfl) (fun _ _ _ h => h) ?yi_1_1_0 trivial ?re_1_1_0
    case op_1_1_0 => (simp only [List.getElem?_toArray, List.getElem?_cons_zero]; rfl)
    case yi_1_1_0 =>
      refine Or.inl ⟨by rfl, ?_⟩
      intro w hSw
      go_simp
      all_goals with_reducible rfl
    try simp only [Act.put, List.setIfInBounds_toArray, List.set_cons_zero, List.set_cons_succ]
    refine wpAnyH_take (i := 1) (oi := ?oq_1_2_1) (v := ?va_1_2_1) ?op_1_2_1 (by kernel_rfl) (by kernel_rfl) (by kernel_rfl) (fun _ _ _ h => h) ?yi_1_2_1 trivial ?re_1_2_1
    case op_1_2_1 => (simp only [List.getElem?_toArray, List.getElem?_cons_succ, List.getElem?_cons_zero]; rfl)
    case yi_1_2_1 =>
      refine Or.inl ⟨by rfl, ?_⟩
      intro w hSw
      go_simp
      all_goals with_reducible rfl
    try simp only [Act.put, List.setIfInBounds_toArray, List.set_cons_zero, List.set_cons_succ]
    refine wpAnyH_take (i := 2) (oi := ?oq_1_3_2) (v := ?va_1_3_2) ?op_1_3_2 (by kernel_rfl) (by kernel_rfl) (by kernel_rfl) (fun _ _ _ h => h) ?yi_1_3_2 trivial ?re_1_3_2
    case op_1_3_2 => (simp only [List.getElem?_toArray, List.getElem?_cons_succ, List.getElem?_cons_zero]; rfl)
    case yi_1_3_2 =>
      refine Or.inl ⟨by rfl, ?_⟩
      intro w hSw
      go_simp
      all_goals with_reducible rfl
    try simp only [Act.put, List.setIfInBounds_toArray, List.set_cons_zero, List.set_cons_succ]
    refine wpAnyH_take (i := 3) (oi := ?oq_1_4_3) (v := ?va_1_4_3) ?op_1_4_3 (by kernel_rfl) (by kernel_rfl) (by kernel_rfl) (fun _ _ _ h => h) ?yi_1_4_3 trivial ?re_1_4_3
    case op_1_4_3 => (simp only [List.getElem?_toArray, List.getElem?_cons_succ, List.getElem?_cons_zero]; rfl)
    case yi_1_4_3 =>
      refine Or.inl ⟨by rfl, ?_⟩
      intro w hSw
      go_simp
      all_goals with_reducible rfl
    try simp only [Act.put, List.setIfInBounds_toArray, List.set_cons_zero, List.set_cons_succ]
    refine wpAnyH_take (i := 5) (oi := ?oq_1_5_5) (v := ?va_1_5_5) ?op_1_5_5 (by kernel_rfl) (by kernel_rfl) (by kernel_rfl) (fun _ _ _ h => h) ?yi_1_5_5 trivial ?re_1_5_5
    case op_1_5_5 => (simp only [List.getElem?_toArray, List.getElem?_cons_succ, List.getElem?_cons_zero]; rfl)
    case yi_1_5_5 =>
      refine Or.inl ⟨by rfl, ?_⟩
      intro w hSw
      go_simp
      all_goals with_reducible rfl
    try simp only [Act.put, List.setIfInBounds_toArray, List.set_cons_zero, List.set_cons_succ]
    refine wpAnyH_take (i := 6) (oi := ?oq_1_6_6) (v := ?va_1_6_6) ?op_1_6_6 (by kernel_rfl) (by kernel_rfl) (by kernel_rfl) (fun _ _ _ h => h) ?yi_1_6_6 trivial ?re_1_6_6
    case op_1_6_6 => (simp only [List.getElem?_toArray, List.getElem?_cons_succ, List.getElem?_cons_zero]; rfl)
    case yi_1_6_6 =>
      refine Or.inl ⟨by rfl, ?_⟩
      intro w hSw
      go_simp
      all_goals with_reducible rfl
    try simp only [Act.put, List.setIfInBounds_toArray, List.set_cons_zero, List.set_cons_succ]
    refine wpAnyH_take (i := 7) (oi := ?oq_1_7_7) (v := ?va_1_7_7) ?op_1_7_7 (by kernel_rfl) (by kernel_rfl) (by kernel_rfl) (fun _ _ _ h => h) ?yi_1_7_7 trivial ?re_1_7_7
    case op_1_7_7 => (simp only [List.getElem?_toArray, List.getElem?_cons_succ, List.getElem?_cons_zero]; rfl)
    case yi_1_7_7 =>
      refine Or.inl ⟨by rfl, ?_⟩
      intro w hSw
      go_simp
      all_goals with_reducible rfl
    try simp only [Act.put, List.setIfInBounds_toArray, List.set_cons_zero, List.set_cons_succ]
    refine wpAnyH_take (i := 9) (oi := ?oq_1_8_9) (v := ?va_1_8_9) ?op_1_8_9 (by kernel_rfl) (by kernel_rfl) (by kernel_rfl) (fun _ _ _ h => h) ?yi_1_8_9 trivial ?re_1_8_9
    case op_1_8_9 => (simp only [List.getElem?_toArray, List.getElem?_cons_succ, List.getElem?_cons_zero]; rfl)
    case yi_1_8_9 =>
      refine Or.inl ⟨by rfl, ?_⟩
      intro w hSw
      go_simp
      all_goals with_reducible rfl
    try simp only [Act.put, List.setIfInBounds_toArray, List.set_cons_zero, List.set_cons_succ]
    refine wpAnyH_ready (rs := [4, 8]) (by kernel_rfl) (by simp) (AllReadyH.cons (o := ?oq_1_9_4) ?op_1_9_4 (fun K hK => ?re_1_9_4) (AllReadyH.cons (o := ?oq_1_9_8) ?op_1_9_8 (fun K hK => ?re_1_9_8) AllReadyH.nil))
    case op_1_9_4 => (simp only [List.getElem?_toArray, List.getElem?_cons_succ, List.getElem?_cons_zero]; rfl)
    case op_1_9_8 => (simp only [List.getElem?_toArray, List.getElem?_cons_succ, List.getElem?_cons_zero]; rfl)
    case re_1_9_4 =>
      go_simp
      refine hK.out _ _ trivial (fun hHeld => ?_)
      clear hK K
      try simp only [Act.put, List.setIfInBounds_toArray, List.set_cons_zero, List.set_cons_succ]
      refine wpAnyH_ready (rs := [8]) (by kernel_rfl) (by simp) (AllReadyH.cons (o := ?oq_1_10_8) ?op_1_10_8 (fun K hK => ?re_1_10_8) AllReadyH.nil)
      case op_1_10_8 => (simp only [List.getElem?_toArray, List.getElem?_cons_succ, List.getElem?_cons_zero]; rfl)
      case re_1_10_8 =>
        go_simp
        refine hK.out _ _ trivial (fun hHeld => ?_)
        clear hK K
        try simp only [Act.put, List.setIfInBounds_toArray, List.set_cons_zero, List.set_cons_succ]
        refine wpAnyH_take (i := 10) (oi := ?oq_1_11_10) (v := ?va_1_11_10) ?op_1_11_10 (by kernel_rfl) (by kernel_rfl) (by kernel_rfl) (fun _ _ _ h => h) ?yi_1_11_10 trivial ?re_1_11_10
        case op_1_11_10 => (simp only [List.getElem?_toArray, List.getElem?_cons_succ, List.getElem?_cons_zero]; rfl)
        case yi_1_11_10 =>
          refine Or.inl ⟨by rfl, ?_⟩
          intro w hSw
          go_simp
          all_goals with_reducible rfl
        try simp only [Act.put, List.setIfInBounds_toArray, List.set_cons_zero, List.set_cons_succ]
        refine wpAnyH_ready (rs := [11]) (by kernel_rfl) (by simp) (AllReadyH.cons (o := ?oq_1_12_11) ?op_1_12_11 (fun K hK => ?re_1_12_11) AllReadyH.nil)
        case op_1_12_11 => (simp only [List.getElem?_toArray, List.getElem?_cons_succ, List.getElem?_cons_zero]; rfl)
        case re_1_12_11 =>
          rw [if_pos (by rfl)]
          refine wp_load_mid 40 (.tmp 27) (by rfl) g (k * 28) (by rfl) cs _ (by exact hrg) Tryz.underlying40 (by rfl) (by rw [hcl]; exact msg_info) ?_
          refine hK.out _ _ trivial (fun hHeld => ?_)
          clear hK K
          try simp only [Act.put, List.setIfInBounds_toArray, List.set_cons_zero, List.set_cons_succ]
          refine wpAnyH_ready (rs := [12]) (by kernel_rfl) (by simp) (AllReadyH.cons (o := ?oq_1_13_12) ?op_1_13_12 (fun K hK => ?re_1_13_12) AllReadyH.nil)
          case op_1_13_12 => (simp only [List.getElem?_toArray, List.getElem?_cons_succ, List.getElem?_cons_zero]; rfl)
          case re_1_13_12 =>
            go_simp
            refine hK.out _ _ trivial (fun hHeld => ?_)
            clear hK K
            try simp only [Act.put, List.setIfInBounds_toArray, List.set_cons_zero, List.set_cons_succ]
            refine wpAnyH_ready (rs := [13]) (by kernel_rfl) (by simp) (AllReadyH.cons (o := ?oq_1_14_13) ?op_1_14_13 (fun K hK => ?re_1_14_13) AllReadyH.nil)
            case op_1_14_13 => (simp only [List.getElem?_toArray, List.getElem?_cons_succ, List.getElem?_cons_zero]; rfl)
            case re_1_14_13 =>
              refine step_append_lies _ (by rfl) _ _ _ (by rfl) B 40 i0 _ 28 264 Tryz.underlying27 hi0 hz0 hz1 hz2 rfl (by omega) _ _ _ (by rfl) (hS2.drew.alloc _) ⟨w.heap.size, 0, none⟩ 1 1 cs (by rfl) (by rw [hcl]) (fun j u hj => World.news_of_block (heap_alloc_new _ _) j u (by rw [fold_cells (by rw [hcl]; rfl)]; simpa using hj)) hone (by omega) (by unfold maxLen; omega) (by omega) (by simp; omega) (w.heap.size + 1) (by simp) ?_
              intro g2 cap2 w7 hown7 hg7 hat7 hlt7
              rw [fold_cells (by rw [hcl]; rfl)] at hg7
              have hal := (Below.refl w.drew.heap.size w.drew).alloc (Nat.le_refl _) (.cells cs.toArray 40)
              have hbk7 := (hg7.block b (by simp; omega) hap).trans ((heap_alloc_old w.drew _ hbl).trans hbk)
              have c7 := cell_of_row _ _ 0 _ _ _ hbk7
              have hf7 : w7.frozen? ⟨b, 0, none⟩ = false := by simp [World.frozen?, hbk7]
              refine hK.out _ _ trivial (fun hHeld => ?_)
              clear hK K
              try simp only [Act.put, List.setIfInBounds_toArray, List.set_cons_zero, List.set_cons_succ]
              refine wpAnyH_take (i := 14) (oi := ?oq_1_15_14) (v := ?va_1_15_14) ?op_1_15_14 (by kernel_rfl) (by kernel_rfl) (by kernel_rfl) (fun _ _ _ h => h) ?yi_1_15_14 trivial ?re_1_15_14
              case op_1_15_14 => (simp only [List.getElem?_toArray, List.getElem?_cons_succ, List.getElem?_cons_zero]; rfl)
              case yi_1_15_14 =>
                refine Or.inl ⟨by rfl, ?_⟩
                intro w hSw
                go_simp
                all_goals with_reducible rfl
              try simp only [Act.put, List.setIfInBounds_toArray, List.set_cons_zero, List.set_cons_succ]
              refine wpAnyH_take (i := 15) (oi := ?oq_1_16_15) (v := ?va_1_16_15) ?op_1_16_15 (by kernel_rfl) (by kernel_rfl) (by kernel_rfl) (fun _ _ _ h => h) ?yi_1_16_15 trivial ?re_1_16_15
              case op_1_16_15 => (simp only [List.getElem?_toArray, List.getElem?_cons_succ, List.getElem?_cons_zero]; rfl)
              case yi_1_16_15 =>
                refine Or.inl ⟨by rfl, ?_⟩
                intro w hSw
                go_simp
                all_goals with_reducible rfl
              try simp only [Act.put, List.setIfInBounds_toArray, List.set_cons_zero, List.set_cons_succ]
              refine wpAnyH_ready (rs := [16]) (by kernel_rfl) (by simp) (AllReadyH.cons (o := ?oq_1_17_16) ?op_1_17_16 (fun K hK => ?re_1_17_16) AllReadyH.nil)
              case op_1_17_16 => (simp only [List.getElem?_toArray, List.getElem?_cons_succ, List.getElem?_cons_zero]; rfl)
              case re_1_17_16 =>
                go_simp
                refine hK.out _ _ trivial (fun hHeld => ?_)
                clear hK K
                try simp only [Act.put, List.setIfInBounds_toArray, List.set_cons_zero, List.set_cons_succ]
                refine wpAnyH_done (by kernel_rfl) ?_ _
                refine NoPanic.normal ?_
                have HQ := Lib.hid (QNetAt.put0 (L' := L ++ [M]) hBb hbk7 (MsgsO.snoc hS1 hS3 hown7 hC))
                have hal' : Below w.heap.size w (w.drew.alloc (.cells cs.toArray 40)) := ⟨hal.os, hal.tape, hal.output, hal.size, hal.block⟩
                have HK := Lib.hid (((NKept.of_below (b := b) (r := (Value.slice (some ⟨g, 0, none⟩) L.length cap).ownBlock) hal').trans (NKept.of_grown hg7)).trans (NKept.of_grownB (grown_setCell w7 b 0 (.slice (some ⟨g2, 0, none⟩) (L.length + 1) cap2))))
                have HR : Hid (RNew w (.slice (some ⟨g, 0, none⟩) L.length cap) (.slice (some ⟨g2, 0, none⟩) (L.length + 1) cap2)) := Lib.hid (by
                  intro j hj
                  simp only [Value.ownBlock, Option.some.injEq] at hj
                  subst hj
                  rcases hat7 with h1 | h1
                  · exact .inl h1
                  · exact .inr (by omega))
                clear hg7 hown7 hbk7 c7 hf7 hal hal' hat7
                go_wp2_with fail
                go_ret
                exact ⟨by (rw [HE.out.2]; try rfl), _, by rw [HE.out.1]; exact HQ.out, HK.out, HR.out⟩
    case re_1_9_8 =>
      go_simp
      refine hK.out _ _ trivial (fun hHeld => ?_)
      clear hK K
      try simp only [Act.put, List.setIfInBounds_toArray, List.set_cons_zero, List.set_cons_succ]
      refine wpAnyH_take (i := 10) (oi := ?oq_1_18_10) (v := ?va_1_18_10) ?op_1_18_10 (by kernel_rfl) (by kernel_rfl) (by kernel_rfl) (fun _ _ _ h => h) ?yi_1_18_10 trivial ?re_1_18_10
      case op_1_18_10 => (simp only [List.getElem?_toArray, List.getElem?_cons_succ, List.getElem?_cons_zero]; rfl)
      case yi_1_18_10 =>
        refine Or.inl ⟨by rfl, ?_⟩
        intro w hSw
        go_simp
        all_goals with_reducible rfl
      try simp only [Act.put, List.setIfInBounds_toArray, List.set_cons_zero, List.set_cons_succ]
      refine wpAnyH_ready (rs := [4, 11]) (by kernel_rfl) (by simp) (AllReadyH.cons (o := ?oq_1_19_4) ?op_1_19_4 (fun K hK => ?re_1_19_4) (AllReadyH.cons (o := ?oq_1_19_11) ?op_1_19_11 (fun K hK => ?re_1_19_11) AllReadyH.nil))
      case op_1_19_4 => (simp only [List.getElem?_toArray, List.getElem?_cons_succ, List.getElem?_cons_zero]; rfl)
      case op_1_19_11 => (simp only [List.getElem?_toArray, List.getElem?_cons_succ, List.getElem?_cons_zero]; rfl)
      case re_1_19_4 =>
        go_simp
        refine hK.out _ _ trivial (fun hHeld => ?_)
        clear hK K
        try simp only [Act.put, List.setIfInBounds_toArray, List.set_cons_zero, List.set_cons_succ]
        refine wpAnyH_ready (rs := [11]) (by kernel_rfl) (by simp) (AllReadyH.cons (o := ?oq_1_20_11) ?op_1_20_11 (fun K hK => ?re_1_20_11) AllReadyH.nil)
        case op_1_20_11 => (simp only [List.getElem?_toArray, List.getElem?_cons_succ, List.getElem?_cons_zero]; rfl)
        case re_1_20_11 =>
          rw [if_pos (by rfl)]
          refine wp_load_mid 40 (.tmp 27) (by rfl) g (k * 28) (by rfl) cs _ (by exact hrg) Tryz.underlying40 (by rfl) (by rw [hcl]; exact msg_info) ?_
          refine hK.out _ _ trivial (fun hHeld => ?_)
          clear hK K
          try simp only [Act.put, List.setIfInBounds_toArray, List.set_cons_zero, List.set_cons_succ]
          refine wpAnyH_ready (rs := [12]) (by kernel_rfl) (by simp) (AllReadyH.cons (o := ?oq_1_21_12) ?op_1_21_12 (fun K hK => ?re_1_21_12) AllReadyH.nil)
          case op_1_21_12 => (simp only [List.getElem?_toArray, List.getElem?_cons_succ, List.getElem?_cons_zero]; rfl)
          case re_1_21_12 =>
            go_simp
            refine hK.out _ _ trivial (fun hHeld => ?_)
            clear hK K
            try simp only [Act.put, List.setIfInBounds_toArray, List.set_cons_zero, List.set_cons_succ]
            refine wpAnyH_ready (rs := [13]) (by kernel_rfl) (by simp) (AllReadyH.cons (o := ?oq_1_22_13) ?op_1_22_13 (fun K hK => ?re_1_22_13) AllReadyH.nil)
            case op_1_22_13 => (simp only [List.getElem?_toArray, List.getElem?_cons_succ, List.getElem?_cons_zero]; rfl)
            case re_1_22_13 =>
              refine step_append_lies _ (by rfl) _ _ _ (by rfl) B 40 i0 _ 28 264 Tryz.underlying27 hi0 hz0 hz1 hz2 rfl (by omega) _ _ _ (by rfl) (hS2.drew.alloc _) ⟨w.heap.size, 0, none⟩ 1 1 cs (by rfl) (by rw [hcl]) (fun j u hj => World.news_of_block (heap_alloc_new _ _) j u (by rw [fold_cells (by rw [hcl]; rfl)]; simpa using hj)) hone (by omega) (by unfold maxLen; omega) (by omega) (by simp; omega) (w.heap.size + 1) (by simp) ?_
              intro g2 cap2 w7 hown7 hg7 hat7 hlt7
              rw [fold_cells (by rw [hcl]; rfl)] at hg7
              have hal := (Below.refl w.drew.heap.size w.drew).alloc (Nat.le_refl _) (.cells cs.toArray 40)
              have hbk7 := (hg7.block b (by simp; omega) hap).trans ((heap_alloc_old w.drew _ hbl).trans hbk)
              have c7 := cell_of_row _ _ 0 _ _ _ hbk7
              have hf7 : w7.frozen? ⟨b, 0, none⟩ = false := by simp [World.frozen?, hbk7]
              refine hK.out _ _ trivial (fun hHeld => ?_)
              clear hK K
              try simp only [Act.put, List.setIfInBounds_toArray, List.set_cons_zero, List.set_cons_succ]
              refine wpAnyH_take (i := 14) (oi := ?oq_1_23_14) (v := ?va_1_23_14) ?op_1_23_14 (by kernel_rfl) (by kernel_rfl) (by kernel_rfl) (fun _ _ _ h => h) ?yi_1_23_14 trivial ?re_1_23_14
              case op_1_23_14 => (simp only [List.getElem?_toArray, List.getElem?_cons_succ, List.getElem?_cons_zero]; rfl)
              case yi_1_23_14 =>
                refine Or.inl ⟨by rfl, ?_⟩
                intro w hSw
                go_simp
                all_goals with_reducible rfl
              try simp only [Act.put, List.setIfInBounds_toArray, List.set_cons_zero, List.set_cons_succ]
              refine wpAnyH_take (i := 15) (oi := ?oq_1_24_15) (v := ?va_1_24_15) ?op_1_24_15 (by kernel_rfl) (by kernel_rfl) (by kernel_rfl) (fun _ _ _ h => h) ?yi_1_24_15 trivial ?re_1_24_15
              case op_1_24_15 => (simp only [List.getElem?_toArray, List.getElem?_cons_succ, List.getElem?_cons_zero]; rfl)
              case yi_1_24_15 =>
                refine Or.inl ⟨by rfl, ?_⟩
                intro w hSw
                go_simp
                all_goals with_reducible rfl
              try simp only [Act.put, List.setIfInBounds_toArray, List.set_cons_zero, List.set_cons_succ]
              refine wpAnyH_ready (rs := [16]) (by kernel_rfl) (by simp) (AllReadyH.cons (o := ?oq_1_25_16) ?op_1_25_16 (fun K hK => ?re_1_25_16) AllReadyH.nil)
              case op_1_25_16 => (simp only [List.getElem?_toArray, List.getElem?_cons_succ, List.getElem?_cons_zero]; rfl)
              case re_1_25_16 =>
                go_simp
                refine hK.out _ _ trivial (fun hHeld => ?_)
                clear hK K
                try simp only [Act.put, List.setIfInBounds_toArray, List.set_cons_zero, List.set_cons_succ]
                refine wpAnyH_done (by kernel_rfl) ?_ _
                refine NoPanic.normal ?_
                have HQ := Lib.hid (QNetAt.put0 (L' := L ++ [M]) hBb hbk7 (MsgsO.snoc hS1 hS3 hown7 hC))
                have hal' : Below w.heap.size w (w.drew.alloc (.cells cs.toArray 40)) := ⟨hal.os, hal.tape, hal.output, hal.size, hal.block⟩
                have HK := Lib.hid (((NKept.of_below (b := b) (r := (Value.slice (some ⟨g, 0, none⟩) L.length cap).ownBlock) hal').trans (NKept.of_grown hg7)).trans (NKept.of_grownB (grown_setCell w7 b 0 (.slice (some ⟨g2, 0, none⟩) (L.length + 1) cap2))))
                have HR : Hid (RNew w (.slice (some ⟨g, 0, none⟩) L.length cap) (.slice (some ⟨g2, 0, none⟩) (L.length + 1) cap2)) := Lib.hid (by
                  intro j hj
                  simp only [Value.ownBlock, Option.some.injEq] at hj
                  subst hj
                  rcases hat7 with h1 | h1
                  · exact .inl h1
                  · exact .inr (by omega))
                clear hg7 hown7 hbk7 c7 hf7 hal hal' hat7
                go_wp2_with fail
                go_ret
                exact ⟨by (rw [HE.out.2]; try rfl), _, by rw [HE.out.1]; exact HQ.out, HK.out, HR.out⟩
      case re_1_19_11 =>
        rw [if_pos (by rfl)]
        refine wp_load_mid 40 (.tmp 27) (by rfl) g (k * 28) (by rfl) cs _ (by exact hrg) Tryz.underlying40 (by rfl) (by rw [hcl]; exact msg_info) ?_
        refine hK.out _ _ trivial (fun hHeld => ?_)
        clear hK K
        try simp only [Act.put, List.setIfInBounds_toArray, List.set_cons_zero, List.set_cons_succ]
        refine wpAnyH_ready (rs := [4, 12]) (by kernel_rfl) (by simp) (AllReadyH.cons (o := ?oq_1_26_4) ?op_1_26_4 (fun K hK => ?re_1_26_4) (AllReadyH.cons (o := ?oq_1_26_12) ?op_1_26_12 (fun K hK => ?re_1_26_12) AllReadyH.nil))
        case op_1_26_4 => (simp only [List.getElem?_toArray, List.getElem?_cons_succ, List.getElem?_cons_zero]; rfl)
        case op_1_26_12 => (simp only [List.getElem?_toArray, List.getElem?_cons_succ, List.getElem?_cons_zero]; rfl)
        case re_1_26_4 =>
          go_simp
          refine hK.out _ _ trivial (fun hHeld => ?_)
          clear hK K
          try simp only [Act.put, List.setIfInBounds_toArray, List.set_cons_zero, List.set_cons_succ]
          refine wpAnyH_ready (rs := [12]) (by kernel_rfl) (by simp) (AllReadyH.cons (o := ?oq_1_27_12) ?op_1_27_12 (fun K hK => ?re_1_27_12) AllReadyH.nil)
          case op_1_27_12 => (simp only [List.getElem?_toArray, List.getElem?_cons_succ, List.getElem?_cons_zero]; rfl)
          case re_1_27_12 =>
            go_simp
            refine hK.out _ _ trivial (fun hHeld => ?_)
            clear hK K
            try simp only [Act.put, List.setIfInBounds_toArray, List.set_cons_zero, List.set_cons_succ]
            refine wpAnyH_ready (rs := [13]) (by kernel_rfl) (by simp) (AllReadyH.cons (o := ?oq_1_28_13) ?op_1_28_13 (fun K hK => ?re_1_28_13) AllReadyH.nil)
            case op_1_28_13 => (simp only [List.getElem?_toArray, List.getElem?_cons_succ, List.getElem?_cons_zero]; rfl)
            case re_1_28_13 =>
              refine step_append_lies _ (by rfl) _ _ _ (by rfl) B 40 i0 _ 28 264 Tryz.underlying27 hi0 hz0 hz1 hz2 rfl (by omega) _ _ _ (by rfl) (hS2.drew.alloc _) ⟨w.heap.size, 0, none⟩ 1 1 cs (by rfl) (by rw [hcl]) (fun j u hj => World.news_of_block (heap_alloc_new _ _) j u (by rw [fold_cells (by rw [hcl]; rfl)]; simpa using hj)) hone (by omega) (by unfold maxLen; omega) (by omega) (by simp; omega) (w.heap.size + 1) (by simp) ?_
              intro g2 cap2 w7 hown7 hg7 hat7 hlt7
              rw [fold_cells (by rw [hcl]; rfl)] at hg7
              have hal := (Below.refl w.drew.heap.size w.drew).alloc (Nat.le_refl _) (.cells cs.toArray 40)
              have hbk7 := (hg7.block b (by simp; omega) hap).trans ((heap_alloc_old w.drew _ hbl).trans hbk)
              have c7 := cell_of_row _ _ 0 _ _ _ hbk7
              have hf7 : w7.frozen? ⟨b, 0, none⟩ = false := by simp [World.frozen?, hbk7]
              refine hK.out _ _ trivial (fun hHeld => ?_)
              clear hK K
              try simp only [Act.put, List.setIfInBounds_toArray, List.set_cons_zero, List.set_cons_succ]
              refine wpAnyH_take (i := 14) (oi := ?oq_1_29_14) (v := ?va_1_29_14) ?op_1_29_14 (by kernel_rfl) (by kernel_rfl) (by kernel_rfl) (fun _ _ _ h => h) ?yi_1_29_14 trivial ?re_1_29_14
              case op_1_29_14 => (simp only [List.getElem?_toArray, List.getElem?_cons_succ, List.getElem?_cons_zero]; rfl)
              case yi_1_29_14 =>
                refine Or.inl ⟨by rfl, ?_⟩
                intro w hSw
                go_simp
                all_goals with_reducible rfl
              try simp only [Act.put, List.setIfInBounds_toArray, List.set_cons_zero, List.set_cons_succ]
              refine wpAnyH_take (i := 15) (oi := ?oq_1_30_15) (v := ?va_1_30_15) ?op_1_30_15 (by kernel_rfl) (by kernel_rfl) (by kernel_rfl) (fun _ _ _ h => h) ?yi_1_30_15 trivial ?re_1_30_15
              case op_1_30_15 => (simp only [List.getElem?_toArray, List.getElem?_cons_succ, List.getElem?_cons_zero]; rfl)
              case yi_1_30_15 =>
                refine Or.inl ⟨by rfl, ?_⟩
                intro w hSw
                go_simp
                all_goals with_reducible rfl
              try simp only [Act.put, List.setIfInBounds_toArray, List.set_cons_zero, List.set_cons_succ]
              refine wpAnyH_ready (rs := [16]) (by kernel_rfl) (by simp) (AllReadyH.cons (o := ?oq_1_31_16) ?op_1_31_16 (fun K hK => ?re_1_31_16) AllReadyH.nil)
              case op_1_31_16 => (simp only [List.getElem?_toArray, List.getElem?_cons_succ, List.getElem?_cons_zero]; rfl)
              case re_1_31_16 =>
                go_simp
                refine hK.out _ _ trivial (fun hHeld => ?_)
                clear hK K
                try simp only [Act.put, List.setIfInBounds_toArray, List.set_cons_zero, List.set_cons_succ]
                refine wpAnyH_done (by kernel_rfl) ?_ _
                refine NoPanic.normal ?_
                have HQ := Lib.hid (QNetAt.put0 (L' := L ++ [M]) hBb hbk7 (MsgsO.snoc hS1 hS3 hown7 hC))
                have hal' : Below w.heap.size w (w.drew.alloc (.cells cs.toArray 40)) := ⟨hal.os, hal.tape, hal.output, hal.size, hal.block⟩
                have HK := Lib.hid (((NKept.of_below (b := b) (r := (Value.slice (some ⟨g, 0, none⟩) L.length cap).ownBlock) hal').trans (NKept.of_grown hg7)).trans (NKept.of_grownB (grown_setCell w7 b 0 (.slice (some ⟨g2, 0, none⟩) (L.length + 1) cap2))))
                have HR : Hid (RNew w (.slice (some ⟨g, 0, none⟩) L.length cap) (.slice (some ⟨g2, 0, none⟩) (L.length + 1) cap2)) := Lib.hid (by
                  intro j hj
                  simp only [Value.ownBlock, Option.some.injEq] at hj
                  subst hj
                  rcases hat7 with h1 | h1
                  · exact .inl h1
                  · exact .inr (by omega))
                clear hg7 hown7 hbk7 c7 hf7 hal hal' hat7
                go_wp2_with fail
                go_ret
                exact ⟨by (rw [HE.out.2]; try rfl), _, by rw [HE.out.1]; exact HQ.out, HK.out, HR.out⟩
        case re_1_26_12 =>
          go_simp
          refine hK.out _ _ trivial (fun hHeld => ?_)
          clear hK K
          try simp only [Act.put, List.setIfInBounds_toArray, List.set_cons_zero, List.set_cons_succ]
          refine wpAnyH_ready (rs := [4]) (by kernel_rfl) (by simp) (AllReadyH.cons (o := ?oq_1_32_4) ?op_1_32_4 (fun K hK => ?re_1_32_4) AllReadyH.nil)
          case op_1_32_4 => (simp only [List.getElem?_toArray, List.getElem?_cons_succ, List.getElem?_cons_zero]; rfl)
          case re_1_32_4 =>
            go_simp
            refine hK.out _ _ trivial (fun hHeld => ?_)
            clear hK K
            try simp only [Act.put, List.setIfInBounds_toArray, List.set_cons_zero, List.set_cons_succ]
            refine wpAnyH_ready (rs := [13]) (by kernel_rfl) (by simp) (AllReadyH.cons (o := ?oq_1_33_13) ?op_1_33_13 (fun K hK => ?re_1_33_13) AllReadyH.nil)
            case op_1_33_13 => (simp only [List.getElem?_toArray, List.getElem?_cons_succ, List.getElem?_cons_zero]; rfl)
            case re_1_33_13 =>
              refine step_append_lies _ (by rfl) _ _ _ (by rfl) B 40 i0 _ 28 264 Tryz.underlying27 hi0 hz0 hz1 hz2 rfl (by omega) _ _ _ (by rfl) (hS2.drew.alloc _) ⟨w.heap.size, 0, none⟩ 1 1 cs (by rfl) (by rw [hcl]) (fun j u hj => World.news_of_block (heap_alloc_new _ _) j u (by rw [fold_cells (by rw [hcl]; rfl)]; simpa using hj)) hone (by omega) (by unfold maxLen; omega) (by omega) (by simp; omega) (w.heap.size + 1) (by simp) ?_
              intro g2 cap2 w7 hown7 hg7 hat7 hlt7
              rw [fold_cells (by rw [hcl]; rfl)] at hg7
              have hal := (Below.refl w.drew.heap.size w.drew).alloc (Nat.le_refl _) (.cells cs.toArray 40)
              have hbk7 := (hg7.block b (by simp; omega) hap).trans ((heap_alloc_old w.drew _ hbl).trans hbk)
              have c7 := cell_of_row _ _ 0 _ _ _ hbk7
              have hf7 : w7.frozen? ⟨b, 0, none⟩ = false := by simp [World.frozen?, hbk7]
              refine hK.out _ _ trivial (fun hHeld => ?_)
              clear hK K
              try simp only [Act.put, List.setIfInBounds_toArray, List.set_cons_zero, List.set_cons_succ]
              refine wpAnyH_take (i := 14) (oi := ?oq_1_34_14) (v := ?va_1_34_14) ?op_1_34_14 (by kernel_rfl) (by kernel_rfl) (by kernel_rfl) (fun _ _ _ h => h) ?yi_1_34_14 trivial ?re_1_34_14
              case op_1_34_14 => (simp only [List.getElem?_toArray, List.getElem?_cons_succ, List.getElem?_cons_zero]; rfl)
              case yi_1_34_14 =>
                refine Or.inl ⟨by rfl, ?_⟩
                intro w hSw
                go_simp
                all_goals with_reducible rfl
              try simp only [Act.put, List.setIfInBounds_toArray, List.set_cons_zero, List.set_cons_succ]
              refine wpAnyH_take (i := 15) (oi := ?oq_1_35_15) (v := ?va_1_35_15) ?op_1_35_15 (by kernel_rfl) (by kernel_rfl) (by kernel_rfl) (fun _ _ _ h => h) ?yi_1_35_15 trivial ?re_1_35_15
              case op_1_35_15 => (simp only [List.getElem?_toArray, List.getElem?_cons_succ, List.getElem?_cons_zero]; rfl)
              case yi_1_35_15 =>
                refine Or.inl ⟨by rfl, ?_⟩
                intro w hSw
                go_simp
                all_goals with_reducible rfl
              try simp only [Act.put, List.setIfInBounds_toArray, List.set_cons_zero, List.set_cons_succ]
              refine wpAnyH_ready (rs := [16]) (by kernel_rfl) (by simp) (AllReadyH.cons (o := ?oq_1_36_16) ?op_1_36_16 (fun K hK => ?re_1_36_16) AllReadyH.nil)
              case op_1_36_16 => (simp only [List.getElem?_toArray, List.getElem?_cons_succ, List.getElem?_cons_zero]; rfl)
              case re_1_36_16 =>
                go_simp
                refine hK.out _ _ trivial (fun hHeld => ?_)
                clear hK K
                try simp only [Act.put, List.setIfInBounds_toArray, List.set_cons_zero, List.set_cons_succ]
                refine wpAnyH_done (by kernel_rfl) ?_ _
                refine NoPanic.normal ?_
                have HQ := Lib.hid (QNetAt.put0 (L' := L ++ [M]) hBb hbk7 (MsgsO.snoc hS1 hS3 hown7 hC))
                have hal' : Below w.heap.size w (w.drew.alloc (.cells cs.toArray 40)) := ⟨hal.os, hal.tape, hal.output, hal.size, hal.block⟩
                have HK := Lib.hid (((NKept.of_below (b := b) (r := (Value.slice (some ⟨g, 0, none⟩) L.length cap).ownBlock) hal').trans (NKept.of_grown hg7)).trans (NKept.of_grownB (grown_setCell w7 b 0 (.slice (some ⟨g2, 0, none⟩) (L.length + 1) cap2))))
                have HR : Hid (RNew w (.slice (some ⟨g, 0, none⟩) L.length cap) (.slice (some ⟨g2, 0, none⟩) (L.length + 1) cap2)) := Lib.hid (by
                  intro j hj
                  simp only [Value.ownBlock, Option.some.injEq] at hj
                  subst hj
                  rcases hat7 with h1 | h1
                  · exact .inl h1
                  · exact .inr (by omega))
                clear hg7 hown7 hbk7 c7 hf7 hal hal' hat7
                go_wp2_with fail
                go_ret
                exact ⟨by (rw [HE.out.2]; try rfl), _, by rw [HE.out.1]; exact HQ.out, HK.out, HR.out⟩
end Go.Proofs.YtnaabaahfjklhaaGreat
namespace Go.Proofs.YtnaabaahfjklhaaGreat
open Go.RowKit Go.ChangeShapes Go.WideShapes Go.Joins Go.Deep
set_option linter.unusedVariables false

theorem QNetAt.set2 {B b : Nat} {w0 w : World} {v : Value} {L : List MsgV} {s t : Int} (h : QNetAt B w0 w b v L s t) (t' : Int) : QNetAt B w0 (w.setCell ⟨b, 2, none⟩ (.int .i64 t')) b v L s t' := by
  have hap := h.apart
  obtain ⟨hB, hb, css, h1, h2, h3⟩ := h
  refine ⟨hB, ?_, css, h1, h2.kept (grown_setCell w b 2 (.int .i64 t')) (.inr fun e => hap e.symm), h3⟩
  simp [World.setCell, Array.getElem?_modify, hb]
theorem QNetAt.set1 {B b : Nat} {w0 w : World} {v : Value} {L : List MsgV} {s t : Int} (h : QNetAt B w0 w b v L s t) (s' : Int) : QNetAt B w0 (w.setCell ⟨b, 1, none⟩ (.int .i64 s')) b v L s' t := by
  have hap := h.apart
  obtain ⟨hB, hb, css, h1, h2, h3⟩ := h
  refine ⟨hB, ?_, css, h1, h2.kept (grown_setCell w b 1 (.int .i64 s')) (.inr fun e => hap e.symm), h3⟩
  simp [World.setCell, Array.getElem?_modify, hb]
set_option maxRecDepth 100000 in
set_option maxHeartbeats 2000000 in

theorem qtake_none {B b : Nat} {w0 w : World} {v : Value} {s t : Int} (h : QNetAt B w0 w b v [] s t) (i : Int) :
    Calls Tryz.prog 21 #[.pointer (some ⟨b, 0, none⟩), .int .i64 i] w fun en w' => ∃ u, en = .returned (.tuple #[u, .int .i64 10]) ∧ msgZero.At w' u ∧ Below w.heap.size w w' := by
  obtain ⟨zs, hzs⟩ : ∃ zs : List Value, zs = [.int .i64 0, .int .i64 0, .int .i64 0, .int .i64 0, .int .i64 0, .int .i64 0, .int .i64 0, .int .i64 0, .int .i64 0, .int .i64 0, .bool false, .int .i64 0, .int .i64 0, .int .i64 0, .int .i64 0, .int .i64 0, .int .i64 0, .int .i64 0, .int .i64 0, .int .i64 0, .string ⟨#[]⟩, .int .i64 0, .int .i64 0, .int .i64 0, .int .i64 0, .slice none 0 0, .slice none 0 0, .int .i64 0] := ⟨_, rfl⟩
  have hzl : zs.length = 28 := by rw [hzs]; rfl
  have hz1 : zs.toArray.all (·.oneCell') = true := by rw [hzs]; simp [Value.oneCell']
  go_enter Tryz.func21, Tryz.ntmps21
  go_upto_region 1 with (fail)
  have hD : BlkAt (w.alloc (.cells #[.int .i64 0, .int .i64 0, .int .i64 0, .int .i64 0, .int .i64 0, .int .i64 0, .int .i64 0, .int .i64 0, .int .i64 0, .int .i64 0, .bool false, .int .i64 0, .int .i64 0, .int .i64 0, .int .i64 0, .int .i64 0, .int .i64 0, .int .i64 0, .int .i64 0, .int .i64 0, .string ⟨#[]⟩, .int .i64 0, .int .i64 0, .int .i64 0, .int .i64 0, .slice none 0 0, .slice none 0 0, .int .i64 0] 40)) w.heap.size 40 [.int .i64 0, .int .i64 0, .int .i64 0, .int .i64 0, .int .i64 0, .int .i64 0, .int .i64 0, .int .i64 0, .int .i64 0, .int .i64 0, .bool false, .int .i64 0, .int .i64 0, .int .i64 0, .int .i64 0, .int .i64 0, .int .i64 0, .int .i64 0, .int .i64 0, .int .i64 0, .string ⟨#[]⟩, .int .i64 0, .int .i64 0, .int .i64 0, .int .i64 0, .slice none 0 0, .slice none 0 0, .int .i64 0] := BlkAt.new w 40 [.int .i64 0, .int .i64 0, .int .i64 0, .int .i64 0, .int .i64 0, .int .i64 0, .int .i64 0, .int .i64 0, .int .i64 0, .int .i64 0, .bool false, .int .i64 0, .int .i64 0, .int .i64 0, .int .i64 0, .int .i64 0, .int .i64 0, .int .i64 0, .int .i64 0, .int .i64 0, .string ⟨#[]⟩, .int .i64 0, .int .i64 0, .int .i64 0, .int .i64 0, .slice none 0 0, .slice none 0 0, .int .i64 0]
  have hb : Below w.heap.size w (w.alloc (.cells #[.int .i64 0, .int .i64 0, .int .i64 0, .int .i64 0, .int .i64 0, .int .i64 0, .int .i64 0, .int .i64 0, .int .i64 0, .int .i64 0, .bool false, .int .i64 0, .int .i64 0, .int .i64 0, .int .i64 0, .int .i64 0, .int .i64 0, .int .i64 0, .int .i64 0, .int .i64 0, .string ⟨#[]⟩, .int .i64 0, .int .i64 0, .int .i64 0, .int .i64 0, .slice none 0 0, .slice none 0 0, .int .i64 0] 40)) := (Below.refl w.heap.size w).alloc (Nat.le_refl _) _
  have hWs : w.heap.size + 1 ≤ (w.alloc (.cells #[.int .i64 0, .int .i64 0, .int .i64 0, .int .i64 0, .int .i64 0, .int .i64 0, .int .i64 0, .int .i64 0, .int .i64 0, .int .i64 0, .bool false, .int .i64 0, .int .i64 0, .int .i64 0, .int .i64 0, .int .i64 0, .int .i64 0, .int .i64 0, .int .i64 0, .int .i64 0, .string ⟨#[]⟩, .int .i64 0, .int .i64 0, .int .i64 0, .int .i64 0, .slice none 0 0, .slice none 0 0, .int .i64 0] 40)).heap.size := by simp
  change Code.wp _ _ _ _ (w.alloc (.cells #[.int .i64 0, .int .i64 0, .int .i64 0, .int .i64 0, .int .i64 0, .int .i64 0, .int .i64 0, .int .i64 0, .int .i64 0, .int .i64 0, .bool false, .int .i64 0, .int .i64 0, .int .i64 0, .int .i64 0, .int .i64 0, .int .i64 0, .int .i64 0, .int .i64 0, .int .i64 0, .string ⟨#[]⟩, .int .i64 0, .int .i64 0, .int .i64 0, .int .i64 0, .slice none 0 0, .slice none 0 0, .int .i64 0] 40))
  generalize w.alloc (.cells #[.int .i64 0, .int .i64 0, .int .i64 0, .int .i64 0, .int .i64 0, .int .i64 0, .int .i64 0, .int .i64 0, .int .i64 0, .int .i64 0, .bool false, .int .i64 0, .int .i64 0, .int .i64 0, .int .i64 0, .int .i64 0, .int .i64 0, .int .i64 0, .int .i64 0, .int .i64 0, .string ⟨#[]⟩, .int .i64 0, .int .i64 0, .int .i64 0, .int .i64 0, .slice none 0 0, .slice none 0 0, .int .i64 0] 40) = W at *
  obtain ⟨D, hDD⟩ : ∃ D, D = w.heap.size := ⟨_, rfl⟩
  have hDw : w.heap.size ≤ D := Nat.le_of_eq hDD.symm
  have hDw2 : D ≤ w.heap.size := Nat.le_of_eq hDD
  have hDs : D + 1 ≤ W.heap.size := by omega
  rw [← hzs] at hD
  rw [← hDD] at hD ⊢
  clear hDD hWs
  have hz : ∀ w, (zeroValue 40).run Tryz.prog w = .ok (.agg zs.toArray) w := fun w => by rw [hzs]; kernel_rfl
  have h := h.below hb
  go_wp2_with fail
  refine (qplace_none (by exact h) i).mono ?_
  rintro en w1 ⟨rfl, rfl⟩
  clear h hDs
  have HM2 := Lib.hid (hD.stored (vs := zs) rfl)
  have HT2 := Lib.hid (blk_there hD)
  have G := grown_setCells D zs 0 W
  have HB2 := Lib.hid (grown_below hb G hDw)
  have HLN := Lib.hid hzl
  have HZS := Lib.hid hzs
  clear hD hb G
  clear hzs
  go_wp2_with (refine wpList_store_mid rfl 40 (.tmp 4) (.tmp 13) rfl D 0 zs.toArray rfl rfl (by exact HT2.out) (by rw [List.size_toArray, hzl]; exact msg_info) hz1 ?_; rw [List.toList_toArray])
  exact bodyPost_ret (v := .tuple #[.agg zs.toArray, .int .i64 10]) (results_msg rfl rfl rfl HM2.out HLN.out) rfl ⟨_, rfl, ⟨.slice none 0 0, .slice none 0 0, by rw [HZS.out]; rfl, ChainAt.nil _, FiresAt.nil _⟩, HB2.out⟩
set_option maxRecDepth 100000 in
set_option maxHeartbeats 8000000 in

theorem qtake_any {B b : Nat} {w0 w : World} {v : Value} {L : List MsgV} {s t : Int} (h : QNetAt B w0 w b v L s t) (hb0 : Below w0.heap.size w0 w) (hBw0 : w0.heap.size ≤ B) (hL : L ≠ []) (hl : L.length ≤ 10000) (ht : 0 ≤ t ∧ t ≤ 1000000000) {i : Int} (hi : W64 i) {M : MsgV} (hM : L[placeN i L.length]? = some M) :
    Calls Tryz.prog 21 #[.pointer (some ⟨b, 0, none⟩), .int .i64 i] w fun en w' => ∃ u v', en = .returned (.tuple #[u, .int .i64 0]) ∧ M.At w' u ∧ QNetAt B w0 w' b v' (takeN_ L i) s (t + 1) ∧ NKept w w' b v.ownBlock ∧ RNew w v v' := by
  obtain ⟨SA, Scap, rfl⟩ := h.form
  have hlt : placeN i L.length < L.length := placeN_lt i (List.length_pos_iff.2 hL)
  have HTK : Hid (takeN_ L i = L.eraseIdx (placeN i L.length)) := Lib.hid rfl
  have hbl0 := h.lt
  have hrow : ∀ j, (Value.slice SA L.length Scap).ownBlock = some j → B ≤ j := fun j hj => (h.row j hj).1
  obtain ⟨zs, hzs⟩ : ∃ zs : List Value, zs = [.int .i64 0, .int .i64 0, .int .i64 0, .int .i64 0, .int .i64 0, .int .i64 0, .int .i64 0, .int .i64 0, .int .i64 0, .int .i64 0, .bool false, .int .i64 0, .int .i64 0, .int .i64 0, .int .i64 0, .int .i64 0, .int .i64 0, .int .i64 0, .int .i64 0, .int .i64 0, .string ⟨#[]⟩, .int .i64 0, .int .i64 0, .int .i64 0, .int .i64 0, .slice none 0 0, .slice none 0 0, .int .i64 0] := ⟨_, rfl⟩
  have hzl : zs.length = 28 := by rw [hzs]; rfl
  have hz1 : zs.toArray.all (·.oneCell') = true := by rw [hzs]; simp [Value.oneCell']
  go_enter Tryz.func21, Tryz.ntmps21
  go_upto_region 1 with (fail)
  have hD : BlkAt (w.alloc (.cells #[.int .i64 0, .int .i64 0, .int .i64 0, .int .i64 0, .int .i64 0, .int .i64 0, .int .i64 0, .int .i64 0, .int .i64 0, .int .i64 0, .bool false, .int .i64 0, .int .i64 0, .int .i64 0, .int .i64 0, .int .i64 0, .int .i64 0, .int .i64 0, .int .i64 0, .int .i64 0, .string ⟨#[]⟩, .int .i64 0, .int .i64 0, .int .i64 0, .int .i64 0, .slice none 0 0, .slice none 0 0, .int .i64 0] 40)) w.heap.size 40 [.int .i64 0, .int .i64 0, .int .i64 0, .int .i64 0, .int .i64 0, .int .i64 0, .int .i64 0, .int .i64 0, .int .i64 0, .int .i64 0, .bool false, .int .i64 0, .int .i64 0, .int .i64 0, .int .i64 0, .int .i64 0, .int .i64 0, .int .i64 0, .int .i64 0, .int .i64 0, .string ⟨#[]⟩, .int .i64 0, .int .i64 0, .int .i64 0, .int .i64 0, .slice none 0 0, .slice none 0 0, .int .i64 0] := BlkAt.new w 40 [.int .i64 0, .int .i64 0, .int .i64 0, .int .i64 0, .int .i64 0, .int .i64 0, .int .i64 0, .int .i64 0, .int .i64 0, .int .i64 0, .bool false, .int .i64 0, .int .i64 0, .int .i64 0, .int .i64 0, .int .i64 0, .int .i64 0, .int .i64 0, .int .i64 0, .int .i64 0, .string ⟨#[]⟩, .int .i64 0, .int .i64 0, .int .i64 0, .int .i64 0, .slice none 0 0, .slice none 0 0, .int .i64 0]
  have hb : Below w.heap.size w (w.alloc (.cells #[.int .i64 0, .int .i64 0, .int .i64 0, .int .i64 0, .int .i64 0, .int .i64 0, .int .i64 0, .int .i64 0, .int .i64 0, .int .i64 0, .bool false, .int .i64 0, .int .i64 0, .int .i64 0, .int .i64 0, .int .i64 0, .int .i64 0, .int .i64 0, .int .i64 0, .int .i64 0, .string ⟨#[]⟩, .int .i64 0, .int .i64 0, .int .i64 0, .int .i64 0, .slice none 0 0, .slice none 0 0, .int .i64 0] 40)) := (Below.refl w.heap.size w).alloc (Nat.le_refl _) _
  have hWs : w.heap.size + 1 ≤ (w.alloc (.cells #[.int .i64 0, .int .i64 0, .int .i64 0, .int .i64 0, .int .i64 0, .int .i64 0, .int .i64 0, .int .i64 0, .int .i64 0, .int .i64 0, .bool false, .int .i64 0, .int .i64 0, .int .i64 0, .int .i64 0, .int .i64 0, .int .i64 0, .int .i64 0, .int .i64 0, .int .i64 0, .string ⟨#[]⟩, .int .i64 0, .int .i64 0, .int .i64 0, .int .i64 0, .slice none 0 0, .slice none 0 0, .int .i64 0] 40)).heap.size := by simp
  change Code.wp _ _ _ _ (w.alloc (.cells #[.int .i64 0, .int .i64 0, .int .i64 0, .int .i64 0, .int .i64 0, .int .i64 0, .int .i64 0, .int .i64 0, .int .i64 0, .int .i64 0, .bool false, .int .i64 0, .int .i64 0, .int .i64 0, .int .i64 0, .int .i64 0, .int .i64 0, .int .i64 0, .int .i64 0, .int .i64 0, .string ⟨#[]⟩, .int .i64 0, .int .i64 0, .int .i64 0, .int .i64 0, .slice none 0 0, .slice none 0 0, .int .i64 0] 40))
  generalize w.alloc (.cells #[.int .i64 0, .int .i64 0, .int .i64 0, .int .i64 0, .int .i64 0, .int .i64 0, .int .i64 0, .int .i64 0, .int .i64 0, .int .i64 0, .bool false, .int .i64 0, .int .i64 0, .int .i64 0, .int .i64 0, .int .i64 0, .int .i64 0, .int .i64 0, .int .i64 0, .int .i64 0, .string ⟨#[]⟩, .int .i64 0, .int .i64 0, .int .i64 0, .int .i64 0, .slice none 0 0, .slice none 0 0, .int .i64 0] 40) = W at *
  obtain ⟨D, hDD⟩ : ∃ D, D = w.heap.size := ⟨_, rfl⟩
  have hDw : w.heap.size ≤ D := Nat.le_of_eq hDD.symm
  have hDw2 : D ≤ w.heap.size := Nat.le_of_eq hDD
  have hDs : D + 1 ≤ W.heap.size := by omega
  rw [← hzs] at hD
  rw [← hDD] at hD ⊢
  clear hDD hWs
  have hz : ∀ w, (zeroValue 40).run Tryz.prog w = .ok (.agg zs.toArray) w := fun w => by rw [hzs]; kernel_rfl
  clear hz
  have h := h.below hb
  go_wp2_with fail
  refine (qplace_any (by exact h) hL (by omega) hi).mono ?_
  rintro en w1 ⟨rfl, rfl⟩
  generalize placeN i L.length = k at *
  have hlt' : (k : Int) < (L.length : Int) := by omega
  have hneg : ¬ (k : Int) < 0 := by omega
  obtain ⟨g, cs, rfl, hC, hcell⟩ := h.2.2.at hM
  have c0 := h.cell0
  have hcl := hC.1
  have hcone := hC.2.1
  have hrg : W.rangeAt g (k * 28) cs := hcell
  have hX := BlkAt.new W 40 [.int .i64 0, .int .i64 0, .int .i64 0, .int .i64 0, .int .i64 0, .int .i64 0, .int .i64 0, .int .i64 0, .int .i64 0, .int .i64 0, .bool false, .int .i64 0, .int .i64 0, .int .i64 0, .int .i64 0, .int .i64 0, .int .i64 0, .int .i64 0, .int .i64 0, .int .i64 0, .string ⟨#[]⟩, .int .i64 0, .int .i64 0, .int .i64 0, .int .i64 0, .slice none 0 0, .slice none 0 0, .int .i64 0]
  have HL1 := Lib.hid (show cs.length = ([.int .i64 0, .int .i64 0, .int .i64 0, .int .i64 0, .int .i64 0, .int .i64 0, .int .i64 0, .int .i64 0, .int .i64 0, .int .i64 0, .bool false, .int .i64 0, .int .i64 0, .int .i64 0, .int .i64 0, .int .i64 0, .int .i64 0, .int .i64 0, .int .i64 0, .int .i64 0, .string ⟨#[]⟩, .int .i64 0, .int .i64 0, .int .i64 0, .int .i64 0, .slice none 0 0, .slice none 0 0, .int .i64 0] : List Value).length by rw [hcl]; rfl)
  have b4 := (Below.refl W.heap.size W).alloc (Nat.le_refl _) (.cells #[.int .i64 0, .int .i64 0, .int .i64 0, .int .i64 0, .int .i64 0, .int .i64 0, .int .i64 0, .int .i64 0, .int .i64 0, .int .i64 0, .bool false, .int .i64 0, .int .i64 0, .int .i64 0, .int .i64 0, .int .i64 0, .int .i64 0, .int .i64 0, .int .i64 0, .int .i64 0, .string ⟨#[]⟩, .int .i64 0, .int .i64 0, .int .i64 0, .int .i64 0, .slice none 0 0, .slice none 0 0, .int .i64 0] 40)
  have G4 := grown_setCells W.heap.size cs 0 (W.alloc (.cells #[.int .i64 0, .int .i64 0, .int .i64 0, .int .i64 0, .int .i64 0, .int .i64 0, .int .i64 0, .int .i64 0, .int .i64 0, .int .i64 0, .bool false, .int .i64 0, .int .i64 0, .int .i64 0, .int .i64 0, .int .i64 0, .int .i64 0, .int .i64 0, .int .i64 0, .int .i64 0, .string ⟨#[]⟩, .int .i64 0, .int .i64 0, .int .i64 0, .int .i64 0, .slice none 0 0, .slice none 0 0, .int .i64 0] 40))
  have b5 := b4.grown G4 b4.size (by intro j hj; cases hj; exact Nat.le_refl _)
  have hMBn := hX.stored (vs := cs) HL1.out
  have HT := Lib.hid (blk_there2 hX HL1.out)
  have hn := h.below b5
  clear h
  have h := hn
  clear hn
  have hDn := hD.below b5
  clear hD
  have hD := hDn
  clear hDn
  have hbn := below_step hb b5
  clear hb
  have hb := hbn
  clear hbn
  clear hX b4 G4 b5 HL1
  go_upto_region 5 with (first | (refine wpList_store_mid rfl 40 (.tmp 7) (.tmp 20) rfl W.heap.size 0 cs.toArray rfl rfl (by exact HT.out) (by rw [List.size_toArray, hcl]; exact msg_info) hcone ?_; rw [List.toList_toArray]) | (refine wpList_load_mid rfl 40 (.tmp 19) rfl g (k * 28) rfl cs _ hrg Tryz.underlying40 rfl (by rw [hcl]; exact msg_info) ?_; simp only [Act.put, List.setIfInBounds_toArray, List.set_cons_zero, List.set_cons_succ]))
  change Code.wp _ _ _ _ ((W.alloc (.cells #[.int .i64 0, .int .i64 0, .int .i64 0, .int .i64 0, .int .i64 0, .int .i64 0, .int .i64 0, .int .i64 0, .int .i64 0, .int .i64 0, .bool false, .int .i64 0, .int .i64 0, .int .i64 0, .int .i64 0, .int .i64 0, .int .i64 0, .int .i64 0, .int .i64 0, .int .i64 0, .string ⟨#[]⟩, .int .i64 0, .int .i64 0, .int .i64 0, .int .i64 0, .slice none 0 0, .slice none 0 0, .int .i64 0] 40)).setCells W.heap.size 0 cs)
  generalize (W.alloc (.cells #[.int .i64 0, .int .i64 0, .int .i64 0, .int .i64 0, .int .i64 0, .int .i64 0, .int .i64 0, .int .i64 0, .int .i64 0, .int .i64 0, .bool false, .int .i64 0, .int .i64 0, .int .i64 0, .int .i64 0, .int .i64 0, .int .i64 0, .int .i64 0, .int .i64 0, .int .i64 0, .string ⟨#[]⟩, .int .i64 0, .int .i64 0, .int .i64 0, .int .i64 0, .slice none 0 0, .slice none 0 0, .int .i64 0] 40)).setCells W.heap.size 0 cs = z2 at *
  have hMB := hMBn
  clear hMBn HT
  obtain ⟨m, hLL⟩ : ∃ q, q = W.heap.size := ⟨_, rfl⟩
  rw [← hLL] at hMB ⊢
  have HEm := Lib.hid hLL
  clear hLL
  clear hrg c0
  have hmw : w.heap.size ≤ m := by rw [HEm.out]; omega
  have hmD : m ≠ D := by rw [HEm.out]; omega
  have hmb : m ≠ b := by rw [HEm.out]; omega
  have hbD : b ≠ D := by omega
  have c0 := h.cell0
  obtain ⟨hBb, hbk, css, hS1, hS2, hS3⟩ := h
  have h28 : ∀ c ∈ css, c.length = 28 := fun c hc => by
    obtain ⟨i, hi⟩ := List.getElem?_of_mem hc
    have hil := (List.getElem?_eq_some_iff.1 hi).1
    exact (hS3 i _ c (List.getElem?_eq_getElem (by omega)) hi).1
  have hones : ∀ u ∈ css.flatten, u.oneCell' = true := fun u hu => by
    obtain ⟨c, hc, huc⟩ := List.mem_flatten.1 hu
    obtain ⟨i, hi⟩ := List.getElem?_of_mem hc
    have hil := (List.getElem?_eq_some_iff.1 hi).1
    have h1 := (hS3 i _ c (List.getElem?_eq_getElem (by omega)) hi).2.1
    rw [Array.all_eq_true_iff_forall_mem] at h1
    exact h1 u (by simpa using huc)
  have hfl : css.flatten.length = L.length * 28 := hS2.1
  have hcap : L.length ≤ Scap := by
    rcases hS2.2 with ⟨hv, h0⟩ | ⟨g', cap', cur, hv, _, _, hn', _⟩
    · omega
    · simp only [Value.slice.injEq] at hv
      omega
  have bd : Below z2.heap.size z2 z2.drew := below_drewN (Below.refl _ _) 1
  have hS2d := own_below' hS2 bd
  have hbl : b < z2.heap.size := (Array.getElem?_eq_some_iff.1 hbk).1
  have hBz : B ≤ z2.drew.heap.size := Nat.le_trans hBb (Nat.le_of_lt hbl)
  have hal := (Below.refl z2.drew.heap.size z2.drew).alloc (Nat.le_refl _) (.cells #[] 40)
  have hE : (z2.drew.alloc (.cells #[] 40)).ownsRow B 40 28 (.slice (some ⟨z2.drew.heap.size, 0, none⟩) 0 0) 0 [] := ⟨rfl, .inr ⟨_, 0, #[], rfl, hBz, heap_alloc_new _ _, Nat.le_refl _, Nat.zero_le _, rfl, rfl⟩⟩
  have hSE := own_below' hS2d hal
  have hBE : B ≤ (z2.drew.alloc (.cells #[] 40)).heap.size := Nat.le_trans hBz hal.size
  have hgz : g < z2.drew.heap.size := (hS2d.lt g rfl).2
  have hblE : b < (z2.drew.alloc (.cells #[] 40)).heap.size := Nat.lt_of_lt_of_le hbl hal.size
  have hbkE : (z2.drew.alloc (.cells #[] 40)).heap[b]? = some (.cells #[.slice (some ⟨g, 0, none⟩) L.length Scap, .int .i64 s, .int .i64 t] 59 (0, 0)) := (heap_alloc_old z2.drew _ hbl).trans hbk
  have hapE := own_apartN hbkE hE (by decide)
  have hc1 : ∀ j u, (css.flatten.take (k * 28))[j]? = some u → (z2.drew.alloc (.cells #[] 40)).cell? ((⟨g, 0, none⟩ : Addr).add j) = some u := fun j u hj => hSE.cells (g := g) rfl j u (by
    rw [List.getElem?_take] at hj
    split at hj
    · exact hj
    · cases hj)
  have hl1 : (css.flatten.take (k * 28)).length = k * 28 := by rw [List.length_take, hfl]; omega
  obtain ⟨r, hr⟩ : ∃ r, r = k + 1 := ⟨_, rfl⟩
  have hl2 : (css.flatten.drop (r * 28)).length = (L.length - r) * 28 := by rw [List.length_drop, hfl]; omega
  have hon1 : ∀ u ∈ css.flatten.take (k * 28), u.oneCell' = true := fun u hu => hones u (List.mem_of_mem_take hu)
  have hon2 : ∀ u ∈ css.flatten.drop (r * 28), u.oneCell' = true := fun u hu => hones u (List.mem_of_mem_drop hu)
  have hqc : (k : Int) ≤ (Scap : Int) := by omega
  have hwq : IntKind.i64.wrap ((k : Int) + 1) = (r : Int) := by rw [IntKind.wrap_i64]; omega
  have hrl : (r : Int) ≤ (L.length : Int) := by omega
  have hrl2 : r ≤ L.length := by omega
  have hlc : (L.length : Int) ≤ (Scap : Int) := by omega
  have HR := Lib.hid hr
  have c0d : z2.drew.cell? ⟨b, 0, none⟩ = some (.slice (some ⟨g, 0, none⟩) L.length Scap) := c0
  have c0a : ∀ o, (z2.drew.alloc o).cell? ⟨b, 0, none⟩ = some (.slice (some ⟨g, 0, none⟩) L.length Scap) := fun o => cell_alloc_old (w := z2.drew) c0 _
  clear hones hS2 hS2d hr hzs hz1 hcell bd
  refine wp_region_noPanic ?_
  refine wp_region_held_drew (S := fun _ => True) (by kernel_rfl) trivial (fun hHeld => ?_)
  refine wpAnyH_take (i := 0) (oi := ?oq_1_1_0) (v := ?va_1_1_0) ?op_1_1_0 (by kernel_rfl) (by kernel_rfl) (by kernel_rfl) (fun _ _ _ h => h) ?yi_1_1_0 trivial ?re_1_1_0
  case op_1_1_0 => (simp only [List.getElem?_toArray, List.getElem?_cons_zero]; rfl)
  case yi_1_1_0 =>
    refine Or.inl ⟨by rfl, ?_⟩
    intro w hSw
    go_simp
    all_goals with_reducible rfl
  try simp only [Act.put, List.setIfInBounds_toArray, List.set_cons_zero, List.set_cons_succ]
  refine wpAnyH_take (i := 2) (oi := ?oq_1_2_2) (v := ?va_1_2_2) ?op_1_2_2 (by kernel_rfl) (by kernel_rfl) (by kernel_rfl) (fun _ _ _ h => h) ?yi_1_2_2 trivial ?re_1_2_2
  case op_1_2_2 => (simp only [List.getElem?_toArray, List.getElem?_cons_succ, List.getElem?_cons_zero]; rfl)
  case yi_1_2_2 =>
    refine Or.inl ⟨by rfl, ?_⟩
    intro w hSw
    go_simp
    all_goals with_reducible rfl
  try simp only [Act.put, List.setIfInBounds_toArray, List.set_cons_zero, List.set_cons_succ]
  refine wpAnyH_take (i := 3) (oi := ?oq_1_3_3) (v := ?va_1_3_3) ?op_1_3_3 (by kernel_rfl) (by kernel_rfl) (by kernel_rfl) (fun _ _ _ h => h) ?yi_1_3_3 trivial ?re_1_3_3
  case op_1_3_3 => (simp only [List.getElem?_toArray, List.getElem?_cons_succ, List.getElem?_cons_zero]; rfl)
  case yi_1_3_3 =>
    refine Or.inl ⟨by rfl, ?_⟩
    intro w hSw
    go_simp
    all_goals with_reducible rfl
  try simp only [Act.put, List.setIfInBounds_toArray, List.set_cons_zero, List.set_cons_succ]
  refine wpAnyH_take (i := 4) (oi := ?oq_1_4_4) (v := ?va_1_4_4) ?op_1_4_4 (by kernel_rfl) (by kernel_rfl) (by kernel_rfl) (fun _ _ _ h => h) ?yi_1_4_4 trivial ?re_1_4_4
  case op_1_4_4 => (simp only [List.getElem?_toArray, List.getElem?_cons_succ, List.getElem?_cons_zero]; rfl)
  case yi_1_4_4 =>
    refine Or.inl ⟨by rfl, ?_⟩
    intro w hSw
    go_simp
    all_goals with_reducible rfl
  try simp only [Act.put, List.setIfInBounds_toArray, List.set_cons_zero, List.set_cons_succ]
  refine wpAnyH_take (i := 6) (oi := ?oq_1_5_6) (v := ?va_1_5_6) ?op_1_5_6 (by kernel_rfl) (by kernel_rfl) (by kernel_rfl) (fun _ _ _ h => h) ?yi_1_5_6 trivial ?re_1_5_6
  case op_1_5_6 => (simp only [List.getElem?_toArray, List.getElem?_cons_succ, List.getElem?_cons_zero]; rfl)
  case yi_1_5_6 =>
    refine Or.inl ⟨by rfl, ?_⟩
    intro w hSw
    go_simp
    all_goals with_reducible rfl
  try simp only [Act.put, List.setIfInBounds_toArray, List.set_cons_zero, List.set_cons_succ]
  refine wpAnyH_take (i := 9) (oi := ?oq_1_6_9) (v := ?va_1_6_9) ?op_1_6_9 (by kernel_rfl) (by kernel_rfl) (by kernel_rfl) (fun _ _ _ h => h) ?yi_1_6_9 trivial ?re_1_6_9
  case op_1_6_9 => (simp only [List.getElem?_toArray, List.getElem?_cons_succ, List.getElem?_cons_zero]; rfl)
  case yi_1_6_9 =>
    refine Or.inl ⟨by rfl, ?_⟩
    intro w hSw
    go_simp
    all_goals with_reducible rfl
  try simp only [Act.put, List.setIfInBounds_toArray, List.set_cons_zero, List.set_cons_succ]
  refine wpAnyH_take (i := 10) (oi := ?oq_1_7_10) (v := ?va_1_7_10) ?op_1_7_10 (by kernel_rfl) (by kernel_rfl) (by kernel_rfl) (fun _ _ _ h => h) ?yi_1_7_10 trivial ?re_1_7_10
  case op_1_7_10 => (simp only [List.getElem?_toArray, List.getElem?_cons_succ, List.getElem?_cons_zero]; rfl)
  case yi_1_7_10 =>
    refine Or.inl ⟨by rfl, ?_⟩
    intro w hSw
    go_simp
    all_goals with_reducible rfl
  try simp only [Act.put, List.setIfInBounds_toArray, List.set_cons_zero, List.set_cons_succ]
  refine wpAnyH_take (i := 11) (oi := ?oq_1_8_11) (v := ?va_1_8_11) ?op_1_8_11 (by kernel_rfl) (by kernel_rfl) (by kernel_rfl) (fun _ _ _ h => h) ?yi_1_8_11 trivial ?re_1_8_11
  case op_1_8_11 => (simp only [List.getElem?_toArray, List.getElem?_cons_succ, List.getElem?_cons_zero]; rfl)
  case yi_1_8_11 =>
    refine Or.inl ⟨by rfl, ?_⟩
    intro w hSw
    go_simp
    all_goals with_reducible rfl
  try simp only [Act.put, List.setIfInBounds_toArray, List.set_cons_zero, List.set_cons_succ]
  refine wpAnyH_take (i := 13) (oi := ?oq_1_9_13) (v := ?va_1_9_13) ?op_1_9_13 (by kernel_rfl) (by kernel_rfl) (by kernel_rfl) (fun _ _ _ h => h) ?yi_1_9_13 trivial ?re_1_9_13
  case op_1_9_13 => (simp only [List.getElem?_toArray, List.getElem?_cons_succ, List.getElem?_cons_zero]; rfl)
  case yi_1_9_13 =>
    refine Or.inl ⟨by rfl, ?_⟩
    intro w hSw
    go_simp
    all_goals with_reducible rfl
  try simp only [Act.put, List.setIfInBounds_toArray, List.set_cons_zero, List.set_cons_succ]
  refine wpAnyH_take (i := 14) (oi := ?oq_1_10_14) (v := ?va_1_10_14) ?op_1_10_14 (by kernel_rfl) (by kernel_rfl) (by kernel_rfl) (fun _ _ _ h => h) ?yi_1_10_14 trivial ?re_1_10_14
  case op_1_10_14 => (simp only [List.getElem?_toArray, List.getElem?_cons_succ, List.getElem?_cons_zero]; rfl)
  case yi_1_10_14 =>
    refine Or.inl ⟨by rfl, ?_⟩
    intro w hSw
    go_simp
    all_goals with_reducible rfl
  try simp only [Act.put, List.setIfInBounds_toArray, List.set_cons_zero, List.set_cons_succ]
  refine wpAnyH_ready (rs := [1, 5, 12]) (by kernel_rfl) (by simp) (AllReadyH.cons (o := ?oq_1_11_1) ?op_1_11_1 (fun K hK => ?re_1_11_1) (AllReadyH.cons (o := ?oq_1_11_5) ?op_1_11_5 (fun K hK => ?re_1_11_5) (AllReadyH.cons (o := ?oq_1_11_12) ?op_1_11_12 (fun K hK => ?re_1_11_12) AllReadyH.nil)))
  case op_1_11_1 => (simp only [List.getElem?_toArray, List.getElem?_cons_succ, List.getElem?_cons_zero]; rfl)
  case op_1_11_5 => (simp only [List.getElem?_toArray, List.getElem?_cons_succ, List.getElem?_cons_zero]; rfl)
  case op_1_11_12 => (simp only [List.getElem?_toArray, List.getElem?_cons_succ, List.getElem?_cons_zero]; rfl)
  case re_1_11_1 =>
    go_simp
    refine hK.out _ _ trivial (fun hHeld => ?_)
    clear hK K
    try simp only [Act.put, List.setIfInBounds_toArray, List.set_cons_zero, List.set_cons_succ]
    refine wpAnyH_ready (rs := [5, 12]) (by kernel_rfl) (by simp) (AllReadyH.cons (o := ?oq_1_12_5) ?op_1_12_5 (fun K hK => ?re_1_12_5) (AllReadyH.cons (o := ?oq_1_12_12) ?op_1_12_12 (fun K hK => ?re_1_12_12) AllReadyH.nil))
    case op_1_12_5 => (simp only [List.getElem?_toArray, List.getElem?_cons_succ, List.getElem?_cons_zero]; rfl)
    case op_1_12_12 => (simp only [List.getElem?_toArray, List.getElem?_cons_succ, List.getElem?_cons_zero]; rfl)
    case re_1_12_5 =>
      go_simp
      refine hK.out _ _ trivial (fun hHeld => ?_)
      clear hK K
      try simp only [Act.put, List.setIfInBounds_toArray, List.set_cons_zero, List.set_cons_succ]
      refine wpAnyH_take (i := 7) (oi := ?oq_1_13_7) (v := ?va_1_13_7) ?op_1_13_7 (by kernel_rfl) (by kernel_rfl) (by kernel_rfl) (fun _ _ _ h => h) ?yi_1_13_7 trivial ?re_1_13_7
      case op_1_13_7 => (simp only [List.getElem?_toArray, List.getElem?_cons_succ, List.getElem?_cons_zero]; rfl)
      case yi_1_13_7 =>
        refine Or.inl ⟨by rfl, ?_⟩
        intro w hSw
        go_simp
        all_goals with_reducible rfl
      try simp only [Act.put, List.setIfInBounds_toArray, List.set_cons_zero, List.set_cons_succ]
      refine wpAnyH_ready (rs := [8, 12]) (by kernel_rfl) (by simp) (AllReadyH.cons (o := ?oq_1_14_8) ?op_1_14_8 (fun K hK => ?re_1_14_8) (AllReadyH.cons (o := ?oq_1_14_12) ?op_1_14_12 (fun K hK => ?re_1_14_12) AllReadyH.nil))
      case op_1_14_8 => (simp only [List.getElem?_toArray, List.getElem?_cons_succ, List.getElem?_cons_zero]; rfl)
      case op_1_14_12 => (simp only [List.getElem?_toArray, List.getElem?_cons_succ, List.getElem?_cons_zero]; rfl)
      case re_1_14_8 =>
        refine step_append_row (by rfl) _ _ (by rfl) (base := B) (n := 0) (cap := 0) (m := k) (c := Scap) (A := some ⟨z2.drew.heap.size, 0, none⟩) (A2 := some ⟨g, 0, none⟩) (xs := []) (news := css.flatten.take (k * 28)) (by rfl) (by exact hE) (by rfl) hl1 (fun _ => ⟨_, rfl, hc1⟩) hon1 (by omega) hBE ?_
        intro A4 cap4 w6 hown6 hg6 hn6
        rw [Nat.zero_add] at hown6 hn6
        simp only [Nat.zero_add]
        have hS6 := hSE.kept hg6 (.inr fun e => Nat.ne_of_lt hgz (by simpa [Value.ownBlock] using e))
        have hB6 : B ≤ w6.heap.size := Nat.le_trans hBE hg6.size
        have hbk6 := (hg6.block b hblE hapE).trans hbkE
        have c6 := cell_of_row _ _ 0 _ _ _ hbk6
        have hc2 : ∀ j u, (css.flatten.drop (r * 28))[j]? = some u → w6.cell? ((⟨g, r * 28, none⟩ : Addr).add j) = some u := fun j u hj => by
          rw [addr_add]
          have h1 := hS6.cells (g := g) rfl (r * 28 + j) u (by rw [List.getElem?_drop] at hj; exact hj)
          rw [addr_add, Nat.zero_add] at h1
          exact h1
        refine hK.out _ _ trivial (fun hHeld => ?_)
        clear hK K
        try simp only [Act.put, List.setIfInBounds_toArray, List.set_cons_zero, List.set_cons_succ]
        refine wpAnyH_ready (rs := [12]) (by kernel_rfl) (by simp) (AllReadyH.cons (o := ?oq_1_15_12) ?op_1_15_12 (fun K hK => ?re_1_15_12) AllReadyH.nil)
        case op_1_15_12 => (simp only [List.getElem?_toArray, List.getElem?_cons_succ, List.getElem?_cons_zero]; rfl)
        case re_1_15_12 =>
          go_simp
          refine hK.out _ _ trivial (fun hHeld => ?_)
          clear hK K
          try simp only [Act.put, List.setIfInBounds_toArray, List.set_cons_zero, List.set_cons_succ]
          refine wpAnyH_take (i := 15) (oi := ?oq_1_16_15) (v := ?va_1_16_15) ?op_1_16_15 (by kernel_rfl) (by kernel_rfl) (by kernel_rfl) (fun _ _ _ h => h) ?yi_1_16_15 trivial ?re_1_16_15
          case op_1_16_15 => (simp only [List.getElem?_toArray, List.getElem?_cons_succ, List.getElem?_cons_zero]; rfl)
          case yi_1_16_15 =>
            refine Or.inl ⟨by rfl, ?_⟩
            intro w hSw
            go_simp
            all_goals with_reducible rfl
          try simp only [Act.put, List.setIfInBounds_toArray, List.set_cons_zero, List.set_cons_succ]
          refine wpAnyH_ready (rs := [16]) (by kernel_rfl) (by simp) (AllReadyH.cons (o := ?oq_1_17_16) ?op_1_17_16 (fun K hK => ?re_1_17_16) AllReadyH.nil)
          case op_1_17_16 => (simp only [List.getElem?_toArray, List.getElem?_cons_succ, List.getElem?_cons_zero]; rfl)
          case re_1_17_16 =>
            refine step_append_row (by rfl) _ _ (by rfl) (base := B) (n := k) (cap := cap4) (m := L.length - r) (c := Scap - r) (A := A4) (A2 := if Scap = r then some ⟨g, 0, none⟩ else some ⟨g, r * 28, none⟩) (xs := [] ++ css.flatten.take (k * 28)) (news := css.flatten.drop (r * 28)) (by rfl) (by exact hown6) (by rfl) hl2 (fun hp => ⟨⟨g, r * 28, none⟩, if_neg (by omega), hc2⟩) hon2 (by omega) hB6 ?_
            intro A5 cap5 w7 hown7 hg7 hn7
            have hap6 := own_apartN hbk6 hown6 (by decide)
            have hbk7 := (hg7.block b (Nat.lt_of_lt_of_le hblE hg6.size) hap6).trans hbk6
            have c7 := cell_of_row _ _ 0 _ _ _ hbk7
            have hf7 : w7.frozen? ⟨b, 0, none⟩ = false := by simp [World.frozen?, hbk7]
            refine hK.out _ _ trivial (fun hHeld => ?_)
            clear hK K
            try simp only [Act.put, List.setIfInBounds_toArray, List.set_cons_zero, List.set_cons_succ]
            refine wpAnyH_take (i := 17) (oi := ?oq_1_18_17) (v := ?va_1_18_17) ?op_1_18_17 (by kernel_rfl) (by kernel_rfl) (by kernel_rfl) (fun _ _ _ h => h) ?yi_1_18_17 trivial ?re_1_18_17
            case op_1_18_17 => (simp only [List.getElem?_toArray, List.getElem?_cons_succ, List.getElem?_cons_zero]; rfl)
            case yi_1_18_17 =>
              refine Or.inl ⟨by rfl, ?_⟩
              intro w hSw
              go_simp
              all_goals with_reducible rfl
            try simp only [Act.put, List.setIfInBounds_toArray, List.set_cons_zero, List.set_cons_succ]
            refine wpAnyH_take (i := 18) (oi := ?oq_1_19_18) (v := ?va_1_19_18) ?op_1_19_18 (by kernel_rfl) (by kernel_rfl) (by kernel_rfl) (fun _ _ _ h => h) ?yi_1_19_18 trivial ?re_1_19_18
            case op_1_19_18 => (simp only [List.getElem?_toArray, List.getElem?_cons_succ, List.getElem?_cons_zero]; rfl)
            case yi_1_19_18 =>
              refine Or.inl ⟨by rfl, ?_⟩
              intro w hSw
              go_simp
              all_goals with_reducible rfl
            try simp only [Act.put, List.setIfInBounds_toArray, List.set_cons_zero, List.set_cons_succ]
            refine wpAnyH_ready (rs := [19]) (by kernel_rfl) (by simp) (AllReadyH.cons (o := ?oq_1_20_19) ?op_1_20_19 (fun K hK => ?re_1_20_19) AllReadyH.nil)
            case op_1_20_19 => (simp only [List.getElem?_toArray, List.getElem?_cons_succ, List.getElem?_cons_zero]; rfl)
            case re_1_20_19 =>
              go_simp
              refine hK.out _ _ trivial (fun hHeld => ?_)
              clear hK K
              try simp only [Act.put, List.setIfInBounds_toArray, List.set_cons_zero, List.set_cons_succ]
              refine wpAnyH_done (by kernel_rfl) ?_ _
              refine NoPanic.normal ?_
              have hown7z := hown7
              have e : k + (L.length - r) = L.length - 1 := by have := HR.out; omega
              have hO7 : MsgsO B w0 w7 (.slice A5 (k + (L.length - r)) cap5) (L.eraseIdx k) := MsgsO.erase hS1 hS3 h28 hlt (by rw [← e, ← HR.out]; exact hown7z)
              have hQ7 := QNetAt.put0 hBb hbk7 hO7
              have hown7k : ∀ j, (Value.slice A4 k cap4).ownBlock = some j → z2.heap.size ≤ j := fun j hj => by
                rcases hn6 j hj with h1 | h1
                · simp only [Value.ownBlock, Option.some.injEq] at h1
                  subst h1
                  exact Nat.le_refl _
                · have h2 : z2.heap.size ≤ (z2.drew.alloc (.cells #[] 40)).heap.size := hal.size
                  exact Nat.le_trans h2 h1
              have HK : Hid (NKept z2 (w7.setCell ⟨b, 0, none⟩ (.slice A5 (k + (L.length - r)) cap5)) b none) := Lib.hid (NKept.trans (w' := w7) ⟨hg7.os.trans (hg6.os.trans hal.os), hg7.tape.trans (hg6.tape.trans hal.tape), hg7.output.trans (hg6.output.trans hal.output), Nat.le_trans hal.size (Nat.le_trans hg6.size hg7.size), fun j hj h1 _ => by
                have hjE : j < (z2.drew.alloc (.cells #[] 40)).heap.size := Nat.lt_of_lt_of_le hj hal.size
                rw [hg7.block j (Nat.lt_of_lt_of_le hjE hg6.size) (fun e => by have := hown7k j e.symm; omega), hg6.block j hjE (fun e => by simp only [Value.ownBlock, Option.some.injEq] at e; subst e; exact Nat.lt_irrefl _ hj)]
                exact hal.block j hj⟩ (NKept.of_grownB (grown_setCell w7 b 0 (.slice A5 (k + (L.length - r)) cap5))))
              have HRN : Hid (∀ j, (Value.slice A5 (k + (L.length - r)) cap5).ownBlock = some j → z2.heap.size ≤ j) := Lib.hid (fun j hj => by
                rcases hn7 j hj with h1 | h1
                · exact hown7k j h1
                · have h2 : z2.heap.size ≤ (z2.drew.alloc (.cells #[] 40)).heap.size := hal.size
                  exact Nat.le_trans (Nat.le_trans h2 hg6.size) h1)
              have HQ := Lib.hid hQ7
              clear hown7 hown7z hO7 hQ7 hown7k hbk7 c7 hf7 hg7 hg6 hn6 hn7 hown6 hS6 hc2 hbk6 c6
              clear hE hSE hbkE hapE hal hc1 hon1 hon2 hS1 hS3 h28 hbk c0 c0d c0a hwq e
              generalize w7.setCell ⟨b, 0, none⟩ (.slice A5 (k + (L.length - r)) cap5) = w8 at *
              have hQ := HQ.out
              have c2 := hQ.cell2
              have hf2 := hQ.free 2
              have hwt : IntKind.i64.wrap (t + 1) = t + 1 := by rw [IntKind.wrap_i64]; omega
              have hDl := hD.lt
              have hM8 := blk_nkept hMB HK.out hmb (by simp)
              have hD8 := blk_nkept hD HK.out hbD.symm (by simp)
              have hk8 : NKept w w8 b (Value.slice (some ⟨g, 0, none⟩) L.length Scap).ownBlock := (NKept.of_below hb).trans ⟨HK.out.os, HK.out.tape, HK.out.output, HK.out.size, fun j hj h1 _ => HK.out.block j hj h1 (by simp)⟩
              have G6 := grown_setCell w8 b 2 (.int .i64 (t + 1))
              have HQ9 := Lib.hid (hQ.set2 (t + 1))
              have HM9 := Lib.hid (hM8.grown G6 hmb)
              have HD9 := Lib.hid (hD8.grown G6 hbD.symm)
              have HK9 := Lib.hid (hk8.trans (NKept.of_grownB G6))
              clear hQ HQ hM8 hD8 hk8 G6 HK hMB hD hb
              go_upto_region 7 with (fail)
              change Code.wp _ _ _ _ (w8.setCell ⟨b, 2, none⟩ (.int .i64 (t + 1)))
              generalize w8.setCell ⟨b, 2, none⟩ (.int .i64 (t + 1)) = w9 at *
              clear c2 hf2 hwt
              have hMY := HM9.out
              have hl2 : cs.length = zs.length := by rw [hcl, hzl]
              have HM2 := Lib.hid (HD9.out.stored (vs := cs) hl2)
              have HT2 := Lib.hid (blk_there2 HD9.out hl2)
              have G := grown_setCells D cs 0 w9
              have hzw : w.heap.size ≤ z2.heap.size := by omega
              have HQ10 := Lib.hid (HQ9.out.nkept (NKept.of_grownB (b := D) (r := none) G) hbD (by simp) (fun e => by have := HRN.out D e.symm; omega) (by
                rcases ho : (Value.slice A5 (k + (L.length - r)) cap5).ownBlock with _ | o
                · exact .inl rfl
                · exact .inr (by simp)))
              have HK10 : Hid (NKept w (w9.setCells D 0 cs) b (Value.slice (some ⟨g, 0, none⟩) L.length Scap).ownBlock) := Lib.hid ⟨G.os.trans HK9.out.os, G.tape.trans HK9.out.tape, G.output.trans HK9.out.output, Nat.le_trans HK9.out.size G.size, fun j hj h1 h2 => (G.block j (Nat.lt_of_lt_of_le hj HK9.out.size) (by simp; omega)).trans (HK9.out.block j hj h1 h2)⟩
              have HA := Lib.hid (hC.2.2.below (NKept.below HK10.out hb0 (Nat.le_trans hBw0 hBb) (fun j hj => Nat.le_trans hBw0 (hrow j hj))))
              have HLN := Lib.hid hcl
              have HRN2 : Hid (RNew w (.slice (some ⟨g, 0, none⟩) L.length Scap) (.slice A5 (k + (L.length - r)) cap5)) := Lib.hid (fun j hj => .inr (Nat.le_trans hzw (HRN.out j hj)))
              clear G hl2 HM9 HD9 HQ9 HK9 HRN hC
              go_wp2_with (first | (refine wpList_load_mid rfl 40 (.tmp 7) rfl m 0 rfl cs _ hMY.range Tryz.underlying40 rfl (by rw [hcl]; exact msg_info) ?_; simp only [Act.put, List.setIfInBounds_toArray, List.set_cons_zero, List.set_cons_succ]) | (refine wpList_store_mid rfl 40 (.tmp 4) (.tmp 47) rfl D 0 cs.toArray rfl rfl (by exact HT2.out) (by rw [List.size_toArray, hcl]; exact msg_info) hcone ?_; rw [List.toList_toArray]))
              all_goals exact bodyPost_ret (v := .tuple #[.agg cs.toArray, .int .i64 0]) (results_msg rfl rfl rfl HM2.out HLN.out) rfl ⟨_, rfl, HA.out, .slice A5 (k + (L.length - r)) cap5, by rw [HTK.out]; exact HQ10.out, HK10.out, HRN2.out⟩
      case re_1_14_12 =>
        go_simp
        refine hK.out _ _ trivial (fun hHeld => ?_)
        clear hK K
        try simp only [Act.put, List.setIfInBounds_toArray, List.set_cons_zero, List.set_cons_succ]
        refine wpAnyH_take (i := 15) (oi := ?oq_1_21_15) (v := ?va_1_21_15) ?op_1_21_15 (by kernel_rfl) (by kernel_rfl) (by kernel_rfl) (fun _ _ _ h => h) ?yi_1_21_15 trivial ?re_1_21_15
        case op_1_21_15 => (simp only [List.getElem?_toArray, List.getElem?_cons_succ, List.getElem?_cons_zero]; rfl)
        case yi_1_21_15 =>
          refine Or.inl ⟨by rfl, ?_⟩
          intro w hSw
          go_simp
          all_goals with_reducible rfl
        try simp only [Act.put, List.setIfInBounds_toArray, List.set_cons_zero, List.set_cons_succ]
        refine wpAnyH_ready (rs := [8]) (by kernel_rfl) (by simp) (AllReadyH.cons (o := ?oq_1_22_8) ?op_1_22_8 (fun K hK => ?re_1_22_8) AllReadyH.nil)
        case op_1_22_8 => (simp only [List.getElem?_toArray, List.getElem?_cons_succ, List.getElem?_cons_zero]; rfl)
        case re_1_22_8 =>
          refine step_append_row (by rfl) _ _ (by rfl) (base := B) (n := 0) (cap := 0) (m := k) (c := Scap) (A := some ⟨z2.drew.heap.size, 0, none⟩) (A2 := some ⟨g, 0, none⟩) (xs := []) (news := css.flatten.take (k * 28)) (by rfl) (by exact hE) (by rfl) hl1 (fun _ => ⟨_, rfl, hc1⟩) hon1 (by omega) hBE ?_
          intro A4 cap4 w6 hown6 hg6 hn6
          rw [Nat.zero_add] at hown6 hn6
          simp only [Nat.zero_add]
          have hS6 := hSE.kept hg6 (.inr fun e => Nat.ne_of_lt hgz (by simpa [Value.ownBlock] using e))
          have hB6 : B ≤ w6.heap.size := Nat.le_trans hBE hg6.size
          have hbk6 := (hg6.block b hblE hapE).trans hbkE
          have c6 := cell_of_row _ _ 0 _ _ _ hbk6
          have hc2 : ∀ j u, (css.flatten.drop (r * 28))[j]? = some u → w6.cell? ((⟨g, r * 28, none⟩ : Addr).add j) = some u := fun j u hj => by
            rw [addr_add]
            have h1 := hS6.cells (g := g) rfl (r * 28 + j) u (by rw [List.getElem?_drop] at hj; exact hj)
            rw [addr_add, Nat.zero_add] at h1
            exact h1
          refine hK.out _ _ trivial (fun hHeld => ?_)
          clear hK K
          try simp only [Act.put, List.setIfInBounds_toArray, List.set_cons_zero, List.set_cons_succ]
          refine wpAnyH_ready (rs := [16]) (by kernel_rfl) (by simp) (AllReadyH.cons (o := ?oq_1_23_16) ?op_1_23_16 (fun K hK => ?re_1_23_16) AllReadyH.nil)
          case op_1_23_16 => (simp only [List.getElem?_toArray, List.getElem?_cons_succ, List.getElem?_cons_zero]; rfl)
          case re_1_23_16 =>
            refine step_append_row (by rfl) _ _ (by rfl) (base := B) (n := k) (cap := cap4) (m := L.length - r) (c := Scap - r) (A := A4) (A2 := if Scap = r then some ⟨g, 0, none⟩ else some ⟨g, r * 28, none⟩) (xs := [] ++ css.flatten.take (k * 28)) (news := css.flatten.drop (r * 28)) (by rfl) (by exact hown6) (by rfl) hl2 (fun hp => ⟨⟨g, r * 28, none⟩, if_neg (by omega), hc2⟩) hon2 (by omega) hB6 ?_
            intro A5 cap5 w7 hown7 hg7 hn7
            have hap6 := own_apartN hbk6 hown6 (by decide)
            have hbk7 := (hg7.block b (Nat.lt_of_lt_of_le hblE hg6.size) hap6).trans hbk6
            have c7 := cell_of_row _ _ 0 _ _ _ hbk7
            have hf7 : w7.frozen? ⟨b, 0, none⟩ = false := by simp [World.frozen?, hbk7]
            refine hK.out _ _ trivial (fun hHeld => ?_)
            clear hK K
            try simp only [Act.put, List.setIfInBounds_toArray, List.set_cons_zero, List.set_cons_succ]
            refine wpAnyH_take (i := 17) (oi := ?oq_1_24_17) (v := ?va_1_24_17) ?op_1_24_17 (by kernel_rfl) (by kernel_rfl) (by kernel_rfl) (fun _ _ _ h => h) ?yi_1_24_17 trivial ?re_1_24_17
            case op_1_24_17 => (simp only [List.getElem?_toArray, List.getElem?_cons_succ, List.getElem?_cons_zero]; rfl)
            case yi_1_24_17 =>
              refine Or.inl ⟨by rfl, ?_⟩
              intro w hSw
              go_simp
              all_goals with_reducible rfl
            try simp only [Act.put, List.setIfInBounds_toArray, List.set_cons_zero, List.set_cons_succ]
            refine wpAnyH_take (i := 18) (oi := ?oq_1_25_18) (v := ?va_1_25_18) ?op_1_25_18 (by kernel_rfl) (by kernel_rfl) (by kernel_rfl) (fun _ _ _ h => h) ?yi_1_25_18 trivial ?re_1_25_18
            case op_1_25_18 => (simp only [List.getElem?_toArray, List.getElem?_cons_succ, List.getElem?_cons_zero]; rfl)
            case yi_1_25_18 =>
              refine Or.inl ⟨by rfl, ?_⟩
              intro w hSw
              go_simp
              all_goals with_reducible rfl
            try simp only [Act.put, List.setIfInBounds_toArray, List.set_cons_zero, List.set_cons_succ]
            refine wpAnyH_ready (rs := [19]) (by kernel_rfl) (by simp) (AllReadyH.cons (o := ?oq_1_26_19) ?op_1_26_19 (fun K hK => ?re_1_26_19) AllReadyH.nil)
            case op_1_26_19 => (simp only [List.getElem?_toArray, List.getElem?_cons_succ, List.getElem?_cons_zero]; rfl)
            case re_1_26_19 =>
              go_simp
              refine hK.out _ _ trivial (fun hHeld => ?_)
              clear hK K
              try simp only [Act.put, List.setIfInBounds_toArray, List.set_cons_zero, List.set_cons_succ]
              refine wpAnyH_done (by kernel_rfl) ?_ _
              refine NoPanic.normal ?_
              have hown7z := hown7
              have e : k + (L.length - r) = L.length - 1 := by have := HR.out; omega
              have hO7 : MsgsO B w0 w7 (.slice A5 (k + (L.length - r)) cap5) (L.eraseIdx k) := MsgsO.erase hS1 hS3 h28 hlt (by rw [← e, ← HR.out]; exact hown7z)
              have hQ7 := QNetAt.put0 hBb hbk7 hO7
              have hown7k : ∀ j, (Value.slice A4 k cap4).ownBlock = some j → z2.heap.size ≤ j := fun j hj => by
                rcases hn6 j hj with h1 | h1
                · simp only [Value.ownBlock, Option.some.injEq] at h1
                  subst h1
                  exact Nat.le_refl _
                · have h2 : z2.heap.size ≤ (z2.drew.alloc (.cells #[] 40)).heap.size := hal.size
                  exact Nat.le_trans h2 h1
              have HK : Hid (NKept z2 (w7.setCell ⟨b, 0, none⟩ (.slice A5 (k + (L.length - r)) cap5)) b none) := Lib.hid (NKept.trans (w' := w7) ⟨hg7.os.trans (hg6.os.trans hal.os), hg7.tape.trans (hg6.tape.trans hal.tape), hg7.output.trans (hg6.output.trans hal.output), Nat.le_trans hal.size (Nat.le_trans hg6.size hg7.size), fun j hj h1 _ => by
                have hjE : j < (z2.drew.alloc (.cells #[] 40)).heap.size := Nat.lt_of_lt_of_le hj hal.size
                rw [hg7.block j (Nat.lt_of_lt_of_le hjE hg6.size) (fun e => by have := hown7k j e.symm; omega), hg6.block j hjE (fun e => by simp only [Value.ownBlock, Option.some.injEq] at e; subst e; exact Nat.lt_irrefl _ hj)]
                exact hal.block j hj⟩ (NKept.of_grownB (grown_setCell w7 b 0 (.slice A5 (k + (L.length - r)) cap5))))
              have HRN : Hid (∀ j, (Value.slice A5 (k + (L.length - r)) cap5).ownBlock = some j → z2.heap.size ≤ j) := Lib.hid (fun j hj => by
                rcases hn7 j hj with h1 | h1
                · exact hown7k j h1
                · have h2 : z2.heap.size ≤ (z2.drew.alloc (.cells #[] 40)).heap.size := hal.size
                  exact Nat.le_trans (Nat.le_trans h2 hg6.size) h1)
              have HQ := Lib.hid hQ7
              clear hown7 hown7z hO7 hQ7 hown7k hbk7 c7 hf7 hg7 hg6 hn6 hn7 hown6 hS6 hc2 hbk6 c6
              clear hE hSE hbkE hapE hal hc1 hon1 hon2 hS1 hS3 h28 hbk c0 c0d c0a hwq e
              generalize w7.setCell ⟨b, 0, none⟩ (.slice A5 (k + (L.length - r)) cap5) = w8 at *
              have hQ := HQ.out
              have c2 := hQ.cell2
              have hf2 := hQ.free 2
              have hwt : IntKind.i64.wrap (t + 1) = t + 1 := by rw [IntKind.wrap_i64]; omega
              have hDl := hD.lt
              have hM8 := blk_nkept hMB HK.out hmb (by simp)
              have hD8 := blk_nkept hD HK.out hbD.symm (by simp)
              have hk8 : NKept w w8 b (Value.slice (some ⟨g, 0, none⟩) L.length Scap).ownBlock := (NKept.of_below hb).trans ⟨HK.out.os, HK.out.tape, HK.out.output, HK.out.size, fun j hj h1 _ => HK.out.block j hj h1 (by simp)⟩
              have G6 := grown_setCell w8 b 2 (.int .i64 (t + 1))
              have HQ9 := Lib.hid (hQ.set2 (t + 1))
              have HM9 := Lib.hid (hM8.grown G6 hmb)
              have HD9 := Lib.hid (hD8.grown G6 hbD.symm)
              have HK9 := Lib.hid (hk8.trans (NKept.of_grownB G6))
              clear hQ HQ hM8 hD8 hk8 G6 HK hMB hD hb
              go_upto_region 7 with (fail)
              change Code.wp _ _ _ _ (w8.setCell ⟨b, 2, none⟩ (.int .i64 (t + 1)))
              generalize w8.setCell ⟨b, 2, none⟩ (.int .i64 (t + 1)) = w9 at *
              clear c2 hf2 hwt
              have hMY := HM9.out
              have hl2 : cs.length = zs.length := by rw [hcl, hzl]
              have HM2 := Lib.hid (HD9.out.stored (vs := cs) hl2)
              have HT2 := Lib.hid (blk_there2 HD9.out hl2)
              have G := grown_setCells D cs 0 w9
              have hzw : w.heap.size ≤ z2.heap.size := by omega
              have HQ10 := Lib.hid (HQ9.out.nkept (NKept.of_grownB (b := D) (r := none) G) hbD (by simp) (fun e => by have := HRN.out D e.symm; omega) (by
                rcases ho : (Value.slice A5 (k + (L.length - r)) cap5).ownBlock with _ | o
                · exact .inl rfl
                · exact .inr (by simp)))
              have HK10 : Hid (NKept w (w9.setCells D 0 cs) b (Value.slice (some ⟨g, 0, none⟩) L.length Scap).ownBlock) := Lib.hid ⟨G.os.trans HK9.out.os, G.tape.trans HK9.out.tape, G.output.trans HK9.out.output, Nat.le_trans HK9.out.size G.size, fun j hj h1 h2 => (G.block j (Nat.lt_of_lt_of_le hj HK9.out.size) (by simp; omega)).trans (HK9.out.block j hj h1 h2)⟩
              have HA := Lib.hid (hC.2.2.below (NKept.below HK10.out hb0 (Nat.le_trans hBw0 hBb) (fun j hj => Nat.le_trans hBw0 (hrow j hj))))
              have HLN := Lib.hid hcl
              have HRN2 : Hid (RNew w (.slice (some ⟨g, 0, none⟩) L.length Scap) (.slice A5 (k + (L.length - r)) cap5)) := Lib.hid (fun j hj => .inr (Nat.le_trans hzw (HRN.out j hj)))
              clear G hl2 HM9 HD9 HQ9 HK9 HRN hC
              go_wp2_with (first | (refine wpList_load_mid rfl 40 (.tmp 7) rfl m 0 rfl cs _ hMY.range Tryz.underlying40 rfl (by rw [hcl]; exact msg_info) ?_; simp only [Act.put, List.setIfInBounds_toArray, List.set_cons_zero, List.set_cons_succ]) | (refine wpList_store_mid rfl 40 (.tmp 4) (.tmp 47) rfl D 0 cs.toArray rfl rfl (by exact HT2.out) (by rw [List.size_toArray, hcl]; exact msg_info) hcone ?_; rw [List.toList_toArray]))
              all_goals exact bodyPost_ret (v := .tuple #[.agg cs.toArray, .int .i64 0]) (results_msg rfl rfl rfl HM2.out HLN.out) rfl ⟨_, rfl, HA.out, .slice A5 (k + (L.length - r)) cap5, by rw [HTK.out]; exact HQ10.out, HK10.out, HRN2.out⟩
    case re_1_12_12 =>
      go_simp
      refine hK.out _ _ trivial (fun hHeld => ?_)
      clear hK K
      try simp only [Act.put, List.setIfInBounds_toArray, List.set_cons_zero, List.set_cons_succ]
      refine wpAnyH_take (i := 15) (oi := ?oq_1_27_15) (v := ?va_1_27_15) ?op_1_27_15 (by kernel_rfl) (by kernel_rfl) (by kernel_rfl) (fun _ _ _ h => h) ?yi_1_27_15 trivial ?re_1_27_15
      case op_1_27_15 => (simp only [List.getElem?_toArray, List.getElem?_cons_succ, List.getElem?_cons_zero]; rfl)
      case yi_1_27_15 =>
        refine Or.inl ⟨by rfl, ?_⟩
        intro w hSw
        go_simp
        all_goals with_reducible rfl
      try simp only [Act.put, List.setIfInBounds_toArray, List.set_cons_zero, List.set_cons_succ]
      refine wpAnyH_ready (rs := [5]) (by kernel_rfl) (by simp) (AllReadyH.cons (o := ?oq_1_28_5) ?op_1_28_5 (fun K hK => ?re_1_28_5) AllReadyH.nil)
      case op_1_28_5 => (simp only [List.getElem?_toArray, List.getElem?_cons_succ, List.getElem?_cons_zero]; rfl)
      case re_1_28_5 =>
        go_simp
        refine hK.out _ _ trivial (fun hHeld => ?_)
        clear hK K
        try simp only [Act.put, List.setIfInBounds_toArray, List.set_cons_zero, List.set_cons_succ]
        refine wpAnyH_take (i := 7) (oi := ?oq_1_29_7) (v := ?va_1_29_7) ?op_1_29_7 (by kernel_rfl) (by kernel_rfl) (by kernel_rfl) (fun _ _ _ h => h) ?yi_1_29_7 trivial ?re_1_29_7
        case op_1_29_7 => (simp only [List.getElem?_toArray, List.getElem?_cons_succ, List.getElem?_cons_zero]; rfl)
        case yi_1_29_7 =>
          refine Or.inl ⟨by rfl, ?_⟩
          intro w hSw
          go_simp
          all_goals with_reducible rfl
        try simp only [Act.put, List.setIfInBounds_toArray, List.set_cons_zero, List.set_cons_succ]
        refine wpAnyH_ready (rs := [8]) (by kernel_rfl) (by simp) (AllReadyH.cons (o := ?oq_1_30_8) ?op_1_30_8 (fun K hK => ?re_1_30_8) AllReadyH.nil)
        case op_1_30_8 => (simp only [List.getElem?_toArray, List.getElem?_cons_succ, List.getElem?_cons_zero]; rfl)
        case re_1_30_8 =>
          refine step_append_row (by rfl) _ _ (by rfl) (base := B) (n := 0) (cap := 0) (m := k) (c := Scap) (A := some ⟨z2.drew.heap.size, 0, none⟩) (A2 := some ⟨g, 0, none⟩) (xs := []) (news := css.flatten.take (k * 28)) (by rfl) (by exact hE) (by rfl) hl1 (fun _ => ⟨_, rfl, hc1⟩) hon1 (by omega) hBE ?_
          intro A4 cap4 w6 hown6 hg6 hn6
          rw [Nat.zero_add] at hown6 hn6
          simp only [Nat.zero_add]
          have hS6 := hSE.kept hg6 (.inr fun e => Nat.ne_of_lt hgz (by simpa [Value.ownBlock] using e))
          have hB6 : B ≤ w6.heap.size := Nat.le_trans hBE hg6.size
          have hbk6 := (hg6.block b hblE hapE).trans hbkE
          have c6 := cell_of_row _ _ 0 _ _ _ hbk6
          have hc2 : ∀ j u, (css.flatten.drop (r * 28))[j]? = some u → w6.cell? ((⟨g, r * 28, none⟩ : Addr).add j) = some u := fun j u hj => by
            rw [addr_add]
            have h1 := hS6.cells (g := g) rfl (r * 28 + j) u (by rw [List.getElem?_drop] at hj; exact hj)
            rw [addr_add, Nat.zero_add] at h1
            exact h1
          refine hK.out _ _ trivial (fun hHeld => ?_)
          clear hK K
          try simp only [Act.put, List.setIfInBounds_toArray, List.set_cons_zero, List.set_cons_succ]
          refine wpAnyH_ready (rs := [16]) (by kernel_rfl) (by simp) (AllReadyH.cons (o := ?oq_1_31_16) ?op_1_31_16 (fun K hK => ?re_1_31_16) AllReadyH.nil)
          case op_1_31_16 => (simp only [List.getElem?_toArray, List.getElem?_cons_succ, List.getElem?_cons_zero]; rfl)
          case re_1_31_16 =>
            refine step_append_row (by rfl) _ _ (by rfl) (base := B) (n := k) (cap := cap4) (m := L.length - r) (c := Scap - r) (A := A4) (A2 := if Scap = r then some ⟨g, 0, none⟩ else some ⟨g, r * 28, none⟩) (xs := [] ++ css.flatten.take (k * 28)) (news := css.flatten.drop (r * 28)) (by rfl) (by exact hown6) (by rfl) hl2 (fun hp => ⟨⟨g, r * 28, none⟩, if_neg (by omega), hc2⟩) hon2 (by omega) hB6 ?_
            intro A5 cap5 w7 hown7 hg7 hn7
            have hap6 := own_apartN hbk6 hown6 (by decide)
            have hbk7 := (hg7.block b (Nat.lt_of_lt_of_le hblE hg6.size) hap6).trans hbk6
            have c7 := cell_of_row _ _ 0 _ _ _ hbk7
            have hf7 : w7.frozen? ⟨b, 0, none⟩ = false := by simp [World.frozen?, hbk7]
            refine hK.out _ _ trivial (fun hHeld => ?_)
            clear hK K
            try simp only [Act.put, List.setIfInBounds_toArray, List.set_cons_zero, List.set_cons_succ]
            refine wpAnyH_take (i := 17) (oi := ?oq_1_32_17) (v := ?va_1_32_17) ?op_1_32_17 (by kernel_rfl) (by kernel_rfl) (by kernel_rfl) (fun _ _ _ h => h) ?yi_1_32_17 trivial ?re_1_32_17
            case op_1_32_17 => (simp only [List.getElem?_toArray, List.getElem?_cons_succ, List.getElem?_cons_zero]; rfl)
            case yi_1_32_17 =>
              refine Or.inl ⟨by rfl, ?_⟩
              intro w hSw
              go_simp
              all_goals with_reducible rfl
            try simp only [Act.put, List.setIfInBounds_toArray, List.set_cons_zero, List.set_cons_succ]
            refine wpAnyH_take (i := 18) (oi := ?oq_1_33_18) (v := ?va_1_33_18) ?op_1_33_18 (by kernel_rfl) (by kernel_rfl) (by kernel_rfl) (fun _ _ _ h => h) ?yi_1_33_18 trivial ?re_1_33_18
            case op_1_33_18 => (simp only [List.getElem?_toArray, List.getElem?_cons_succ, List.getElem?_cons_zero]; rfl)
            case yi_1_33_18 =>
              refine Or.inl ⟨by rfl, ?_⟩
              intro w hSw
              go_simp
              all_goals with_reducible rfl
            try simp only [Act.put, List.setIfInBounds_toArray, List.set_cons_zero, List.set_cons_succ]
            refine wpAnyH_ready (rs := [19]) (by kernel_rfl) (by simp) (AllReadyH.cons (o := ?oq_1_34_19) ?op_1_34_19 (fun K hK => ?re_1_34_19) AllReadyH.nil)
            case op_1_34_19 => (simp only [List.getElem?_toArray, List.getElem?_cons_succ, List.getElem?_cons_zero]; rfl)
            case re_1_34_19 =>
              go_simp
              refine hK.out _ _ trivial (fun hHeld => ?_)
              clear hK K
              try simp only [Act.put, List.setIfInBounds_toArray, List.set_cons_zero, List.set_cons_succ]
              refine wpAnyH_done (by kernel_rfl) ?_ _
              refine NoPanic.normal ?_
              have hown7z := hown7
              have e : k + (L.length - r) = L.length - 1 := by have := HR.out; omega
              have hO7 : MsgsO B w0 w7 (.slice A5 (k + (L.length - r)) cap5) (L.eraseIdx k) := MsgsO.erase hS1 hS3 h28 hlt (by rw [← e, ← HR.out]; exact hown7z)
              have hQ7 := QNetAt.put0 hBb hbk7 hO7
              have hown7k : ∀ j, (Value.slice A4 k cap4).ownBlock = some j → z2.heap.size ≤ j := fun j hj => by
                rcases hn6 j hj with h1 | h1
                · simp only [Value.ownBlock, Option.some.injEq] at h1
                  subst h1
                  exact Nat.le_refl _
                · have h2 : z2.heap.size ≤ (z2.drew.alloc (.cells #[] 40)).heap.size := hal.size
                  exact Nat.le_trans h2 h1
              have HK : Hid (NKept z2 (w7.setCell ⟨b, 0, none⟩ (.slice A5 (k + (L.length - r)) cap5)) b none) := Lib.hid (NKept.trans (w' := w7) ⟨hg7.os.trans (hg6.os.trans hal.os), hg7.tape.trans (hg6.tape.trans hal.tape), hg7.output.trans (hg6.output.trans hal.output), Nat.le_trans hal.size (Nat.le_trans hg6.size hg7.size), fun j hj h1 _ => by
                have hjE : j < (z2.drew.alloc (.cells #[] 40)).heap.size := Nat.lt_of_lt_of_le hj hal.size
                rw [hg7.block j (Nat.lt_of_lt_of_le hjE hg6.size) (fun e => by have := hown7k j e.symm; omega), hg6.block j hjE (fun e => by simp only [Value.ownBlock, Option.some.injEq] at e; subst e; exact Nat.lt_irrefl _ hj)]
                exact hal.block j hj⟩ (NKept.of_grownB (grown_setCell w7 b 0 (.slice A5 (k + (L.length - r)) cap5))))
              have HRN : Hid (∀ j, (Value.slice A5 (k + (L.length - r)) cap5).ownBlock = some j → z2.heap.size ≤ j) := Lib.hid (fun j hj => by
                rcases hn7 j hj with h1 | h1
                · exact hown7k j h1
                · have h2 : z2.heap.size ≤ (z2.drew.alloc (.cells #[] 40)).heap.size := hal.size
                  exact Nat.le_trans (Nat.le_trans h2 hg6.size) h1)
              have HQ := Lib.hid hQ7
              clear hown7 hown7z hO7 hQ7 hown7k hbk7 c7 hf7 hg7 hg6 hn6 hn7 hown6 hS6 hc2 hbk6 c6
              clear hE hSE hbkE hapE hal hc1 hon1 hon2 hS1 hS3 h28 hbk c0 c0d c0a hwq e
              generalize w7.setCell ⟨b, 0, none⟩ (.slice A5 (k + (L.length - r)) cap5) = w8 at *
              have hQ := HQ.out
              have c2 := hQ.cell2
              have hf2 := hQ.free 2
              have hwt : IntKind.i64.wrap (t + 1) = t + 1 := by rw [IntKind.wrap_i64]; omega
              have hDl := hD.lt
              have hM8 := blk_nkept hMB HK.out hmb (by simp)
              have hD8 := blk_nkept hD HK.out hbD.symm (by simp)
              have hk8 : NKept w w8 b (Value.slice (some ⟨g, 0, none⟩) L.length Scap).ownBlock := (NKept.of_below hb).trans ⟨HK.out.os, HK.out.tape, HK.out.output, HK.out.size, fun j hj h1 _ => HK.out.block j hj h1 (by simp)⟩
              have G6 := grown_setCell w8 b 2 (.int .i64 (t + 1))
              have HQ9 := Lib.hid (hQ.set2 (t + 1))
              have HM9 := Lib.hid (hM8.grown G6 hmb)
              have HD9 := Lib.hid (hD8.grown G6 hbD.symm)
              have HK9 := Lib.hid (hk8.trans (NKept.of_grownB G6))
              clear hQ HQ hM8 hD8 hk8 G6 HK hMB hD hb
              go_upto_region 7 with (fail)
              change Code.wp _ _ _ _ (w8.setCell ⟨b, 2, none⟩ (.int .i64 (t + 1)))
              generalize w8.setCell ⟨b, 2, none⟩ (.int .i64 (t + 1)) = w9 at *
              clear c2 hf2 hwt
              have hMY := HM9.out
              have hl2 : cs.length = zs.length := by rw [hcl, hzl]
              have HM2 := Lib.hid (HD9.out.stored (vs := cs) hl2)
              have HT2 := Lib.hid (blk_there2 HD9.out hl2)
              have G := grown_setCells D cs 0 w9
              have hzw : w.heap.size ≤ z2.heap.size := by omega
              have HQ10 := Lib.hid (HQ9.out.nkept (NKept.of_grownB (b := D) (r := none) G) hbD (by simp) (fun e => by have := HRN.out D e.symm; omega) (by
                rcases ho : (Value.slice A5 (k + (L.length - r)) cap5).ownBlock with _ | o
                · exact .inl rfl
                · exact .inr (by simp)))
              have HK10 : Hid (NKept w (w9.setCells D 0 cs) b (Value.slice (some ⟨g, 0, none⟩) L.length Scap).ownBlock) := Lib.hid ⟨G.os.trans HK9.out.os, G.tape.trans HK9.out.tape, G.output.trans HK9.out.output, Nat.le_trans HK9.out.size G.size, fun j hj h1 h2 => (G.block j (Nat.lt_of_lt_of_le hj HK9.out.size) (by simp; omega)).trans (HK9.out.block j hj h1 h2)⟩
              have HA := Lib.hid (hC.2.2.below (NKept.below HK10.out hb0 (Nat.le_trans hBw0 hBb) (fun j hj => Nat.le_trans hBw0 (hrow j hj))))
              have HLN := Lib.hid hcl
              have HRN2 : Hid (RNew w (.slice (some ⟨g, 0, none⟩) L.length Scap) (.slice A5 (k + (L.length - r)) cap5)) := Lib.hid (fun j hj => .inr (Nat.le_trans hzw (HRN.out j hj)))
              clear G hl2 HM9 HD9 HQ9 HK9 HRN hC
              go_wp2_with (first | (refine wpList_load_mid rfl 40 (.tmp 7) rfl m 0 rfl cs _ hMY.range Tryz.underlying40 rfl (by rw [hcl]; exact msg_info) ?_; simp only [Act.put, List.setIfInBounds_toArray, List.set_cons_zero, List.set_cons_succ]) | (refine wpList_store_mid rfl 40 (.tmp 4) (.tmp 47) rfl D 0 cs.toArray rfl rfl (by exact HT2.out) (by rw [List.size_toArray, hcl]; exact msg_info) hcone ?_; rw [List.toList_toArray]))
              all_goals exact bodyPost_ret (v := .tuple #[.agg cs.toArray, .int .i64 0]) (results_msg rfl rfl rfl HM2.out HLN.out) rfl ⟨_, rfl, HA.out, .slice A5 (k + (L.length - r)) cap5, by rw [HTK.out]; exact HQ10.out, HK10.out, HRN2.out⟩
  case re_1_11_5 =>
    go_simp
    refine hK.out _ _ trivial (fun hHeld => ?_)
    clear hK K
    try simp only [Act.put, List.setIfInBounds_toArray, List.set_cons_zero, List.set_cons_succ]
    refine wpAnyH_take (i := 7) (oi := ?oq_1_35_7) (v := ?va_1_35_7) ?op_1_35_7 (by kernel_rfl) (by kernel_rfl) (by kernel_rfl) (fun _ _ _ h => h) ?yi_1_35_7 trivial ?re_1_35_7
    case op_1_35_7 => (simp only [List.getElem?_toArray, List.getElem?_cons_succ, List.getElem?_cons_zero]; rfl)
    case yi_1_35_7 =>
      refine Or.inl ⟨by rfl, ?_⟩
      intro w hSw
      go_simp
      all_goals with_reducible rfl
    try simp only [Act.put, List.setIfInBounds_toArray, List.set_cons_zero, List.set_cons_succ]
    refine wpAnyH_ready (rs := [1, 12]) (by kernel_rfl) (by simp) (AllReadyH.cons (o := ?oq_1_36_1) ?op_1_36_1 (fun K hK => ?re_1_36_1) (AllReadyH.cons (o := ?oq_1_36_12) ?op_1_36_12 (fun K hK => ?re_1_36_12) AllReadyH.nil))
    case op_1_36_1 => (simp only [List.getElem?_toArray, List.getElem?_cons_succ, List.getElem?_cons_zero]; rfl)
    case op_1_36_12 => (simp only [List.getElem?_toArray, List.getElem?_cons_succ, List.getElem?_cons_zero]; rfl)
    case re_1_36_1 =>
      go_simp
      refine hK.out _ _ trivial (fun hHeld => ?_)
      clear hK K
      try simp only [Act.put, List.setIfInBounds_toArray, List.set_cons_zero, List.set_cons_succ]
      refine wpAnyH_ready (rs := [8, 12]) (by kernel_rfl) (by simp) (AllReadyH.cons (o := ?oq_1_37_8) ?op_1_37_8 (fun K hK => ?re_1_37_8) (AllReadyH.cons (o := ?oq_1_37_12) ?op_1_37_12 (fun K hK => ?re_1_37_12) AllReadyH.nil))
      case op_1_37_8 => (simp only [List.getElem?_toArray, List.getElem?_cons_succ, List.getElem?_cons_zero]; rfl)
      case op_1_37_12 => (simp only [List.getElem?_toArray, List.getElem?_cons_succ, List.getElem?_cons_zero]; rfl)
      case re_1_37_8 =>
        refine step_append_row (by rfl) _ _ (by rfl) (base := B) (n := 0) (cap := 0) (m := k) (c := Scap) (A := some ⟨z2.drew.heap.size, 0, none⟩) (A2 := some ⟨g, 0, none⟩) (xs := []) (news := css.flatten.take (k * 28)) (by rfl) (by exact hE) (by rfl) hl1 (fun _ => ⟨_, rfl, hc1⟩) hon1 (by omega) hBE ?_
        intro A4 cap4 w6 hown6 hg6 hn6
        rw [Nat.zero_add] at hown6 hn6
        simp only [Nat.zero_add]
        have hS6 := hSE.kept hg6 (.inr fun e => Nat.ne_of_lt hgz (by simpa [Value.ownBlock] using e))
        have hB6 : B ≤ w6.heap.size := Nat.le_trans hBE hg6.size
        have hbk6 := (hg6.block b hblE hapE).trans hbkE
        have c6 := cell_of_row _ _ 0 _ _ _ hbk6
        have hc2 : ∀ j u, (css.flatten.drop (r * 28))[j]? = some u → w6.cell? ((⟨g, r * 28, none⟩ : Addr).add j) = some u := fun j u hj => by
          rw [addr_add]
          have h1 := hS6.cells (g := g) rfl (r * 28 + j) u (by rw [List.getElem?_drop] at hj; exact hj)
          rw [addr_add, Nat.zero_add] at h1
          exact h1
        refine hK.out _ _ trivial (fun hHeld => ?_)
        clear hK K
        try simp only [Act.put, List.setIfInBounds_toArray, List.set_cons_zero, List.set_cons_succ]
        refine wpAnyH_ready (rs := [12]) (by kernel_rfl) (by simp) (AllReadyH.cons (o := ?oq_1_38_12) ?op_1_38_12 (fun K hK => ?re_1_38_12) AllReadyH.nil)
        case op_1_38_12 => (simp only [List.getElem?_toArray, List.getElem?_cons_succ, List.getElem?_cons_zero]; rfl)
        case re_1_38_12 =>
          go_simp
          refine hK.out _ _ trivial (fun hHeld => ?_)
          clear hK K
          try simp only [Act.put, List.setIfInBounds_toArray, List.set_cons_zero, List.set_cons_succ]
          refine wpAnyH_take (i := 15) (oi := ?oq_1_39_15) (v := ?va_1_39_15) ?op_1_39_15 (by kernel_rfl) (by kernel_rfl) (by kernel_rfl) (fun _ _ _ h => h) ?yi_1_39_15 trivial ?re_1_39_15
          case op_1_39_15 => (simp only [List.getElem?_toArray, List.getElem?_cons_succ, List.getElem?_cons_zero]; rfl)
          case yi_1_39_15 =>
            refine Or.inl ⟨by rfl, ?_⟩
            intro w hSw
            go_simp
            all_goals with_reducible rfl
          try simp only [Act.put, List.setIfInBounds_toArray, List.set_cons_zero, List.set_cons_succ]
          refine wpAnyH_ready (rs := [16]) (by kernel_rfl) (by simp) (AllReadyH.cons (o := ?oq_1_40_16) ?op_1_40_16 (fun K hK => ?re_1_40_16) AllReadyH.nil)
          case op_1_40_16 => (simp only [List.getElem?_toArray, List.getElem?_cons_succ, List.getElem?_cons_zero]; rfl)
          case re_1_40_16 =>
            refine step_append_row (by rfl) _ _ (by rfl) (base := B) (n := k) (cap := cap4) (m := L.length - r) (c := Scap - r) (A := A4) (A2 := if Scap = r then some ⟨g, 0, none⟩ else some ⟨g, r * 28, none⟩) (xs := [] ++ css.flatten.take (k * 28)) (news := css.flatten.drop (r * 28)) (by rfl) (by exact hown6) (by rfl) hl2 (fun hp => ⟨⟨g, r * 28, none⟩, if_neg (by omega), hc2⟩) hon2 (by omega) hB6 ?_
            intro A5 cap5 w7 hown7 hg7 hn7
            have hap6 := own_apartN hbk6 hown6 (by decide)
            have hbk7 := (hg7.block b (Nat.lt_of_lt_of_le hblE hg6.size) hap6).trans hbk6
            have c7 := cell_of_row _ _ 0 _ _ _ hbk7
            have hf7 : w7.frozen? ⟨b, 0, none⟩ = false := by simp [World.frozen?, hbk7]
            refine hK.out _ _ trivial (fun hHeld => ?_)
            clear hK K
            try simp only [Act.put, List.setIfInBounds_toArray, List.set_cons_zero, List.set_cons_succ]
            refine wpAnyH_take (i := 17) (oi := ?oq_1_41_17) (v := ?va_1_41_17) ?op_1_41_17 (by kernel_rfl) (by kernel_rfl) (by kernel_rfl) (fun _ _ _ h => h) ?yi_1_41_17 trivial ?re_1_41_17
            case op_1_41_17 => (simp only [List.getElem?_toArray, List.getElem?_cons_succ, List.getElem?_cons_zero]; rfl)
            case yi_1_41_17 =>
              refine Or.inl ⟨by rfl, ?_⟩
              intro w hSw
              go_simp
              all_goals with_reducible rfl
            try simp only [Act.put, List.setIfInBounds_toArray, List.set_cons_zero, List.set_cons_succ]
            refine wpAnyH_take (i := 18) (oi := ?oq_1_42_18) (v := ?va_1_42_18) ?op_1_42_18 (by kernel_rfl) (by kernel_rfl) (by kernel_rfl) (fun _ _ _ h => h) ?yi_1_42_18 trivial ?re_1_42_18
            case op_1_42_18 => (simp only [List.getElem?_toArray, List.getElem?_cons_succ, List.getElem?_cons_zero]; rfl)
            case yi_1_42_18 =>
              refine Or.inl ⟨by rfl, ?_⟩
              intro w hSw
              go_simp
              all_goals with_reducible rfl
            try simp only [Act.put, List.setIfInBounds_toArray, List.set_cons_zero, List.set_cons_succ]
            refine wpAnyH_ready (rs := [19]) (by kernel_rfl) (by simp) (AllReadyH.cons (o := ?oq_1_43_19) ?op_1_43_19 (fun K hK => ?re_1_43_19) AllReadyH.nil)
            case op_1_43_19 => (simp only [List.getElem?_toArray, List.getElem?_cons_succ, List.getElem?_cons_zero]; rfl)
            case re_1_43_19 =>
              go_simp
              refine hK.out _ _ trivial (fun hHeld => ?_)
              clear hK K
              try simp only [Act.put, List.setIfInBounds_toArray, List.set_cons_zero, List.set_cons_succ]
              refine wpAnyH_done (by kernel_rfl) ?_ _
              refine NoPanic.normal ?_
              have hown7z := hown7
              have e : k + (L.length - r) = L.length - 1 := by have := HR.out; omega
              have hO7 : MsgsO B w0 w7 (.slice A5 (k + (L.length - r)) cap5) (L.eraseIdx k) := MsgsO.erase hS1 hS3 h28 hlt (by rw [← e, ← HR.out]; exact hown7z)
              have hQ7 := QNetAt.put0 hBb hbk7 hO7
              have hown7k : ∀ j, (Value.slice A4 k cap4).ownBlock = some j → z2.heap.size ≤ j := fun j hj => by
                rcases hn6 j hj with h1 | h1
                · simp only [Value.ownBlock, Option.some.injEq] at h1
                  subst h1
                  exact Nat.le_refl _
                · have h2 : z2.heap.size ≤ (z2.drew.alloc (.cells #[] 40)).heap.size := hal.size
                  exact Nat.le_trans h2 h1
              have HK : Hid (NKept z2 (w7.setCell ⟨b, 0, none⟩ (.slice A5 (k + (L.length - r)) cap5)) b none) := Lib.hid (NKept.trans (w' := w7) ⟨hg7.os.trans (hg6.os.trans hal.os), hg7.tape.trans (hg6.tape.trans hal.tape), hg7.output.trans (hg6.output.trans hal.output), Nat.le_trans hal.size (Nat.le_trans hg6.size hg7.size), fun j hj h1 _ => by
                have hjE : j < (z2.drew.alloc (.cells #[] 40)).heap.size := Nat.lt_of_lt_of_le hj hal.size
                rw [hg7.block j (Nat.lt_of_lt_of_le hjE hg6.size) (fun e => by have := hown7k j e.symm; omega), hg6.block j hjE (fun e => by simp only [Value.ownBlock, Option.some.injEq] at e; subst e; exact Nat.lt_irrefl _ hj)]
                exact hal.block j hj⟩ (NKept.of_grownB (grown_setCell w7 b 0 (.slice A5 (k + (L.length - r)) cap5))))
              have HRN : Hid (∀ j, (Value.slice A5 (k + (L.length - r)) cap5).ownBlock = some j → z2.heap.size ≤ j) := Lib.hid (fun j hj => by
                rcases hn7 j hj with h1 | h1
                · exact hown7k j h1
                · have h2 : z2.heap.size ≤ (z2.drew.alloc (.cells #[] 40)).heap.size := hal.size
                  exact Nat.le_trans (Nat.le_trans h2 hg6.size) h1)
              have HQ := Lib.hid hQ7
              clear hown7 hown7z hO7 hQ7 hown7k hbk7 c7 hf7 hg7 hg6 hn6 hn7 hown6 hS6 hc2 hbk6 c6
              clear hE hSE hbkE hapE hal hc1 hon1 hon2 hS1 hS3 h28 hbk c0 c0d c0a hwq e
              generalize w7.setCell ⟨b, 0, none⟩ (.slice A5 (k + (L.length - r)) cap5) = w8 at *
              have hQ := HQ.out
              have c2 := hQ.cell2
              have hf2 := hQ.free 2
              have hwt : IntKind.i64.wrap (t + 1) = t + 1 := by rw [IntKind.wrap_i64]; omega
              have hDl := hD.lt
              have hM8 := blk_nkept hMB HK.out hmb (by simp)
              have hD8 := blk_nkept hD HK.out hbD.symm (by simp)
              have hk8 : NKept w w8 b (Value.slice (some ⟨g, 0, none⟩) L.length Scap).ownBlock := (NKept.of_below hb).trans ⟨HK.out.os, HK.out.tape, HK.out.output, HK.out.size, fun j hj h1 _ => HK.out.block j hj h1 (by simp)⟩
              have G6 := grown_setCell w8 b 2 (.int .i64 (t + 1))
              have HQ9 := Lib.hid (hQ.set2 (t + 1))
              have HM9 := Lib.hid (hM8.grown G6 hmb)
              have HD9 := Lib.hid (hD8.grown G6 hbD.symm)
              have HK9 := Lib.hid (hk8.trans (NKept.of_grownB G6))
              clear hQ HQ hM8 hD8 hk8 G6 HK hMB hD hb
              go_upto_region 7 with (fail)
              change Code.wp _ _ _ _ (w8.setCell ⟨b, 2, none⟩ (.int .i64 (t + 1)))
              generalize w8.setCell ⟨b, 2, none⟩ (.int .i64 (t + 1)) = w9 at *
              clear c2 hf2 hwt
              have hMY := HM9.out
              have hl2 : cs.length = zs.length := by rw [hcl, hzl]
              have HM2 := Lib.hid (HD9.out.stored (vs := cs) hl2)
              have HT2 := Lib.hid (blk_there2 HD9.out hl2)
              have G := grown_setCells D cs 0 w9
              have hzw : w.heap.size ≤ z2.heap.size := by omega
              have HQ10 := Lib.hid (HQ9.out.nkept (NKept.of_grownB (b := D) (r := none) G) hbD (by simp) (fun e => by have := HRN.out D e.symm; omega) (by
                rcases ho : (Value.slice A5 (k + (L.length - r)) cap5).ownBlock with _ | o
                · exact .inl rfl
                · exact .inr (by simp)))
              have HK10 : Hid (NKept w (w9.setCells D 0 cs) b (Value.slice (some ⟨g, 0, none⟩) L.length Scap).ownBlock) := Lib.hid ⟨G.os.trans HK9.out.os, G.tape.trans HK9.out.tape, G.output.trans HK9.out.output, Nat.le_trans HK9.out.size G.size, fun j hj h1 h2 => (G.block j (Nat.lt_of_lt_of_le hj HK9.out.size) (by simp; omega)).trans (HK9.out.block j hj h1 h2)⟩
              have HA := Lib.hid (hC.2.2.below (NKept.below HK10.out hb0 (Nat.le_trans hBw0 hBb) (fun j hj => Nat.le_trans hBw0 (hrow j hj))))
              have HLN := Lib.hid hcl
              have HRN2 : Hid (RNew w (.slice (some ⟨g, 0, none⟩) L.length Scap) (.slice A5 (k + (L.length - r)) cap5)) := Lib.hid (fun j hj => .inr (Nat.le_trans hzw (HRN.out j hj)))
              clear G hl2 HM9 HD9 HQ9 HK9 HRN hC
              go_wp2_with (first | (refine wpList_load_mid rfl 40 (.tmp 7) rfl m 0 rfl cs _ hMY.range Tryz.underlying40 rfl (by rw [hcl]; exact msg_info) ?_; simp only [Act.put, List.setIfInBounds_toArray, List.set_cons_zero, List.set_cons_succ]) | (refine wpList_store_mid rfl 40 (.tmp 4) (.tmp 47) rfl D 0 cs.toArray rfl rfl (by exact HT2.out) (by rw [List.size_toArray, hcl]; exact msg_info) hcone ?_; rw [List.toList_toArray]))
              all_goals exact bodyPost_ret (v := .tuple #[.agg cs.toArray, .int .i64 0]) (results_msg rfl rfl rfl HM2.out HLN.out) rfl ⟨_, rfl, HA.out, .slice A5 (k + (L.length - r)) cap5, by rw [HTK.out]; exact HQ10.out, HK10.out, HRN2.out⟩
      case re_1_37_12 =>
        go_simp
        refine hK.out _ _ trivial (fun hHeld => ?_)
        clear hK K
        try simp only [Act.put, List.setIfInBounds_toArray, List.set_cons_zero, List.set_cons_succ]
        refine wpAnyH_take (i := 15) (oi := ?oq_1_44_15) (v := ?va_1_44_15) ?op_1_44_15 (by kernel_rfl) (by kernel_rfl) (by kernel_rfl) (fun _ _ _ h => h) ?yi_1_44_15 trivial ?re_1_44_15
        case op_1_44_15 => (simp only [List.getElem?_toArray, List.getElem?_cons_succ, List.getElem?_cons_zero]; rfl)
        case yi_1_44_15 =>
          refine Or.inl ⟨by rfl, ?_⟩
          intro w hSw
          go_simp
          all_goals with_reducible rfl
        try simp only [Act.put, List.setIfInBounds_toArray, List.set_cons_zero, List.set_cons_succ]
        refine wpAnyH_ready (rs := [8]) (by kernel_rfl) (by simp) (AllReadyH.cons (o := ?oq_1_45_8) ?op_1_45_8 (fun K hK => ?re_1_45_8) AllReadyH.nil)
        case op_1_45_8 => (simp only [List.getElem?_toArray, List.getElem?_cons_succ, List.getElem?_cons_zero]; rfl)
        case re_1_45_8 =>
          refine step_append_row (by rfl) _ _ (by rfl) (base := B) (n := 0) (cap := 0) (m := k) (c := Scap) (A := some ⟨z2.drew.heap.size, 0, none⟩) (A2 := some ⟨g, 0, none⟩) (xs := []) (news := css.flatten.take (k * 28)) (by rfl) (by exact hE) (by rfl) hl1 (fun _ => ⟨_, rfl, hc1⟩) hon1 (by omega) hBE ?_
          intro A4 cap4 w6 hown6 hg6 hn6
          rw [Nat.zero_add] at hown6 hn6
          simp only [Nat.zero_add]
          have hS6 := hSE.kept hg6 (.inr fun e => Nat.ne_of_lt hgz (by simpa [Value.ownBlock] using e))
          have hB6 : B ≤ w6.heap.size := Nat.le_trans hBE hg6.size
          have hbk6 := (hg6.block b hblE hapE).trans hbkE
          have c6 := cell_of_row _ _ 0 _ _ _ hbk6
          have hc2 : ∀ j u, (css.flatten.drop (r * 28))[j]? = some u → w6.cell? ((⟨g, r * 28, none⟩ : Addr).add j) = some u := fun j u hj => by
            rw [addr_add]
            have h1 := hS6.cells (g := g) rfl (r * 28 + j) u (by rw [List.getElem?_drop] at hj; exact hj)
            rw [addr_add, Nat.zero_add] at h1
            exact h1
          refine hK.out _ _ trivial (fun hHeld => ?_)
          clear hK K
          try simp only [Act.put, List.setIfInBounds_toArray, List.set_cons_zero, List.set_cons_succ]
          refine wpAnyH_ready (rs := [16]) (by kernel_rfl) (by simp) (AllReadyH.cons (o := ?oq_1_46_16) ?op_1_46_16 (fun K hK => ?re_1_46_16) AllReadyH.nil)
          case op_1_46_16 => (simp only [List.getElem?_toArray, List.getElem?_cons_succ, List.getElem?_cons_zero]; rfl)
          case re_1_46_16 =>
            refine step_append_row (by rfl) _ _ (by rfl) (base := B) (n := k) (cap := cap4) (m := L.length - r) (c := Scap - r) (A := A4) (A2 := if Scap = r then some ⟨g, 0, none⟩ else some ⟨g, r * 28, none⟩) (xs := [] ++ css.flatten.take (k * 28)) (news := css.flatten.drop (r * 28)) (by rfl) (by exact hown6) (by rfl) hl2 (fun hp => ⟨⟨g, r * 28, none⟩, if_neg (by omega), hc2⟩) hon2 (by omega) hB6 ?_
            intro A5 cap5 w7 hown7 hg7 hn7
            have hap6 := own_apartN hbk6 hown6 (by decide)
            have hbk7 := (hg7.block b (Nat.lt_of_lt_of_le hblE hg6.size) hap6).trans hbk6
            have c7 := cell_of_row _ _ 0 _ _ _ hbk7
            have hf7 : w7.frozen? ⟨b, 0, none⟩ = false := by simp [World.frozen?, hbk7]
            refine hK.out _ _ trivial (fun hHeld => ?_)
            clear hK K
            try simp only [Act.put, List.setIfInBounds_toArray, List.set_cons_zero, List.set_cons_succ]
            refine wpAnyH_take (i := 17) (oi := ?oq_1_47_17) (v := ?va_1_47_17) ?op_1_47_17 (by kernel_rfl) (by kernel_rfl) (by kernel_rfl) (fun _ _ _ h => h) ?yi_1_47_17 trivial ?re_1_47_17
            case op_1_47_17 => (simp only [List.getElem?_toArray, List.getElem?_cons_succ, List.getElem?_cons_zero]; rfl)
            case yi_1_47_17 =>
              refine Or.inl ⟨by rfl, ?_⟩
              intro w hSw
              go_simp
              all_goals with_reducible rfl
            try simp only [Act.put, List.setIfInBounds_toArray, List.set_cons_zero, List.set_cons_succ]
            refine wpAnyH_take (i := 18) (oi := ?oq_1_48_18) (v := ?va_1_48_18) ?op_1_48_18 (by kernel_rfl) (by kernel_rfl) (by kernel_rfl) (fun _ _ _ h => h) ?yi_1_48_18 trivial ?re_1_48_18
            case op_1_48_18 => (simp only [List.getElem?_toArray, List.getElem?_cons_succ, List.getElem?_cons_zero]; rfl)
            case yi_1_48_18 =>
              refine Or.inl ⟨by rfl, ?_⟩
              intro w hSw
              go_simp
              all_goals with_reducible rfl
            try simp only [Act.put, List.setIfInBounds_toArray, List.set_cons_zero, List.set_cons_succ]
            refine wpAnyH_ready (rs := [19]) (by kernel_rfl) (by simp) (AllReadyH.cons (o := ?oq_1_49_19) ?op_1_49_19 (fun K hK => ?re_1_49_19) AllReadyH.nil)
            case op_1_49_19 => (simp only [List.getElem?_toArray, List.getElem?_cons_succ, List.getElem?_cons_zero]; rfl)
            case re_1_49_19 =>
              go_simp
              refine hK.out _ _ trivial (fun hHeld => ?_)
              clear hK K
              try simp only [Act.put, List.setIfInBounds_toArray, List.set_cons_zero, List.set_cons_succ]
              refine wpAnyH_done (by kernel_rfl) ?_ _
              refine NoPanic.normal ?_
              have hown7z := hown7
              have e : k + (L.length - r) = L.length - 1 := by have := HR.out; omega
              have hO7 : MsgsO B w0 w7 (.slice A5 (k + (L.length - r)) cap5) (L.eraseIdx k) := MsgsO.erase hS1 hS3 h28 hlt (by rw [← e, ← HR.out]; exact hown7z)
              have hQ7 := QNetAt.put0 hBb hbk7 hO7
              have hown7k : ∀ j, (Value.slice A4 k cap4).ownBlock = some j → z2.heap.size ≤ j := fun j hj => by
                rcases hn6 j hj with h1 | h1
                · simp only [Value.ownBlock, Option.some.injEq] at h1
                  subst h1
                  exact Nat.le_refl _
                · have h2 : z2.heap.size ≤ (z2.drew.alloc (.cells #[] 40)).heap.size := hal.size
                  exact Nat.le_trans h2 h1
              have HK : Hid (NKept z2 (w7.setCell ⟨b, 0, none⟩ (.slice A5 (k + (L.length - r)) cap5)) b none) := Lib.hid (NKept.trans (w' := w7) ⟨hg7.os.trans (hg6.os.trans hal.os), hg7.tape.trans (hg6.tape.trans hal.tape), hg7.output.trans (hg6.output.trans hal.output), Nat.le_trans hal.size (Nat.le_trans hg6.size hg7.size), fun j hj h1 _ => by
                have hjE : j < (z2.drew.alloc (.cells #[] 40)).heap.size := Nat.lt_of_lt_of_le hj hal.size
                rw [hg7.block j (Nat.lt_of_lt_of_le hjE hg6.size) (fun e => by have := hown7k j e.symm; omega), hg6.block j hjE (fun e => by simp only [Value.ownBlock, Option.some.injEq] at e; subst e; exact Nat.lt_irrefl _ hj)]
                exact hal.block j hj⟩ (NKept.of_grownB (grown_setCell w7 b 0 (.slice A5 (k + (L.length - r)) cap5))))
              have HRN : Hid (∀ j, (Value.slice A5 (k + (L.length - r)) cap5).ownBlock = some j → z2.heap.size ≤ j) := Lib.hid (fun j hj => by
                rcases hn7 j hj with h1 | h1
                · exact hown7k j h1
                · have h2 : z2.heap.size ≤ (z2.drew.alloc (.cells #[] 40)).heap.size := hal.size
                  exact Nat.le_trans (Nat.le_trans h2 hg6.size) h1)
              have HQ := Lib.hid hQ7
              clear hown7 hown7z hO7 hQ7 hown7k hbk7 c7 hf7 hg7 hg6 hn6 hn7 hown6 hS6 hc2 hbk6 c6
              clear hE hSE hbkE hapE hal hc1 hon1 hon2 hS1 hS3 h28 hbk c0 c0d c0a hwq e
              generalize w7.setCell ⟨b, 0, none⟩ (.slice A5 (k + (L.length - r)) cap5) = w8 at *
              have hQ := HQ.out
              have c2 := hQ.cell2
              have hf2 := hQ.free 2
              have hwt : IntKind.i64.wrap (t + 1) = t + 1 := by rw [IntKind.wrap_i64]; omega
              have hDl := hD.lt
              have hM8 := blk_nkept hMB HK.out hmb (by simp)
              have hD8 := blk_nkept hD HK.out hbD.symm (by simp)
              have hk8 : NKept w w8 b (Value.slice (some ⟨g, 0, none⟩) L.length Scap).ownBlock := (NKept.of_below hb).trans ⟨HK.out.os, HK.out.tape, HK.out.output, HK.out.size, fun j hj h1 _ => HK.out.block j hj h1 (by simp)⟩
              have G6 := grown_setCell w8 b 2 (.int .i64 (t + 1))
              have HQ9 := Lib.hid (hQ.set2 (t + 1))
              have HM9 := Lib.hid (hM8.grown G6 hmb)
              have HD9 := Lib.hid (hD8.grown G6 hbD.symm)
              have HK9 := Lib.hid (hk8.trans (NKept.of_grownB G6))
              clear hQ HQ hM8 hD8 hk8 G6 HK hMB hD hb
              go_upto_region 7 with (fail)
              change Code.wp _ _ _ _ (w8.setCell ⟨b, 2, none⟩ (.int .i64 (t + 1)))
              generalize w8.setCell ⟨b, 2, none⟩ (.int .i64 (t + 1)) = w9 at *
              clear c2 hf2 hwt
              have hMY := HM9.out
              have hl2 : cs.length = zs.length := by rw [hcl, hzl]
              have HM2 := Lib.hid (HD9.out.stored (vs := cs) hl2)
              have HT2 := Lib.hid (blk_there2 HD9.out hl2)
              have G := grown_setCells D cs 0 w9
              have hzw : w.heap.size ≤ z2.heap.size := by omega
              have HQ10 := Lib.hid (HQ9.out.nkept (NKept.of_grownB (b := D) (r := none) G) hbD (by simp) (fun e => by have := HRN.out D e.symm; omega) (by
                rcases ho : (Value.slice A5 (k + (L.length - r)) cap5).ownBlock with _ | o
                · exact .inl rfl
                · exact .inr (by simp)))
              have HK10 : Hid (NKept w (w9.setCells D 0 cs) b (Value.slice (some ⟨g, 0, none⟩) L.length Scap).ownBlock) := Lib.hid ⟨G.os.trans HK9.out.os, G.tape.trans HK9.out.tape, G.output.trans HK9.out.output, Nat.le_trans HK9.out.size G.size, fun j hj h1 h2 => (G.block j (Nat.lt_of_lt_of_le hj HK9.out.size) (by simp; omega)).trans (HK9.out.block j hj h1 h2)⟩
              have HA := Lib.hid (hC.2.2.below (NKept.below HK10.out hb0 (Nat.le_trans hBw0 hBb) (fun j hj => Nat.le_trans hBw0 (hrow j hj))))
              have HLN := Lib.hid hcl
              have HRN2 : Hid (RNew w (.slice (some ⟨g, 0, none⟩) L.length Scap) (.slice A5 (k + (L.length - r)) cap5)) := Lib.hid (fun j hj => .inr (Nat.le_trans hzw (HRN.out j hj)))
              clear G hl2 HM9 HD9 HQ9 HK9 HRN hC
              go_wp2_with (first | (refine wpList_load_mid rfl 40 (.tmp 7) rfl m 0 rfl cs _ hMY.range Tryz.underlying40 rfl (by rw [hcl]; exact msg_info) ?_; simp only [Act.put, List.setIfInBounds_toArray, List.set_cons_zero, List.set_cons_succ]) | (refine wpList_store_mid rfl 40 (.tmp 4) (.tmp 47) rfl D 0 cs.toArray rfl rfl (by exact HT2.out) (by rw [List.size_toArray, hcl]; exact msg_info) hcone ?_; rw [List.toList_toArray]))
              all_goals exact bodyPost_ret (v := .tuple #[.agg cs.toArray, .int .i64 0]) (results_msg rfl rfl rfl HM2.out HLN.out) rfl ⟨_, rfl, HA.out, .slice A5 (k + (L.length - r)) cap5, by rw [HTK.out]; exact HQ10.out, HK10.out, HRN2.out⟩
    case re_1_36_12 =>
      go_simp
      refine hK.out _ _ trivial (fun hHeld => ?_)
      clear hK K
      try simp only [Act.put, List.setIfInBounds_toArray, List.set_cons_zero, List.set_cons_succ]
      refine wpAnyH_take (i := 15) (oi := ?oq_1_50_15) (v := ?va_1_50_15) ?op_1_50_15 (by kernel_rfl) (by kernel_rfl) (by kernel_rfl) (fun _ _ _ h => h) ?yi_1_50_15 trivial ?re_1_50_15
      case op_1_50_15 => (simp only [List.getElem?_toArray, List.getElem?_cons_succ, List.getElem?_cons_zero]; rfl)
      case yi_1_50_15 =>
        refine Or.inl ⟨by rfl, ?_⟩
        intro w hSw
        go_simp
        all_goals with_reducible rfl
      try simp only [Act.put, List.setIfInBounds_toArray, List.set_cons_zero, List.set_cons_succ]
      refine wpAnyH_ready (rs := [1]) (by kernel_rfl) (by simp) (AllReadyH.cons (o := ?oq_1_51_1) ?op_1_51_1 (fun K hK => ?re_1_51_1) AllReadyH.nil)
      case op_1_51_1 => (simp only [List.getElem?_toArray, List.getElem?_cons_succ, List.getElem?_cons_zero]; rfl)
      case re_1_51_1 =>
        go_simp
        refine hK.out _ _ trivial (fun hHeld => ?_)
        clear hK K
        try simp only [Act.put, List.setIfInBounds_toArray, List.set_cons_zero, List.set_cons_succ]
        refine wpAnyH_ready (rs := [8]) (by kernel_rfl) (by simp) (AllReadyH.cons (o := ?oq_1_52_8) ?op_1_52_8 (fun K hK => ?re_1_52_8) AllReadyH.nil)
        case op_1_52_8 => (simp only [List.getElem?_toArray, List.getElem?_cons_succ, List.getElem?_cons_zero]; rfl)
        case re_1_52_8 =>
          refine step_append_row (by rfl) _ _ (by rfl) (base := B) (n := 0) (cap := 0) (m := k) (c := Scap) (A := some ⟨z2.drew.heap.size, 0, none⟩) (A2 := some ⟨g, 0, none⟩) (xs := []) (news := css.flatten.take (k * 28)) (by rfl) (by exact hE) (by rfl) hl1 (fun _ => ⟨_, rfl, hc1⟩) hon1 (by omega) hBE ?_
          intro A4 cap4 w6 hown6 hg6 hn6
          rw [Nat.zero_add] at hown6 hn6
          simp only [Nat.zero_add]
          have hS6 := hSE.kept hg6 (.inr fun e => Nat.ne_of_lt hgz (by simpa [Value.ownBlock] using e))
          have hB6 : B ≤ w6.heap.size := Nat.le_trans hBE hg6.size
          have hbk6 := (hg6.block b hblE hapE).trans hbkE
          have c6 := cell_of_row _ _ 0 _ _ _ hbk6
          have hc2 : ∀ j u, (css.flatten.drop (r * 28))[j]? = some u → w6.cell? ((⟨g, r * 28, none⟩ : Addr).add j) = some u := fun j u hj => by
            rw [addr_add]
            have h1 := hS6.cells (g := g) rfl (r * 28 + j) u (by rw [List.getElem?_drop] at hj; exact hj)
            rw [addr_add, Nat.zero_add] at h1
            exact h1
          refine hK.out _ _ trivial (fun hHeld => ?_)
          clear hK K
          try simp only [Act.put, List.setIfInBounds_toArray, List.set_cons_zero, List.set_cons_succ]
          refine wpAnyH_ready (rs := [16]) (by kernel_rfl) (by simp) (AllReadyH.cons (o := ?oq_1_53_16) ?op_1_53_16 (fun K hK => ?re_1_53_16) AllReadyH.nil)
          case op_1_53_16 => (simp only [List.getElem?_toArray, List.getElem?_cons_succ, List.getElem?_cons_zero]; rfl)
          case re_1_53_16 =>
            refine step_append_row (by rfl) _ _ (by rfl) (base := B) (n := k) (cap := cap4) (m := L.length - r) (c := Scap - r) (A := A4) (A2 := if Scap = r then some ⟨g, 0, none⟩ else some ⟨g, r * 28, none⟩) (xs := [] ++ css.flatten.take (k * 28)) (news := css.flatten.drop (r * 28)) (by rfl) (by exact hown6) (by rfl) hl2 (fun hp => ⟨⟨g, r * 28, none⟩, if_neg (by omega), hc2⟩) hon2 (by omega) hB6 ?_
            intro A5 cap5 w7 hown7 hg7 hn7
            have hap6 := own_apartN hbk6 hown6 (by decide)
            have hbk7 := (hg7.block b (Nat.lt_of_lt_of_le hblE hg6.size) hap6).trans hbk6
            have c7 := cell_of_row _ _ 0 _ _ _ hbk7
            have hf7 : w7.frozen? ⟨b, 0, none⟩ = false := by simp [World.frozen?, hbk7]
            refine hK.out _ _ trivial (fun hHeld => ?_)
            clear hK K
            try simp only [Act.put, List.setIfInBounds_toArray, List.set_cons_zero, List.set_cons_succ]
            refine wpAnyH_take (i := 17) (oi := ?oq_1_54_17) (v := ?va_1_54_17) ?op_1_54_17 (by kernel_rfl) (by kernel_rfl) (by kernel_rfl) (fun _ _ _ h => h) ?yi_1_54_17 trivial ?re_1_54_17
            case op_1_54_17 => (simp only [List.getElem?_toArray, List.getElem?_cons_succ, List.getElem?_cons_zero]; rfl)
            case yi_1_54_17 =>
              refine Or.inl ⟨by rfl, ?_⟩
              intro w hSw
              go_simp
              all_goals with_reducible rfl
            try simp only [Act.put, List.setIfInBounds_toArray, List.set_cons_zero, List.set_cons_succ]
            refine wpAnyH_take (i := 18) (oi := ?oq_1_55_18) (v := ?va_1_55_18) ?op_1_55_18 (by kernel_rfl) (by kernel_rfl) (by kernel_rfl) (fun _ _ _ h => h) ?yi_1_55_18 trivial ?re_1_55_18
            case op_1_55_18 => (simp only [List.getElem?_toArray, List.getElem?_cons_succ, List.getElem?_cons_zero]; rfl)
            case yi_1_55_18 =>
              refine Or.inl ⟨by rfl, ?_⟩
              intro w hSw
              go_simp
              all_goals with_reducible rfl
            try simp only [Act.put, List.setIfInBounds_toArray, List.set_cons_zero, List.set_cons_succ]
            refine wpAnyH_ready (rs := [19]) (by kernel_rfl) (by simp) (AllReadyH.cons (o := ?oq_1_56_19) ?op_1_56_19 (fun K hK => ?re_1_56_19) AllReadyH.nil)
            case op_1_56_19 => (simp only [List.getElem?_toArray, List.getElem?_cons_succ, List.getElem?_cons_zero]; rfl)
            case re_1_56_19 =>
              go_simp
              refine hK.out _ _ trivial (fun hHeld => ?_)
              clear hK K
              try simp only [Act.put, List.setIfInBounds_toArray, List.set_cons_zero, List.set_cons_succ]
              refine wpAnyH_done (by kernel_rfl) ?_ _
              refine NoPanic.normal ?_
              have hown7z := hown7
              have e : k + (L.length - r) = L.length - 1 := by have := HR.out; omega
              have hO7 : MsgsO B w0 w7 (.slice A5 (k + (L.length - r)) cap5) (L.eraseIdx k) := MsgsO.erase hS1 hS3 h28 hlt (by rw [← e, ← HR.out]; exact hown7z)
              have hQ7 := QNetAt.put0 hBb hbk7 hO7
              have hown7k : ∀ j, (Value.slice A4 k cap4).ownBlock = some j → z2.heap.size ≤ j := fun j hj => by
                rcases hn6 j hj with h1 | h1
                · simp only [Value.ownBlock, Option.some.injEq] at h1
                  subst h1
                  exact Nat.le_refl _
                · have h2 : z2.heap.size ≤ (z2.drew.alloc (.cells #[] 40)).heap.size := hal.size
                  exact Nat.le_trans h2 h1
              have HK : Hid (NKept z2 (w7.setCell ⟨b, 0, none⟩ (.slice A5 (k + (L.length - r)) cap5)) b none) := Lib.hid (NKept.trans (w' := w7) ⟨hg7.os.trans (hg6.os.trans hal.os), hg7.tape.trans (hg6.tape.trans hal.tape), hg7.output.trans (hg6.output.trans hal.output), Nat.le_trans hal.size (Nat.le_trans hg6.size hg7.size), fun j hj h1 _ => by
                have hjE : j < (z2.drew.alloc (.cells #[] 40)).heap.size := Nat.lt_of_lt_of_le hj hal.size
                rw [hg7.block j (Nat.lt_of_lt_of_le hjE hg6.size) (fun e => by have := hown7k j e.symm; omega), hg6.block j hjE (fun e => by simp only [Value.ownBlock, Option.some.injEq] at e; subst e; exact Nat.lt_irrefl _ hj)]
                exact hal.block j hj⟩ (NKept.of_grownB (grown_setCell w7 b 0 (.slice A5 (k + (L.length - r)) cap5))))
              have HRN : Hid (∀ j, (Value.slice A5 (k + (L.length - r)) cap5).ownBlock = some j → z2.heap.size ≤ j) := Lib.hid (fun j hj => by
                rcases hn7 j hj with h1 | h1
                · exact hown7k j h1
                · have h2 : z2.heap.size ≤ (z2.drew.alloc (.cells #[] 40)).heap.size := hal.size
                  exact Nat.le_trans (Nat.le_trans h2 hg6.size) h1)
              have HQ := Lib.hid hQ7
              clear hown7 hown7z hO7 hQ7 hown7k hbk7 c7 hf7 hg7 hg6 hn6 hn7 hown6 hS6 hc2 hbk6 c6
              clear hE hSE hbkE hapE hal hc1 hon1 hon2 hS1 hS3 h28 hbk c0 c0d c0a hwq e
              generalize w7.setCell ⟨b, 0, none⟩ (.slice A5 (k + (L.length - r)) cap5) = w8 at *
              have hQ := HQ.out
              have c2 := hQ.cell2
              have hf2 := hQ.free 2
              have hwt : IntKind.i64.wrap (t + 1) = t + 1 := by rw [IntKind.wrap_i64]; omega
              have hDl := hD.lt
              have hM8 := blk_nkept hMB HK.out hmb (by simp)
              have hD8 := blk_nkept hD HK.out hbD.symm (by simp)
              have hk8 : NKept w w8 b (Value.slice (some ⟨g, 0, none⟩) L.length Scap).ownBlock := (NKept.of_below hb).trans ⟨HK.out.os, HK.out.tape, HK.out.output, HK.out.size, fun j hj h1 _ => HK.out.block j hj h1 (by simp)⟩
              have G6 := grown_setCell w8 b 2 (.int .i64 (t + 1))
              have HQ9 := Lib.hid (hQ.set2 (t + 1))
              have HM9 := Lib.hid (hM8.grown G6 hmb)
              have HD9 := Lib.hid (hD8.grown G6 hbD.symm)
              have HK9 := Lib.hid (hk8.trans (NKept.of_grownB G6))
              clear hQ HQ hM8 hD8 hk8 G6 HK hMB hD hb
              go_upto_region 7 with (fail)
              change Code.wp _ _ _ _ (w8.setCell ⟨b, 2, none⟩ (.int .i64 (t + 1)))
              generalize w8.setCell ⟨b, 2, none⟩ (.int .i64 (t + 1)) = w9 at *
              clear c2 hf2 hwt
              have hMY := HM9.out
              have hl2 : cs.length = zs.length := by rw [hcl, hzl]
              have HM2 := Lib.hid (HD9.out.stored (vs := cs) hl2)
              have HT2 := Lib.hid (blk_there2 HD9.out hl2)
              have G := grown_setCells D cs 0 w9
              have hzw : w.heap.size ≤ z2.heap.size := by omega
              have HQ10 := Lib.hid (HQ9.out.nkept (NKept.of_grownB (b := D) (r := none) G) hbD (by simp) (fun e => by have := HRN.out D e.symm; omega) (by
                rcases ho : (Value.slice A5 (k + (L.length - r)) cap5).ownBlock with _ | o
                · exact .inl rfl
                · exact .inr (by simp)))
              have HK10 : Hid (NKept w (w9.setCells D 0 cs) b (Value.slice (some ⟨g, 0, none⟩) L.length Scap).ownBlock) := Lib.hid ⟨G.os.trans HK9.out.os, G.tape.trans HK9.out.tape, G.output.trans HK9.out.output, Nat.le_trans HK9.out.size G.size, fun j hj h1 h2 => (G.block j (Nat.lt_of_lt_of_le hj HK9.out.size) (by simp; omega)).trans (HK9.out.block j hj h1 h2)⟩
              have HA := Lib.hid (hC.2.2.below (NKept.below HK10.out hb0 (Nat.le_trans hBw0 hBb) (fun j hj => Nat.le_trans hBw0 (hrow j hj))))
              have HLN := Lib.hid hcl
              have HRN2 : Hid (RNew w (.slice (some ⟨g, 0, none⟩) L.length Scap) (.slice A5 (k + (L.length - r)) cap5)) := Lib.hid (fun j hj => .inr (Nat.le_trans hzw (HRN.out j hj)))
              clear G hl2 HM9 HD9 HQ9 HK9 HRN hC
              go_wp2_with (first | (refine wpList_load_mid rfl 40 (.tmp 7) rfl m 0 rfl cs _ hMY.range Tryz.underlying40 rfl (by rw [hcl]; exact msg_info) ?_; simp only [Act.put, List.setIfInBounds_toArray, List.set_cons_zero, List.set_cons_succ]) | (refine wpList_store_mid rfl 40 (.tmp 4) (.tmp 47) rfl D 0 cs.toArray rfl rfl (by exact HT2.out) (by rw [List.size_toArray, hcl]; exact msg_info) hcone ?_; rw [List.toList_toArray]))
              all_goals exact bodyPost_ret (v := .tuple #[.agg cs.toArray, .int .i64 0]) (results_msg rfl rfl rfl HM2.out HLN.out) rfl ⟨_, rfl, HA.out, .slice A5 (k + (L.length - r)) cap5, by rw [HTK.out]; exact HQ10.out, HK10.out, HRN2.out⟩
  case re_1_11_12 =>
    go_simp
    refine hK.out _ _ trivial (fun hHeld => ?_)
    clear hK K
    try simp only [Act.put, List.setIfInBounds_toArray, List.set_cons_zero, List.set_cons_succ]
    refine wpAnyH_take (i := 15) (oi := ?oq_1_57_15) (v := ?va_1_57_15) ?op_1_57_15 (by kernel_rfl) (by kernel_rfl) (by kernel_rfl) (fun _ _ _ h => h) ?yi_1_57_15 trivial ?re_1_57_15
    case op_1_57_15 => (simp only [List.getElem?_toArray, List.getElem?_cons_succ, List.getElem?_cons_zero]; rfl)
    case yi_1_57_15 =>
      refine Or.inl ⟨by rfl, ?_⟩
      intro w hSw
      go_simp
      all_goals with_reducible rfl
    try simp only [Act.put, List.setIfInBounds_toArray, List.set_cons_zero, List.set_cons_succ]
    refine wpAnyH_ready (rs := [1, 5]) (by kernel_rfl) (by simp) (AllReadyH.cons (o := ?oq_1_58_1) ?op_1_58_1 (fun K hK => ?re_1_58_1) (AllReadyH.cons (o := ?oq_1_58_5) ?op_1_58_5 (fun K hK => ?re_1_58_5) AllReadyH.nil))
    case op_1_58_1 => (simp only [List.getElem?_toArray, List.getElem?_cons_succ, List.getElem?_cons_zero]; rfl)
    case op_1_58_5 => (simp only [List.getElem?_toArray, List.getElem?_cons_succ, List.getElem?_cons_zero]; rfl)
    case re_1_58_1 =>
      go_simp
      refine hK.out _ _ trivial (fun hHeld => ?_)
      clear hK K
      try simp only [Act.put, List.setIfInBounds_toArray, List.set_cons_zero, List.set_cons_succ]
      refine wpAnyH_ready (rs := [5]) (by kernel_rfl) (by simp) (AllReadyH.cons (o := ?oq_1_59_5) ?op_1_59_5 (fun K hK => ?re_1_59_5) AllReadyH.nil)
      case op_1_59_5 => (simp only [List.getElem?_toArray, List.getElem?_cons_succ, List.getElem?_cons_zero]; rfl)
      case re_1_59_5 =>
        go_simp
        refine hK.out _ _ trivial (fun hHeld => ?_)
        clear hK K
        try simp only [Act.put, List.setIfInBounds_toArray, List.set_cons_zero, List.set_cons_succ]
        refine wpAnyH_take (i := 7) (oi := ?oq_1_60_7) (v := ?va_1_60_7) ?op_1_60_7 (by kernel_rfl) (by kernel_rfl) (by kernel_rfl) (fun _ _ _ h => h) ?yi_1_60_7 trivial ?re_1_60_7
        case op_1_60_7 => (simp only [List.getElem?_toArray, List.getElem?_cons_succ, List.getElem?_cons_zero]; rfl)
        case yi_1_60_7 =>
          refine Or.inl ⟨by rfl, ?_⟩
          intro w hSw
          go_simp
          all_goals with_reducible rfl
        try simp only [Act.put, List.setIfInBounds_toArray, List.set_cons_zero, List.set_cons_succ]
        refine wpAnyH_ready (rs := [8]) (by kernel_rfl) (by simp) (AllReadyH.cons (o := ?oq_1_61_8) ?op_1_61_8 (fun K hK => ?re_1_61_8) AllReadyH.nil)
        case op_1_61_8 => (simp only [List.getElem?_toArray, List.getElem?_cons_succ, List.getElem?_cons_zero]; rfl)
        case re_1_61_8 =>
          refine step_append_row (by rfl) _ _ (by rfl) (base := B) (n := 0) (cap := 0) (m := k) (c := Scap) (A := some ⟨z2.drew.heap.size, 0, none⟩) (A2 := some ⟨g, 0, none⟩) (xs := []) (news := css.flatten.take (k * 28)) (by rfl) (by exact hE) (by rfl) hl1 (fun _ => ⟨_, rfl, hc1⟩) hon1 (by omega) hBE ?_
          intro A4 cap4 w6 hown6 hg6 hn6
          rw [Nat.zero_add] at hown6 hn6
          simp only [Nat.zero_add]
          have hS6 := hSE.kept hg6 (.inr fun e => Nat.ne_of_lt hgz (by simpa [Value.ownBlock] using e))
          have hB6 : B ≤ w6.heap.size := Nat.le_trans hBE hg6.size
          have hbk6 := (hg6.block b hblE hapE).trans hbkE
          have c6 := cell_of_row _ _ 0 _ _ _ hbk6
          have hc2 : ∀ j u, (css.flatten.drop (r * 28))[j]? = some u → w6.cell? ((⟨g, r * 28, none⟩ : Addr).add j) = some u := fun j u hj => by
            rw [addr_add]
            have h1 := hS6.cells (g := g) rfl (r * 28 + j) u (by rw [List.getElem?_drop] at hj; exact hj)
            rw [addr_add, Nat.zero_add] at h1
            exact h1
          refine hK.out _ _ trivial (fun hHeld => ?_)
          clear hK K
          try simp only [Act.put, List.setIfInBounds_toArray, List.set_cons_zero, List.set_cons_succ]
          refine wpAnyH_ready (rs := [16]) (by kernel_rfl) (by simp) (AllReadyH.cons (o := ?oq_1_62_16) ?op_1_62_16 (fun K hK => ?re_1_62_16) AllReadyH.nil)
          case op_1_62_16 => (simp only [List.getElem?_toArray, List.getElem?_cons_succ, List.getElem?_cons_zero]; rfl)
          case re_1_62_16 =>
            refine step_append_row (by rfl) _ _ (by rfl) (base := B) (n := k) (cap := cap4) (m := L.length - r) (c := Scap - r) (A := A4) (A2 := if Scap = r then some ⟨g, 0, none⟩ else some ⟨g, r * 28, none⟩) (xs := [] ++ css.flatten.take (k * 28)) (news := css.flatten.drop (r * 28)) (by rfl) (by exact hown6) (by rfl) hl2 (fun hp => ⟨⟨g, r * 28, none⟩, if_neg (by omega), hc2⟩) hon2 (by omega) hB6 ?_
            intro A5 cap5 w7 hown7 hg7 hn7
            have hap6 := own_apartN hbk6 hown6 (by decide)
            have hbk7 := (hg7.block b (Nat.lt_of_lt_of_le hblE hg6.size) hap6).trans hbk6
            have c7 := cell_of_row _ _ 0 _ _ _ hbk7
            have hf7 : w7.frozen? ⟨b, 0, none⟩ = false := by simp [World.frozen?, hbk7]
            refine hK.out _ _ trivial (fun hHeld => ?_)
            clear hK K
            try simp only [Act.put, List.setIfInBounds_toArray, List.set_cons_zero, List.set_cons_succ]
            refine wpAnyH_take (i := 17) (oi := ?oq_1_63_17) (v := ?va_1_63_17) ?op_1_63_17 (by kernel_rfl) (by kernel_rfl) (by kernel_rfl) (fun _ _ _ h => h) ?yi_1_63_17 trivial ?re_1_63_17
            case op_1_63_17 => (simp only [List.getElem?_toArray, List.getElem?_cons_succ, List.getElem?_cons_zero]; rfl)
            case yi_1_63_17 =>
              refine Or.inl ⟨by rfl, ?_⟩
              intro w hSw
              go_simp
              all_goals with_reducible rfl
            try simp only [Act.put, List.setIfInBounds_toArray, List.set_cons_zero, List.set_cons_succ]
            refine wpAnyH_take (i := 18) (oi := ?oq_1_64_18) (v := ?va_1_64_18) ?op_1_64_18 (by kernel_rfl) (by kernel_rfl) (by kernel_rfl) (fun _ _ _ h => h) ?yi_1_64_18 trivial ?re_1_64_18
            case op_1_64_18 => (simp only [List.getElem?_toArray, List.getElem?_cons_succ, List.getElem?_cons_zero]; rfl)
            case yi_1_64_18 =>
              refine Or.inl ⟨by rfl, ?_⟩
              intro w hSw
              go_simp
              all_goals with_reducible rfl
            try simp only [Act.put, List.setIfInBounds_toArray, List.set_cons_zero, List.set_cons_succ]
            refine wpAnyH_ready (rs := [19]) (by kernel_rfl) (by simp) (AllReadyH.cons (o := ?oq_1_65_19) ?op_1_65_19 (fun K hK => ?re_1_65_19) AllReadyH.nil)
            case op_1_65_19 => (simp only [List.getElem?_toArray, List.getElem?_cons_succ, List.getElem?_cons_zero]; rfl)
            case re_1_65_19 =>
              go_simp
              refine hK.out _ _ trivial (fun hHeld => ?_)
              clear hK K
              try simp only [Act.put, List.setIfInBounds_toArray, List.set_cons_zero, List.set_cons_succ]
              refine wpAnyH_done (by kernel_rfl) ?_ _
              refine NoPanic.normal ?_
              have hown7z := hown7
              have e : k + (L.length - r) = L.length - 1 := by have := HR.out; omega
              have hO7 : MsgsO B w0 w7 (.slice A5 (k + (L.length - r)) cap5) (L.eraseIdx k) := MsgsO.erase hS1 hS3 h28 hlt (by rw [← e, ← HR.out]; exact hown7z)
              have hQ7 := QNetAt.put0 hBb hbk7 hO7
              have hown7k : ∀ j, (Value.slice A4 k cap4).ownBlock = some j → z2.heap.size ≤ j := fun j hj => by
                rcases hn6 j hj with h1 | h1
                · simp only [Value.ownBlock, Option.some.injEq] at h1
                  subst h1
                  exact Nat.le_refl _
                · have h2 : z2.heap.size ≤ (z2.drew.alloc (.cells #[] 40)).heap.size := hal.size
                  exact Nat.le_trans h2 h1
              have HK : Hid (NKept z2 (w7.setCell ⟨b, 0, none⟩ (.slice A5 (k + (L.length - r)) cap5)) b none) := Lib.hid (NKept.trans (w' := w7) ⟨hg7.os.trans (hg6.os.trans hal.os), hg7.tape.trans (hg6.tape.trans hal.tape), hg7.output.trans (hg6.output.trans hal.output), Nat.le_trans hal.size (Nat.le_trans hg6.size hg7.size), fun j hj h1 _ => by
                have hjE : j < (z2.drew.alloc (.cells #[] 40)).heap.size := Nat.lt_of_lt_of_le hj hal.size
                rw [hg7.block j (Nat.lt_of_lt_of_le hjE hg6.size) (fun e => by have := hown7k j e.symm; omega), hg6.block j hjE (fun e => by simp only [Value.ownBlock, Option.some.injEq] at e; subst e; exact Nat.lt_irrefl _ hj)]
                exact hal.block j hj⟩ (NKept.of_grownB (grown_setCell w7 b 0 (.slice A5 (k + (L.length - r)) cap5))))
              have HRN : Hid (∀ j, (Value.slice A5 (k + (L.length - r)) cap5).ownBlock = some j → z2.heap.size ≤ j) := Lib.hid (fun j hj => by
                rcases hn7 j hj with h1 | h1
                · exact hown7k j h1
                · have h2 : z2.heap.size ≤ (z2.drew.alloc (.cells #[] 40)).heap.size := hal.size
                  exact Nat.le_trans (Nat.le_trans h2 hg6.size) h1)
              have HQ := Lib.hid hQ7
              clear hown7 hown7z hO7 hQ7 hown7k hbk7 c7 hf7 hg7 hg6 hn6 hn7 hown6 hS6 hc2 hbk6 c6
              clear hE hSE hbkE hapE hal hc1 hon1 hon2 hS1 hS3 h28 hbk c0 c0d c0a hwq e
              generalize w7.setCell ⟨b, 0, none⟩ (.slice A5 (k + (L.length - r)) cap5) = w8 at *
              have hQ := HQ.out
              have c2 := hQ.cell2
              have hf2 := hQ.free 2
              have hwt : IntKind.i64.wrap (t + 1) = t + 1 := by rw [IntKind.wrap_i64]; omega
              have hDl := hD.lt
              have hM8 := blk_nkept hMB HK.out hmb (by simp)
              have hD8 := blk_nkept hD HK.out hbD.symm (by simp)
              have hk8 : NKept w w8 b (Value.slice (some ⟨g, 0, none⟩) L.length Scap).ownBlock := (NKept.of_below hb).trans ⟨HK.out.os, HK.out.tape, HK.out.output, HK.out.size, fun j hj h1 _ => HK.out.block j hj h1 (by simp)⟩
              have G6 := grown_setCell w8 b 2 (.int .i64 (t + 1))
              have HQ9 := Lib.hid (hQ.set2 (t + 1))
              have HM9 := Lib.hid (hM8.grown G6 hmb)
              have HD9 := Lib.hid (hD8.grown G6 hbD.symm)
              have HK9 := Lib.hid (hk8.trans (NKept.of_grownB G6))
              clear hQ HQ hM8 hD8 hk8 G6 HK hMB hD hb
              go_upto_region 7 with (fail)
              change Code.wp _ _ _ _ (w8.setCell ⟨b, 2, none⟩ (.int .i64 (t + 1)))
              generalize w8.setCell ⟨b, 2, none⟩ (.int .i64 (t + 1)) = w9 at *
              clear c2 hf2 hwt
              have hMY := HM9.out
              have hl2 : cs.length = zs.length := by rw [hcl, hzl]
              have HM2 := Lib.hid (HD9.out.stored (vs := cs) hl2)
              have HT2 := Lib.hid (blk_there2 HD9.out hl2)
              have G := grown_setCells D cs 0 w9
              have hzw : w.heap.size ≤ z2.heap.size := by omega
              have HQ10 := Lib.hid (HQ9.out.nkept (NKept.of_grownB (b := D) (r := none) G) hbD (by simp) (fun e => by have := HRN.out D e.symm; omega) (by
                rcases ho : (Value.slice A5 (k + (L.length - r)) cap5).ownBlock with _ | o
                · exact .inl rfl
                · exact .inr (by simp)))
              have HK10 : Hid (NKept w (w9.setCells D 0 cs) b (Value.slice (some ⟨g, 0, none⟩) L.length Scap).ownBlock) := Lib.hid ⟨G.os.trans HK9.out.os, G.tape.trans HK9.out.tape, G.output.trans HK9.out.output, Nat.le_trans HK9.out.size G.size, fun j hj h1 h2 => (G.block j (Nat.lt_of_lt_of_le hj HK9.out.size) (by simp; omega)).trans (HK9.out.block j hj h1 h2)⟩
              have HA := Lib.hid (hC.2.2.below (NKept.below HK10.out hb0 (Nat.le_trans hBw0 hBb) (fun j hj => Nat.le_trans hBw0 (hrow j hj))))
              have HLN := Lib.hid hcl
              have HRN2 : Hid (RNew w (.slice (some ⟨g, 0, none⟩) L.length Scap) (.slice A5 (k + (L.length - r)) cap5)) := Lib.hid (fun j hj => .inr (Nat.le_trans hzw (HRN.out j hj)))
              clear G hl2 HM9 HD9 HQ9 HK9 HRN hC
              go_wp2_with (first | (refine wpList_load_mid rfl 40 (.tmp 7) rfl m 0 rfl cs _ hMY.range Tryz.underlying40 rfl (by rw [hcl]; exact msg_info) ?_; simp only [Act.put, List.setIfInBounds_toArray, List.set_cons_zero, List.set_cons_succ]) | (refine wpList_store_mid rfl 40 (.tmp 4) (.tmp 47) rfl D 0 cs.toArray rfl rfl (by exact HT2.out) (by rw [List.size_toArray, hcl]; exact msg_info) hcone ?_; rw [List.toList_toArray]))
              all_goals exact bodyPost_ret (v := .tuple #[.agg cs.toArray, .int .i64 0]) (results_msg rfl rfl rfl HM2.out HLN.out) rfl ⟨_, rfl, HA.out, .slice A5 (k + (L.length - r)) cap5, by rw [HTK.out]; exact HQ10.out, HK10.out, HRN2.out⟩
    case re_1_58_5 =>
      go_simp
      refine hK.out _ _ trivial (fun hHeld => ?_)
      clear hK K
      try simp only [Act.put, List.setIfInBounds_toArray, List.set_cons_zero, List.set_cons_succ]
      refine wpAnyH_take (i := 7) (oi := ?oq_1_66_7) (v := ?va_1_66_7) ?op_1_66_7 (by kernel_rfl) (by kernel_rfl) (by kernel_rfl) (fun _ _ _ h => h) ?yi_1_66_7 trivial ?re_1_66_7
      case op_1_66_7 => (simp only [List.getElem?_toArray, List.getElem?_cons_succ, List.getElem?_cons_zero]; rfl)
      case yi_1_66_7 =>
        refine Or.inl ⟨by rfl, ?_⟩
        intro w hSw
        go_simp
        all_goals with_reducible rfl
      try simp only [Act.put, List.setIfInBounds_toArray, List.set_cons_zero, List.set_cons_succ]
      refine wpAnyH_ready (rs := [1]) (by kernel_rfl) (by simp) (AllReadyH.cons (o := ?oq_1_67_1) ?op_1_67_1 (fun K hK => ?re_1_67_1) AllReadyH.nil)
      case op_1_67_1 => (simp only [List.getElem?_toArray, List.getElem?_cons_succ, List.getElem?_cons_zero]; rfl)
      case re_1_67_1 =>
        go_simp
        refine hK.out _ _ trivial (fun hHeld => ?_)
        clear hK K
        try simp only [Act.put, List.setIfInBounds_toArray, List.set_cons_zero, List.set_cons_succ]
        refine wpAnyH_ready (rs := [8]) (by kernel_rfl) (by simp) (AllReadyH.cons (o := ?oq_1_68_8) ?op_1_68_8 (fun K hK => ?re_1_68_8) AllReadyH.nil)
        case op_1_68_8 => (simp only [List.getElem?_toArray, List.getElem?_cons_succ, List.getElem?_cons_zero]; rfl)
        case re_1_68_8 =>
          refine step_append_row (by rfl) _ _ (by rfl) (base := B) (n := 0) (cap := 0) (m := k) (c := Scap) (A := some ⟨z2.drew.heap.size, 0, none⟩) (A2 := some ⟨g, 0, none⟩) (xs := []) (news := css.flatten.take (k * 28)) (by rfl) (by exact hE) (by rfl) hl1 (fun _ => ⟨_, rfl, hc1⟩) hon1 (by omega) hBE ?_
          intro A4 cap4 w6 hown6 hg6 hn6
          rw [Nat.zero_add] at hown6 hn6
          simp only [Nat.zero_add]
          have hS6 := hSE.kept hg6 (.inr fun e => Nat.ne_of_lt hgz (by simpa [Value.ownBlock] using e))
          have hB6 : B ≤ w6.heap.size := Nat.le_trans hBE hg6.size
          have hbk6 := (hg6.block b hblE hapE).trans hbkE
          have c6 := cell_of_row _ _ 0 _ _ _ hbk6
          have hc2 : ∀ j u, (css.flatten.drop (r * 28))[j]? = some u → w6.cell? ((⟨g, r * 28, none⟩ : Addr).add j) = some u := fun j u hj => by
            rw [addr_add]
            have h1 := hS6.cells (g := g) rfl (r * 28 + j) u (by rw [List.getElem?_drop] at hj; exact hj)
            rw [addr_add, Nat.zero_add] at h1
            exact h1
          refine hK.out _ _ trivial (fun hHeld => ?_)
          clear hK K
          try simp only [Act.put, List.setIfInBounds_toArray, List.set_cons_zero, List.set_cons_succ]
          refine wpAnyH_ready (rs := [16]) (by kernel_rfl) (by simp) (AllReadyH.cons (o := ?oq_1_69_16) ?op_1_69_16 (fun K hK => ?re_1_69_16) AllReadyH.nil)
          case op_1_69_16 => (simp only [List.getElem?_toArray, List.getElem?_cons_succ, List.getElem?_cons_zero]; rfl)
          case re_1_69_16 =>
            refine step_append_row (by rfl) _ _ (by rfl) (base := B) (n := k) (cap := cap4) (m := L.length - r) (c := Scap - r) (A := A4) (A2 := if Scap = r then some ⟨g, 0, none⟩ else some ⟨g, r * 28, none⟩) (xs := [] ++ css.flatten.take (k * 28)) (news := css.flatten.drop (r * 28)) (by rfl) (by exact hown6) (by rfl) hl2 (fun hp => ⟨⟨g, r * 28, none⟩, if_neg (by omega), hc2⟩) hon2 (by omega) hB6 ?_
            intro A5 cap5 w7 hown7 hg7 hn7
            have hap6 := own_apartN hbk6 hown6 (by decide)
            have hbk7 := (hg7.block b (Nat.lt_of_lt_of_le hblE hg6.size) hap6).trans hbk6
            have c7 := cell_of_row _ _ 0 _ _ _ hbk7
            have hf7 : w7.frozen? ⟨b, 0, none⟩ = false := by simp [World.frozen?, hbk7]
            refine hK.out _ _ trivial (fun hHeld => ?_)
            clear hK K
            try simp only [Act.put, List.setIfInBounds_toArray, List.set_cons_zero, List.set_cons_succ]
            refine wpAnyH_take (i := 17) (oi := ?oq_1_70_17) (v := ?va_1_70_17) ?op_1_70_17 (by kernel_rfl) (by kernel_rfl) (by kernel_rfl) (fun _ _ _ h => h) ?yi_1_70_17 trivial ?re_1_70_17
            case op_1_70_17 => (simp only [List.getElem?_toArray, List.getElem?_cons_succ, List.getElem?_cons_zero]; rfl)
            case yi_1_70_17 =>
              refine Or.inl ⟨by rfl, ?_⟩
              intro w hSw
              go_simp
              all_goals with_reducible rfl
            try simp only [Act.put, List.setIfInBounds_toArray, List.set_cons_zero, List.set_cons_succ]
            refine wpAnyH_take (i := 18) (oi := ?oq_1_71_18) (v := ?va_1_71_18) ?op_1_71_18 (by kernel_rfl) (by kernel_rfl) (by kernel_rfl) (fun _ _ _ h => h) ?yi_1_71_18 trivial ?re_1_71_18
            case op_1_71_18 => (simp only [List.getElem?_toArray, List.getElem?_cons_succ, List.getElem?_cons_zero]; rfl)
            case yi_1_71_18 =>
              refine Or.inl ⟨by rfl, ?_⟩
              intro w hSw
              go_simp
              all_goals with_reducible rfl
            try simp only [Act.put, List.setIfInBounds_toArray, List.set_cons_zero, List.set_cons_succ]
            refine wpAnyH_ready (rs := [19]) (by kernel_rfl) (by simp) (AllReadyH.cons (o := ?oq_1_72_19) ?op_1_72_19 (fun K hK => ?re_1_72_19) AllReadyH.nil)
            case op_1_72_19 => (simp only [List.getElem?_toArray, List.getElem?_cons_succ, List.getElem?_cons_zero]; rfl)
            case re_1_72_19 =>
              go_simp
              refine hK.out _ _ trivial (fun hHeld => ?_)
              clear hK K
              try simp only [Act.put, List.setIfInBounds_toArray, List.set_cons_zero, List.set_cons_succ]
              refine wpAnyH_done (by kernel_rfl) ?_ _
              refine NoPanic.normal ?_
              have hown7z := hown7
              have e : k + (L.length - r) = L.length - 1 := by have := HR.out; omega
              have hO7 : MsgsO B w0 w7 (.slice A5 (k + (L.length - r)) cap5) (L.eraseIdx k) := MsgsO.erase hS1 hS3 h28 hlt (by rw [← e, ← HR.out]; exact hown7z)
              have hQ7 := QNetAt.put0 hBb hbk7 hO7
              have hown7k : ∀ j, (Value.slice A4 k cap4).ownBlock = some j → z2.heap.size ≤ j := fun j hj => by
                rcases hn6 j hj with h1 | h1
                · simp only [Value.ownBlock, Option.some.injEq] at h1
                  subst h1
                  exact Nat.le_refl _
                · have h2 : z2.heap.size ≤ (z2.drew.alloc (.cells #[] 40)).heap.size := hal.size
                  exact Nat.le_trans h2 h1
              have HK : Hid (NKept z2 (w7.setCell ⟨b, 0, none⟩ (.slice A5 (k + (L.length - r)) cap5)) b none) := Lib.hid (NKept.trans (w' := w7) ⟨hg7.os.trans (hg6.os.trans hal.os), hg7.tape.trans (hg6.tape.trans hal.tape), hg7.output.trans (hg6.output.trans hal.output), Nat.le_trans hal.size (Nat.le_trans hg6.size hg7.size), fun j hj h1 _ => by
                have hjE : j < (z2.drew.alloc (.cells #[] 40)).heap.size := Nat.lt_of_lt_of_le hj hal.size
                rw [hg7.block j (Nat.lt_of_lt_of_le hjE hg6.size) (fun e => by have := hown7k j e.symm; omega), hg6.block j hjE (fun e => by simp only [Value.ownBlock, Option.some.injEq] at e; subst e; exact Nat.lt_irrefl _ hj)]
                exact hal.block j hj⟩ (NKept.of_grownB (grown_setCell w7 b 0 (.slice A5 (k + (L.length - r)) cap5))))
              have HRN : Hid (∀ j, (Value.slice A5 (k + (L.length - r)) cap5).ownBlock = some j → z2.heap.size ≤ j) := Lib.hid (fun j hj => by
                rcases hn7 j hj with h1 | h1
                · exact hown7k j h1
                · have h2 : z2.heap.size ≤ (z2.drew.alloc (.cells #[] 40)).heap.size := hal.size
                  exact Nat.le_trans (Nat.le_trans h2 hg6.size) h1)
              have HQ := Lib.hid hQ7
              clear hown7 hown7z hO7 hQ7 hown7k hbk7 c7 hf7 hg7 hg6 hn6 hn7 hown6 hS6 hc2 hbk6 c6
              clear hE hSE hbkE hapE hal hc1 hon1 hon2 hS1 hS3 h28 hbk c0 c0d c0a hwq e
              generalize w7.setCell ⟨b, 0, none⟩ (.slice A5 (k + (L.length - r)) cap5) = w8 at *
              have hQ := HQ.out
              have c2 := hQ.cell2
              have hf2 := hQ.free 2
              have hwt : IntKind.i64.wrap (t + 1) = t + 1 := by rw [IntKind.wrap_i64]; omega
              have hDl := hD.lt
              have hM8 := blk_nkept hMB HK.out hmb (by simp)
              have hD8 := blk_nkept hD HK.out hbD.symm (by simp)
              have hk8 : NKept w w8 b (Value.slice (some ⟨g, 0, none⟩) L.length Scap).ownBlock := (NKept.of_below hb).trans ⟨HK.out.os, HK.out.tape, HK.out.output, HK.out.size, fun j hj h1 _ => HK.out.block j hj h1 (by simp)⟩
              have G6 := grown_setCell w8 b 2 (.int .i64 (t + 1))
              have HQ9 := Lib.hid (hQ.set2 (t + 1))
              have HM9 := Lib.hid (hM8.grown G6 hmb)
              have HD9 := Lib.hid (hD8.grown G6 hbD.symm)
              have HK9 := Lib.hid (hk8.trans (NKept.of_grownB G6))
              clear hQ HQ hM8 hD8 hk8 G6 HK hMB hD hb
              go_upto_region 7 with (fail)
              change Code.wp _ _ _ _ (w8.setCell ⟨b, 2, none⟩ (.int .i64 (t + 1)))
              generalize w8.setCell ⟨b, 2, none⟩ (.int .i64 (t + 1)) = w9 at *
              clear c2 hf2 hwt
              have hMY := HM9.out
              have hl2 : cs.length = zs.length := by rw [hcl, hzl]
              have HM2 := Lib.hid (HD9.out.stored (vs := cs) hl2)
              have HT2 := Lib.hid (blk_there2 HD9.out hl2)
              have G := grown_setCells D cs 0 w9
              have hzw : w.heap.size ≤ z2.heap.size := by omega
              have HQ10 := Lib.hid (HQ9.out.nkept (NKept.of_grownB (b := D) (r := none) G) hbD (by simp) (fun e => by have := HRN.out D e.symm; omega) (by
                rcases ho : (Value.slice A5 (k + (L.length - r)) cap5).ownBlock with _ | o
                · exact .inl rfl
                · exact .inr (by simp)))
              have HK10 : Hid (NKept w (w9.setCells D 0 cs) b (Value.slice (some ⟨g, 0, none⟩) L.length Scap).ownBlock) := Lib.hid ⟨G.os.trans HK9.out.os, G.tape.trans HK9.out.tape, G.output.trans HK9.out.output, Nat.le_trans HK9.out.size G.size, fun j hj h1 h2 => (G.block j (Nat.lt_of_lt_of_le hj HK9.out.size) (by simp; omega)).trans (HK9.out.block j hj h1 h2)⟩
              have HA := Lib.hid (hC.2.2.below (NKept.below HK10.out hb0 (Nat.le_trans hBw0 hBb) (fun j hj => Nat.le_trans hBw0 (hrow j hj))))
              have HLN := Lib.hid hcl
              have HRN2 : Hid (RNew w (.slice (some ⟨g, 0, none⟩) L.length Scap) (.slice A5 (k + (L.length - r)) cap5)) := Lib.hid (fun j hj => .inr (Nat.le_trans hzw (HRN.out j hj)))
              clear G hl2 HM9 HD9 HQ9 HK9 HRN hC
              go_wp2_with (first | (refine wpList_load_mid rfl 40 (.tmp 7) rfl m 0 rfl cs _ hMY.range Tryz.underlying40 rfl (by rw [hcl]; exact msg_info) ?_; simp only [Act.put, List.setIfInBounds_toArray, List.set_cons_zero, List.set_cons_succ]) | (refine wpList_store_mid rfl 40 (.tmp 4) (.tmp 47) rfl D 0 cs.toArray rfl rfl (by exact HT2.out) (by rw [List.size_toArray, hcl]; exact msg_info) hcone ?_; rw [List.toList_toArray]))
              all_goals exact bodyPost_ret (v := .tuple #[.agg cs.toArray, .int .i64 0]) (results_msg rfl rfl rfl HM2.out HLN.out) rfl ⟨_, rfl, HA.out, .slice A5 (k + (L.length - r)) cap5, by rw [HTK.out]; exact HQ10.out, HK10.out, HRN2.out⟩
end Go.Proofs.YtnaabaahfjklhaaGreat
namespace Go.Proofs.YtnaabaahfjklhaaGreat
open Go.RowKit Go.ChangeShapes Go.WideShapes Go.Joins Go.Deep Fld
set_option linter.unusedVariables false

theorem qs_cf {R : List Fld} {M A : MsgV} (h : fC ∉ R) : (putF R M A).cf = A.cf := by
  induction R generalizing A with
  | nil => rfl
  | cons G R ih =>
    rw [List.mem_cons, not_or] at h
    show (putF R M (setF G M A)).cf = A.cf
    rw [ih h.2]
    cases G <;> first | rfl | exact absurd rfl h.1
theorem qs_op {R : List Fld} {M A : MsgV} (h : fO ∉ R) : (putF R M A).op = A.op := by
  induction R generalizing A with
  | nil => rfl
  | cons G R ih =>
    rw [List.mem_cons, not_or] at h
    show (putF R M (setF G M A)).op = A.op
    rw [ih h.2]
    cases G <;> first | rfl | exact absurd rfl h.1
theorem qs_small {M : MsgV} (h : mayW M = true) : MSmall M ∧ M.fires.length ≤ 8 ∧ 1 ≤ M.kind ∧ M.kind ≤ 15 := by
  obtain ⟨h1, h2, h3, h4, h5, h6⟩ := mayW_iff.1 h
  rw [onlyM_put] at h3
  refine ⟨⟨?_, ?_, by omega⟩, h4, h1, h2⟩
  · by_cases hC : fC ∈ fieldsOf M.kind
    · have := (rightC_iff.1 (h6 (fieldsOf_fC' hC))).2.2.2.1
      omega
    · rw [h3, qs_cf hC]; exact Nat.zero_le _
  · by_cases hO : fO ∈ fieldsOf M.kind
    · have := (mayOp_iff.1 (h5 (fieldsOf_fO' hO))).2.2
      omega
    · rw [h3, qs_op hO]; exact Nat.zero_le _
theorem sendN_bad {L : List MsgV} {M : MsgV} (h : mayW M = false) : sendN L M = (L, 1) := by
  simp [sendN, printM, h]
theorem sendN_long {L : List MsgV} {M : MsgV} (h : mayW M = true) (hl : 1024 < (frame (textOf M)).length) : sendN L M = (L, 15) := by
  simp [sendN, printM, h, hl]
theorem sendN_fit {L : List MsgV} {M : MsgV} (h : mayW M = true) (hl : ¬ 1024 < (frame (textOf M)).length) : sendN L M = if 2000 ≤ L.length then (L, 5) else (L ++ [M], 0) := by
  simp [sendN, printM, h, hl]
set_option maxRecDepth 100000 in
set_option maxHeartbeats 4000000 in

theorem qsend_any {B b : Nat} {w0 w : World} {v : Value} {L : List MsgV} {s t : Int} (h : QNetAt B w0 w b v L s t) (hs : 0 ≤ s ∧ s ≤ 1000000000) {M : MsgV} {u : Value} (hu0 : M.At w0 u) (hu : M.At w u) (hok : MOk M) (hl : L.length ≤ 10000)
    {L' : List MsgV} {x : Int} (hx : sendN L M = (L', x)) :
    Calls Tryz.prog 20 #[.pointer (some ⟨b, 0, none⟩), u] w fun e w' => e = .returned (.int .i64 x) ∧ ∃ v', QNetAt B w0 w' b v' L' (sentTo s x) t ∧ NKept w w' b v.ownBlock ∧ RNew w v v' := by
  obtain ⟨i0, hi0, hz0, hz1, hz2⟩ := info_parts msg_full
  have HS := Lib.hid hs
  have HX := Lib.hid hx
  clear hs hx
  obtain ⟨SA, Scap, rfl⟩ := h.form
  obtain ⟨cs, rfl, hlen, hone, hA0⟩ := At.parts hu0 hok.op.1
  have HCC : Hid (CellsOf w0 cs M) := Lib.hid ⟨hlen, hone, hA0⟩
  have hones : ∀ u ∈ cs, u.oneCell' = true := by
    have h1 := hone
    rw [Array.all_eq_true_iff_forall_mem] at h1
    exact fun u hu => h1 u (by simpa using hu)
  clear hu0 hone hA0
  have hM := BlkAt.new w 40 cs
  have hb := (Below.refl w.heap.size w).alloc (Nat.le_refl _) (.cells cs.toArray 40)
  have hN := h.below hb
  have hA1 := hu.below hb
  have hkp : NKept w (w.alloc (.cells cs.toArray 40)) b (Value.slice SA L.length Scap).ownBlock := NKept.of_below hb
  have hsz : w.heap.size ≤ (w.alloc (.cells cs.toArray 40)).heap.size := hb.size
  have hmw : w.heap.size < (w.alloc (.cells cs.toArray 40)).heap.size := by simp
  clear h hu hb
  go_enter Tryz.func20, Tryz.ntmps20
  go_upto_region 1 with (fail)
  change Code.wp _ _ _ _ (w.alloc (.cells cs.toArray 40))
  change BlkAt (w.alloc (.cells cs.toArray 40)) _ _ _ at hM
  generalize w.alloc (.cells cs.toArray 40) = W at *
  obtain ⟨m, hm⟩ : ∃ m, m = w.heap.size := ⟨_, rfl⟩
  rw [← hm] at hM hmw ⊢
  clear hm
  rcases hmy : mayW M with _ | _
  · have HE : Hid (L' = L ∧ x = 1) := Lib.hid (by
      have := HX.out
      rw [sendN_bad hmy] at this
      obtain ⟨h1, h2⟩ := Prod.mk.inj this
      exact ⟨h1.symm, h2.symm⟩)
    go_wp2_with (refine wpList_load_mid rfl 40 (.tmp 3) rfl m 0 rfl cs _ hM.range Tryz.underlying40 rfl (by rw [hlen]; exact msg_info) ?_; simp only [Act.put, List.setIfInBounds_toArray, List.set_cons_zero, List.set_cons_succ])
    refine (qwmay_any (by exact hA1) hok hmy).mono ?_
    rintro en w2 ⟨rfl, b2⟩
    have HN := Lib.hid (hN.below b2)
    have HK := Lib.hid (hkp.trans (NKept.of_below b2))
    clear hM hA1 hN hkp hsz b2 hmw
    go_wp2_with fail
    go_ret
    exact ⟨by (rw [HE.out.2]; try rfl), .slice SA L.length Scap, by rw [HE.out.1, HE.out.2, sent_not (by decide)]; exact HN.out, HK.out, RNew.refl _ _⟩
  · obtain ⟨hms, hf8, hk1, hk2⟩ := qs_small hmy
    go_wp2_with (refine wpList_load_mid rfl 40 (.tmp 3) rfl m 0 rfl cs _ hM.range Tryz.underlying40 rfl (by rw [hlen]; exact msg_info) ?_; simp only [Act.put, List.setIfInBounds_toArray, List.set_cons_zero, List.set_cons_succ])
    refine (qwmay_any (by exact hA1) hok hmy).mono ?_
    rintro en w2 ⟨rfl, b2⟩
    have hN2 := hN.below b2
    have hM2 := hM.below b2
    have hA2 := hA1.below b2
    have hkp2 := hkp.trans (NKept.of_below b2)
    have hsz2 := Nat.le_trans hsz b2.size
    have hmw2 := Nat.lt_of_lt_of_le hmw b2.size
    clear hM hA1 hN hkp hsz b2 hmw
    go_wp2_with (refine wpList_load_mid rfl 40 (.tmp 3) rfl m 0 rfl cs _ hM2.range Tryz.underlying40 rfl (by rw [hlen]; exact msg_info) ?_; simp only [Act.put, List.setIfInBounds_toArray, List.set_cons_zero, List.set_cons_succ])
    refine (qwprint_any (by exact hA2) hok hms hf8 ⟨hk1, hk2⟩).mono ?_
    rintro en z ⟨rfl, b3⟩
    have h := hN2.below b3
    have hM := hM2.below b3
    have HK2 := Lib.hid (hkp2.trans (NKept.of_below b3))
    have HSZ := Lib.hid (Nat.le_trans hsz2 b3.size)
    have hmz := Nat.lt_of_lt_of_le hmw2 b3.size
    clear hM2 hA2 hN2 hkp2 hsz2 hmw2 b3
    by_cases hln : 1024 < (frame (textOf M)).length
    · have HE : Hid (L' = L ∧ x = 15) := Lib.hid (by
        have := HX.out
        rw [sendN_long hmy hln] at this
        obtain ⟨h1, h2⟩ := Prod.mk.inj this
        exact ⟨h1.symm, h2.symm⟩)
      have hln' : (1024 : Int) < ((frame (textOf M)).length : Int) := by omega
      have HN := Lib.hid h
      clear h hM
      go_wp2_with fail
      go_ret
      exact ⟨by (rw [HE.out.2]; try rfl), .slice SA L.length Scap, by rw [HE.out.1, HE.out.2, sent_not (by decide)]; exact HN.out, HK2.out, RNew.refl _ _⟩
    · have hln' : ¬ (1024 : Int) < ((frame (textOf M)).length : Int) := by omega
      have c0 := h.cell0
      by_cases hf : 2000 ≤ L.length
      · have hf' : (2000 : Int) ≤ (L.length : Int) := by omega
        have HE : Hid (L' = L ∧ x = 5) := Lib.hid (by
          have := HX.out
          rw [sendN_fit hmy hln, if_pos hf] at this
          obtain ⟨h1, h2⟩ := Prod.mk.inj this
          exact ⟨h1.symm, h2.symm⟩)
        have HN := Lib.hid h
        clear h hM
        go_wp2_with fail
        go_ret
        exact ⟨by (rw [HE.out.2]; try rfl), .slice SA L.length Scap, by rw [HE.out.1, HE.out.2, sent_not (by decide)]; exact HN.out, HK2.out, RNew.refl _ _⟩
      · have hf' : ¬ (2000 : Int) ≤ (L.length : Int) := by omega
        have HE : Hid (L' = L ++ [M] ∧ x = 0) := Lib.hid (by
          have := HX.out
          rw [sendN_fit hmy hln, if_neg hf] at this
          obtain ⟨h1, h2⟩ := Prod.mk.inj this
          exact ⟨h1.symm, h2.symm⟩)
        clear HX
        obtain ⟨hBb, hbk, css, hS1, hS2, hS3⟩ := h
        have hbl : b < z.heap.size := (Array.getElem?_eq_some_iff.1 hbk).1
        have hBw : B ≤ z.heap.size := by omega
        have hap : some b ≠ (Value.slice SA L.length Scap).ownBlock := own_apartN hbk hS2 (by decide)
        have hrg : z.drew.rangeAt m 0 cs := hM.range
        go_upto_region 7 with (fail)
        have c0d : z.drew.cell? ⟨b, 0, none⟩ = some (.slice SA L.length Scap) := c0
        have c0a : ∀ o, (z.drew.alloc o).cell? ⟨b, 0, none⟩ = some (.slice SA L.length Scap) := fun o => cell_alloc_old (w := z.drew) c0 _
        refine wp_region_noPanic ?_
        refine wp_region_held_drew (S := fun _ => True) (by kernel_rfl) trivial (fun hHeld => ?_)
        refine wpAnyH_take (i := 0) (oi := ?oq_1_1_0) (v := ?va_1_1_0) ?op_1_1_0 (by kernel_rfl) (by kernel_rfl) (by kernel_rfl) (fun _ _ _ h => h) ?yi_1_1_0 trivial ?re_1_1_0
        case op_1_1_0 => (simp only [List.getElem?_toArray, List.getElem?_cons_zero]; rfl)
        case yi_1_1_0 =>
          refine Or.inl ⟨by rfl, ?_⟩
          intro w hSw
          go_simp
          all_goals with_reducible rfl
        try simp only [Act.put, List.setIfInBounds_toArray, List.set_cons_zero, List.set_cons_succ]
        refine wpAnyH_take (i := 1) (oi := ?oq_1_2_1) (v := ?va_1_2_1) ?op_1_2_1 (by kernel_rfl) (by kernel_rfl) (by kernel_rfl) (fun _ _ _ h => h) ?yi_1_2_1 trivial ?re_1_2_1
        case op_1_2_1 => (simp only [List.getElem?_toArray, List.getElem?_cons_succ, List.getElem?_cons_zero]; rfl)
        case yi_1_2_1 =>
          refine Or.inl ⟨by rfl, ?_⟩
          intro w hSw
          go_simp
          all_goals with_reducible rfl
        try simp only [Act.put, List.setIfInBounds_toArray, List.set_cons_zero, List.set_cons_succ]
        refine wpAnyH_take (i := 2) (oi := ?oq_1_3_2) (v := ?va_1_3_2) ?op_1_3_2 (by kernel_rfl) (by kernel_rfl) (by kernel_rfl) (fun _ _ _ h => h) ?yi_1_3_2 trivial ?re_1_3_2
        case op_1_3_2 => (simp only [List.getElem?_toArray, List.getElem?_cons_succ, List.getElem?_cons_zero]; rfl)
        case yi_1_3_2 =>
          refine Or.inl ⟨by rfl, ?_⟩
          intro w hSw
          go_simp
          all_goals with_reducible rfl
        try simp only [Act.put, List.setIfInBounds_toArray, List.set_cons_zero, List.set_cons_succ]
        refine wpAnyH_take (i := 3) (oi := ?oq_1_4_3) (v := ?va_1_4_3) ?op_1_4_3 (by kernel_rfl) (by kernel_rfl) (by kernel_rfl) (fun _ _ _ h => h) ?yi_1_4_3 trivial ?re_1_4_3
        case op_1_4_3 => (simp only [List.getElem?_toArray, List.getElem?_cons_succ, List.getElem?_cons_zero]; rfl)
        case yi_1_4_3 =>
          refine Or.inl ⟨by rfl, ?_⟩
          intro w hSw
          go_simp
          all_goals with_reducible rfl
        try simp only [Act.put, List.setIfInBounds_toArray, List.set_cons_zero, List.set_cons_succ]
        refine wpAnyH_ready (rs := [4, 5]) (by kernel_rfl) (by simp) (AllReadyH.cons (o := ?oq_1_5_4) ?op_1_5_4 (fun K hK => ?re_1_5_4) (AllReadyH.cons (o := ?oq_1_5_5) ?op_1_5_5 (fun K hK => ?re_1_5_5) AllReadyH.nil))
        case op_1_5_4 => (simp only [List.getElem?_toArray, List.getElem?_cons_succ, List.getElem?_cons_zero]; rfl)
        case op_1_5_5 => (simp only [List.getElem?_toArray, List.getElem?_cons_succ, List.getElem?_cons_zero]; rfl)
        case re_1_5_4 =>
          go_simp
          refine hK.out _ _ trivial (fun hHeld => ?_)
          clear hK K
          try simp only [Act.put, List.setIfInBounds_toArray, List.set_cons_zero, List.set_cons_succ]
          refine wpAnyH_ready (rs := [5]) (by kernel_rfl) (by simp) (AllReadyH.cons (o := ?oq_1_6_5) ?op_1_6_5 (fun K hK => ?re_1_6_5) AllReadyH.nil)
          case op_1_6_5 => (simp only [List.getElem?_toArray, List.getElem?_cons_succ, List.getElem?_cons_zero]; rfl)
          case re_1_6_5 =>
            rw [if_pos (by rfl)]
            refine wp_load_mid 40 (.tmp 3) (by rfl) m 0 (by rfl) cs _ (by exact hrg) Tryz.underlying40 (by rfl) (by rw [hlen]; exact msg_info) ?_
            refine hK.out _ _ trivial (fun hHeld => ?_)
            clear hK K
            try simp only [Act.put, List.setIfInBounds_toArray, List.set_cons_zero, List.set_cons_succ]
            refine wpAnyH_ready (rs := [6]) (by kernel_rfl) (by simp) (AllReadyH.cons (o := ?oq_1_7_6) ?op_1_7_6 (fun K hK => ?re_1_7_6) AllReadyH.nil)
            case op_1_7_6 => (simp only [List.getElem?_toArray, List.getElem?_cons_succ, List.getElem?_cons_zero]; rfl)
            case re_1_7_6 =>
              go_simp
              refine hK.out _ _ trivial (fun hHeld => ?_)
              clear hK K
              try simp only [Act.put, List.setIfInBounds_toArray, List.set_cons_zero, List.set_cons_succ]
              refine wpAnyH_ready (rs := [7]) (by kernel_rfl) (by simp) (AllReadyH.cons (o := ?oq_1_8_7) ?op_1_8_7 (fun K hK => ?re_1_8_7) AllReadyH.nil)
              case op_1_8_7 => (simp only [List.getElem?_toArray, List.getElem?_cons_succ, List.getElem?_cons_zero]; rfl)
              case re_1_8_7 =>
                refine step_append_lies _ (by rfl) _ _ _ (by rfl) B 40 i0 _ 28 264 Tryz.underlying27 hi0 hz0 hz1 hz2 rfl (by omega) _ _ _ (by rfl) (hS2.drew.alloc _) ⟨z.heap.size, 0, none⟩ 1 1 cs (by rfl) (by rw [hlen]) (fun j u hj => World.news_of_block (heap_alloc_new _ _) j u (by rw [fold_cells (by rw [hlen]; rfl)]; simpa using hj)) hones (by omega) (by unfold maxLen; omega) (by omega) (by simp; omega) (z.heap.size + 1) (by simp) ?_
                intro g2 cap2 w7 hown7 hg7 hat7 hlt7
                rw [fold_cells (by rw [hlen]; rfl)] at hg7
                have hal := (Below.refl z.drew.heap.size z.drew).alloc (Nat.le_refl _) (.cells cs.toArray 40)
                have hbk7 := (hg7.block b (by simp; omega) hap).trans ((heap_alloc_old z.drew _ hbl).trans hbk)
                have c7 := cell_of_row _ _ 0 _ _ _ hbk7
                have hf7 : w7.frozen? ⟨b, 0, none⟩ = false := by simp [World.frozen?, hbk7]
                refine hK.out _ _ trivial (fun hHeld => ?_)
                clear hK K
                try simp only [Act.put, List.setIfInBounds_toArray, List.set_cons_zero, List.set_cons_succ]
                refine wpAnyH_take (i := 8) (oi := ?oq_1_9_8) (v := ?va_1_9_8) ?op_1_9_8 (by kernel_rfl) (by kernel_rfl) (by kernel_rfl) (fun _ _ _ h => h) ?yi_1_9_8 trivial ?re_1_9_8
                case op_1_9_8 => (simp only [List.getElem?_toArray, List.getElem?_cons_succ, List.getElem?_cons_zero]; rfl)
                case yi_1_9_8 =>
                  refine Or.inl ⟨by rfl, ?_⟩
                  intro w hSw
                  go_simp
                  all_goals with_reducible rfl
                try simp only [Act.put, List.setIfInBounds_toArray, List.set_cons_zero, List.set_cons_succ]
                refine wpAnyH_take (i := 9) (oi := ?oq_1_10_9) (v := ?va_1_10_9) ?op_1_10_9 (by kernel_rfl) (by kernel_rfl) (by kernel_rfl) (fun _ _ _ h => h) ?yi_1_10_9 trivial ?re_1_10_9
                case op_1_10_9 => (simp only [List.getElem?_toArray, List.getElem?_cons_succ, List.getElem?_cons_zero]; rfl)
                case yi_1_10_9 =>
                  refine Or.inl ⟨by rfl, ?_⟩
                  intro w hSw
                  go_simp
                  all_goals with_reducible rfl
                try simp only [Act.put, List.setIfInBounds_toArray, List.set_cons_zero, List.set_cons_succ]
                refine wpAnyH_ready (rs := [10]) (by kernel_rfl) (by simp) (AllReadyH.cons (o := ?oq_1_11_10) ?op_1_11_10 (fun K hK => ?re_1_11_10) AllReadyH.nil)
                case op_1_11_10 => (simp only [List.getElem?_toArray, List.getElem?_cons_succ, List.getElem?_cons_zero]; rfl)
                case re_1_11_10 =>
                  go_simp
                  refine hK.out _ _ trivial (fun hHeld => ?_)
                  clear hK K
                  try simp only [Act.put, List.setIfInBounds_toArray, List.set_cons_zero, List.set_cons_succ]
                  refine wpAnyH_done (by kernel_rfl) ?_ _
                  refine NoPanic.normal ?_
                  have hQ7 := QNetAt.put0 (L' := L ++ [M]) hBb hbk7 (MsgsO.snoc hS1 hS3 hown7 HCC.out)
                  have hal' : Below z.heap.size z (z.drew.alloc (.cells cs.toArray 40)) := ⟨hal.os, hal.tape, hal.output, hal.size, hal.block⟩
                  have HK := Lib.hid (HK2.out.trans (((NKept.of_below (b := b) (r := (Value.slice SA L.length Scap).ownBlock) hal').trans (NKept.of_grown hg7)).trans (NKept.of_grownB (grown_setCell w7 b 0 (.slice (some ⟨g2, 0, none⟩) (L.length + 1) cap2)))))
                  have HR : Hid (RNew w (.slice SA L.length Scap) (.slice (some ⟨g2, 0, none⟩) (L.length + 1) cap2)) := Lib.hid (by
                    intro j hj
                    simp only [Value.ownBlock, Option.some.injEq] at hj
                    subst hj
                    rcases hat7 with h1 | h1
                    · exact .inl h1
                    · have h2 := HSZ.out
                      exact .inr (by omega))
                  have HQ := Lib.hid hQ7
                  clear hQ7 hg7 hown7 hbk7 c7 hf7 hal hal' hat7 hlt7 HK2 HSZ HCC
                  clear hbk hS1 hS2 hS3 hbl hap c0 c0d c0a hrg hM
                  generalize w7.setCell ⟨b, 0, none⟩ (.slice (some ⟨g2, 0, none⟩) (L.length + 1) cap2) = w8 at *
                  have hQ := HQ.out
                  have c1 := hQ.cell1
                  have hf1 := hQ.free 1
                  have hws : IntKind.i64.wrap (s + 1) = s + 1 := by rw [IntKind.wrap_i64]; have := HS.out; omega
                  have HQ9 := Lib.hid (hQ.set1 (s + 1))
                  have HK9 := Lib.hid (HK.out.trans (NKept.of_grownB (grown_setCell w8 b 1 (.int .i64 (s + 1)))))
                  clear hQ HQ HK
                  go_wp2_with fail
                  go_ret
                  exact ⟨by (rw [HE.out.2]; try rfl), .slice (some ⟨g2, 0, none⟩) (L.length + 1) cap2, by rw [HE.out.1, HE.out.2, sent_yes]; exact HQ9.out, HK9.out, HR.out⟩
        case re_1_5_5 =>
          rw [if_pos (by rfl)]
          refine wp_load_mid 40 (.tmp 3) (by rfl) m 0 (by rfl) cs _ (by exact hrg) Tryz.underlying40 (by rfl) (by rw [hlen]; exact msg_info) ?_
          refine hK.out _ _ trivial (fun hHeld => ?_)
          clear hK K
          try simp only [Act.put, List.setIfInBounds_toArray, List.set_cons_zero, List.set_cons_succ]
          refine wpAnyH_ready (rs := [4, 6]) (by kernel_rfl) (by simp) (AllReadyH.cons (o := ?oq_1_12_4) ?op_1_12_4 (fun K hK => ?re_1_12_4) (AllReadyH.cons (o := ?oq_1_12_6) ?op_1_12_6 (fun K hK => ?re_1_12_6) AllReadyH.nil))
          case op_1_12_4 => (simp only [List.getElem?_toArray, List.getElem?_cons_succ, List.getElem?_cons_zero]; rfl)
          case op_1_12_6 => (simp only [List.getElem?_toArray, List.getElem?_cons_succ, List.getElem?_cons_zero]; rfl)
          case re_1_12_4 =>
            go_simp
            refine hK.out _ _ trivial (fun hHeld => ?_)
            clear hK K
            try simp only [Act.put, List.setIfInBounds_toArray, List.set_cons_zero, List.set_cons_succ]
            refine wpAnyH_ready (rs := [6]) (by kernel_rfl) (by simp) (AllReadyH.cons (o := ?oq_1_13_6) ?op_1_13_6 (fun K hK => ?re_1_13_6) AllReadyH.nil)
            case op_1_13_6 => (simp only [List.getElem?_toArray, List.getElem?_cons_succ, List.getElem?_cons_zero]; rfl)
            case re_1_13_6 =>
              go_simp
              refine hK.out _ _ trivial (fun hHeld => ?_)
              clear hK K
              try simp only [Act.put, List.setIfInBounds_toArray, List.set_cons_zero, List.set_cons_succ]
              refine wpAnyH_ready (rs := [7]) (by kernel_rfl) (by simp) (AllReadyH.cons (o := ?oq_1_14_7) ?op_1_14_7 (fun K hK => ?re_1_14_7) AllReadyH.nil)
              case op_1_14_7 => (simp only [List.getElem?_toArray, List.getElem?_cons_succ, List.getElem?_cons_zero]; rfl)
              case re_1_14_7 =>
                refine step_append_lies _ (by rfl) _ _ _ (by rfl) B 40 i0 _ 28 264 Tryz.underlying27 hi0 hz0 hz1 hz2 rfl (by omega) _ _ _ (by rfl) (hS2.drew.alloc _) ⟨z.heap.size, 0, none⟩ 1 1 cs (by rfl) (by rw [hlen]) (fun j u hj => World.news_of_block (heap_alloc_new _ _) j u (by rw [fold_cells (by rw [hlen]; rfl)]; simpa using hj)) hones (by omega) (by unfold maxLen; omega) (by omega) (by simp; omega) (z.heap.size + 1) (by simp) ?_
                intro g2 cap2 w7 hown7 hg7 hat7 hlt7
                rw [fold_cells (by rw [hlen]; rfl)] at hg7
                have hal := (Below.refl z.drew.heap.size z.drew).alloc (Nat.le_refl _) (.cells cs.toArray 40)
                have hbk7 := (hg7.block b (by simp; omega) hap).trans ((heap_alloc_old z.drew _ hbl).trans hbk)
                have c7 := cell_of_row _ _ 0 _ _ _ hbk7
                have hf7 : w7.frozen? ⟨b, 0, none⟩ = false := by simp [World.frozen?, hbk7]
                refine hK.out _ _ trivial (fun hHeld => ?_)
                clear hK K
                try simp only [Act.put, List.setIfInBounds_toArray, List.set_cons_zero, List.set_cons_succ]
                refine wpAnyH_take (i := 8) (oi := ?oq_1_15_8) (v := ?va_1_15_8) ?op_1_15_8 (by kernel_rfl) (by kernel_rfl) (by kernel_rfl) (fun _ _ _ h => h) ?yi_1_15_8 trivial ?re_1_15_8
                case op_1_15_8 => (simp only [List.getElem?_toArray, List.getElem?_cons_succ, List.getElem?_cons_zero]; rfl)
                case yi_1_15_8 =>
                  refine Or.inl ⟨by rfl, ?_⟩
                  intro w hSw
                  go_simp
                  all_goals with_reducible rfl
                try simp only [Act.put, List.setIfInBounds_toArray, List.set_cons_zero, List.set_cons_succ]
                refine wpAnyH_take (i := 9) (oi := ?oq_1_16_9) (v := ?va_1_16_9) ?op_1_16_9 (by kernel_rfl) (by kernel_rfl) (by kernel_rfl) (fun _ _ _ h => h) ?yi_1_16_9 trivial ?re_1_16_9
                case op_1_16_9 => (simp only [List.getElem?_toArray, List.getElem?_cons_succ, List.getElem?_cons_zero]; rfl)
                case yi_1_16_9 =>
                  refine Or.inl ⟨by rfl, ?_⟩
                  intro w hSw
                  go_simp
                  all_goals with_reducible rfl
                try simp only [Act.put, List.setIfInBounds_toArray, List.set_cons_zero, List.set_cons_succ]
                refine wpAnyH_ready (rs := [10]) (by kernel_rfl) (by simp) (AllReadyH.cons (o := ?oq_1_17_10) ?op_1_17_10 (fun K hK => ?re_1_17_10) AllReadyH.nil)
                case op_1_17_10 => (simp only [List.getElem?_toArray, List.getElem?_cons_succ, List.getElem?_cons_zero]; rfl)
                case re_1_17_10 =>
                  go_simp
                  refine hK.out _ _ trivial (fun hHeld => ?_)
                  clear hK K
                  try simp only [Act.put, List.setIfInBounds_toArray, List.set_cons_zero, List.set_cons_succ]
                  refine wpAnyH_done (by kernel_rfl) ?_ _
                  refine NoPanic.normal ?_
                  have hQ7 := QNetAt.put0 (L' := L ++ [M]) hBb hbk7 (MsgsO.snoc hS1 hS3 hown7 HCC.out)
                  have hal' : Below z.heap.size z (z.drew.alloc (.cells cs.toArray 40)) := ⟨hal.os, hal.tape, hal.output, hal.size, hal.block⟩
                  have HK := Lib.hid (HK2.out.trans (((NKept.of_below (b := b) (r := (Value.slice SA L.length Scap).ownBlock) hal').trans (NKept.of_grown hg7)).trans (NKept.of_grownB (grown_setCell w7 b 0 (.slice (some ⟨g2, 0, none⟩) (L.length + 1) cap2)))))
                  have HR : Hid (RNew w (.slice SA L.length Scap) (.slice (some ⟨g2, 0, none⟩) (L.length + 1) cap2)) := Lib.hid (by
                    intro j hj
                    simp only [Value.ownBlock, Option.some.injEq] at hj
                    subst hj
                    rcases hat7 with h1 | h1
                    · exact .inl h1
                    · have h2 := HSZ.out
                      exact .inr (by omega))
                  have HQ := Lib.hid hQ7
                  clear hQ7 hg7 hown7 hbk7 c7 hf7 hal hal' hat7 hlt7 HK2 HSZ HCC
                  clear hbk hS1 hS2 hS3 hbl hap c0 c0d c0a hrg hM
                  generalize w7.setCell ⟨b, 0, none⟩ (.slice (some ⟨g2, 0, none⟩) (L.length + 1) cap2) = w8 at *
                  have hQ := HQ.out
                  have c1 := hQ.cell1
                  have hf1 := hQ.free 1
                  have hws : IntKind.i64.wrap (s + 1) = s + 1 := by rw [IntKind.wrap_i64]; have := HS.out; omega
                  have HQ9 := Lib.hid (hQ.set1 (s + 1))
                  have HK9 := Lib.hid (HK.out.trans (NKept.of_grownB (grown_setCell w8 b 1 (.int .i64 (s + 1)))))
                  clear hQ HQ HK
                  go_wp2_with fail
                  go_ret
                  exact ⟨by (rw [HE.out.2]; try rfl), .slice (some ⟨g2, 0, none⟩) (L.length + 1) cap2, by rw [HE.out.1, HE.out.2, sent_yes]; exact HQ9.out, HK9.out, HR.out⟩
          case re_1_12_6 =>
            go_simp
            refine hK.out _ _ trivial (fun hHeld => ?_)
            clear hK K
            try simp only [Act.put, List.setIfInBounds_toArray, List.set_cons_zero, List.set_cons_succ]
            refine wpAnyH_ready (rs := [4]) (by kernel_rfl) (by simp) (AllReadyH.cons (o := ?oq_1_18_4) ?op_1_18_4 (fun K hK => ?re_1_18_4) AllReadyH.nil)
            case op_1_18_4 => (simp only [List.getElem?_toArray, List.getElem?_cons_succ, List.getElem?_cons_zero]; rfl)
            case re_1_18_4 =>
              go_simp
              refine hK.out _ _ trivial (fun hHeld => ?_)
              clear hK K
              try simp only [Act.put, List.setIfInBounds_toArray, List.set_cons_zero, List.set_cons_succ]
              refine wpAnyH_ready (rs := [7]) (by kernel_rfl) (by simp) (AllReadyH.cons (o := ?oq_1_19_7) ?op_1_19_7 (fun K hK => ?re_1_19_7) AllReadyH.nil)
              case op_1_19_7 => (simp only [List.getElem?_toArray, List.getElem?_cons_succ, List.getElem?_cons_zero]; rfl)
              case re_1_19_7 =>
                refine step_append_lies _ (by rfl) _ _ _ (by rfl) B 40 i0 _ 28 264 Tryz.underlying27 hi0 hz0 hz1 hz2 rfl (by omega) _ _ _ (by rfl) (hS2.drew.alloc _) ⟨z.heap.size, 0, none⟩ 1 1 cs (by rfl) (by rw [hlen]) (fun j u hj => World.news_of_block (heap_alloc_new _ _) j u (by rw [fold_cells (by rw [hlen]; rfl)]; simpa using hj)) hones (by omega) (by unfold maxLen; omega) (by omega) (by simp; omega) (z.heap.size + 1) (by simp) ?_
                intro g2 cap2 w7 hown7 hg7 hat7 hlt7
                rw [fold_cells (by rw [hlen]; rfl)] at hg7
                have hal := (Below.refl z.drew.heap.size z.drew).alloc (Nat.le_refl _) (.cells cs.toArray 40)
                have hbk7 := (hg7.block b (by simp; omega) hap).trans ((heap_alloc_old z.drew _ hbl).trans hbk)
                have c7 := cell_of_row _ _ 0 _ _ _ hbk7
                have hf7 : w7.frozen? ⟨b, 0, none⟩ = false := by simp [World.frozen?, hbk7]
                refine hK.out _ _ trivial (fun hHeld => ?_)
                clear hK K
                try simp only [Act.put, List.setIfInBounds_toArray, List.set_cons_zero, List.set_cons_succ]
                refine wpAnyH_take (i := 8) (oi := ?oq_1_20_8) (v := ?va_1_20_8) ?op_1_20_8 (by kernel_rfl) (by kernel_rfl) (by kernel_rfl) (fun _ _ _ h => h) ?yi_1_20_8 trivial ?re_1_20_8
                case op_1_20_8 => (simp only [List.getElem?_toArray, List.getElem?_cons_succ, List.getElem?_cons_zero]; rfl)
                case yi_1_20_8 =>
                  refine Or.inl ⟨by rfl, ?_⟩
                  intro w hSw
                  go_simp
                  all_goals with_reducible rfl
                try simp only [Act.put, List.setIfInBounds_toArray, List.set_cons_zero, List.set_cons_succ]
                refine wpAnyH_take (i := 9) (oi := ?oq_1_21_9) (v := ?va_1_21_9) ?op_1_21_9 (by kernel_rfl) (by kernel_rfl) (by kernel_rfl) (fun _ _ _ h => h) ?yi_1_21_9 trivial ?re_1_21_9
                case op_1_21_9 => (simp only [List.getElem?_toArray, List.getElem?_cons_succ, List.getElem?_cons_zero]; rfl)
                case yi_1_21_9 =>
                  refine Or.inl ⟨by rfl, ?_⟩
                  intro w hSw
                  go_simp
                  all_goals with_reducible rfl
                try simp only [Act.put, List.setIfInBounds_toArray, List.set_cons_zero, List.set_cons_succ]
                refine wpAnyH_ready (rs := [10]) (by kernel_rfl) (by simp) (AllReadyH.cons (o := ?oq_1_22_10) ?op_1_22_10 (fun K hK => ?re_1_22_10) AllReadyH.nil)
                case op_1_22_10 => (simp only [List.getElem?_toArray, List.getElem?_cons_succ, List.getElem?_cons_zero]; rfl)
                case re_1_22_10 =>
                  go_simp
                  refine hK.out _ _ trivial (fun hHeld => ?_)
                  clear hK K
                  try simp only [Act.put, List.setIfInBounds_toArray, List.set_cons_zero, List.set_cons_succ]
                  refine wpAnyH_done (by kernel_rfl) ?_ _
                  refine NoPanic.normal ?_
                  have hQ7 := QNetAt.put0 (L' := L ++ [M]) hBb hbk7 (MsgsO.snoc hS1 hS3 hown7 HCC.out)
                  have hal' : Below z.heap.size z (z.drew.alloc (.cells cs.toArray 40)) := ⟨hal.os, hal.tape, hal.output, hal.size, hal.block⟩
                  have HK := Lib.hid (HK2.out.trans (((NKept.of_below (b := b) (r := (Value.slice SA L.length Scap).ownBlock) hal').trans (NKept.of_grown hg7)).trans (NKept.of_grownB (grown_setCell w7 b 0 (.slice (some ⟨g2, 0, none⟩) (L.length + 1) cap2)))))
                  have HR : Hid (RNew w (.slice SA L.length Scap) (.slice (some ⟨g2, 0, none⟩) (L.length + 1) cap2)) := Lib.hid (by
                    intro j hj
                    simp only [Value.ownBlock, Option.some.injEq] at hj
                    subst hj
                    rcases hat7 with h1 | h1
                    · exact .inl h1
                    · have h2 := HSZ.out
                      exact .inr (by omega))
                  have HQ := Lib.hid hQ7
                  clear hQ7 hg7 hown7 hbk7 c7 hf7 hal hal' hat7 hlt7 HK2 HSZ HCC
                  clear hbk hS1 hS2 hS3 hbl hap c0 c0d c0a hrg hM
                  generalize w7.setCell ⟨b, 0, none⟩ (.slice (some ⟨g2, 0, none⟩) (L.length + 1) cap2) = w8 at *
                  have hQ := HQ.out
                  have c1 := hQ.cell1
                  have hf1 := hQ.free 1
                  have hws : IntKind.i64.wrap (s + 1) = s + 1 := by rw [IntKind.wrap_i64]; have := HS.out; omega
                  have HQ9 := Lib.hid (hQ.set1 (s + 1))
                  have HK9 := Lib.hid (HK.out.trans (NKept.of_grownB (grown_setCell w8 b 1 (.int .i64 (s + 1)))))
                  clear hQ HQ HK
                  go_wp2_with fail
                  go_ret
                  exact ⟨by (rw [HE.out.2]; try rfl), .slice (some ⟨g2, 0, none⟩) (L.length + 1) cap2, by rw [HE.out.1, HE.out.2, sent_yes]; exact HQ9.out, HK9.out, HR.out⟩
end Go.Proofs.YtnaabaahfjklhaaGreat
