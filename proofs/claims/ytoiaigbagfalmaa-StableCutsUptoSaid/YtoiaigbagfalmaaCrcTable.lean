/- The contracts of package crc's table: a new one, how often it was made, how it is made. -/
import Derived.Test.YtoiaigbagfalmaaCommon
import Derived.Test.YtoiaigbagfalmaaCrcPlain
import Derived.WalkSpells
import Derived.WalkLawsBesides
import Derived.BigQuiet
import Derived.StillTailTactics
import Derived.Lib.SmallJoins
import Derived.Lib.Hide
import Derived.Outline
import Derived.Defers
import Derived.RegionTactic
import Derived.RegionCalls
import Derived.ChangeAlike
import Derived.Laws.Pointers
import Derived.Laws.LoneSync
import Derived.Laws.IdiomStrings
namespace Go.Proofs.Ytoiaigbagfalmaa
open Go.RowKit Go.ChangeShapes Go.WideShapes Go.Joins
set_option linter.unusedVariables false

/-- The table's rows as cells. -/
def rowOf (f : Nat → Nat) : List Value := (List.range 256).map fun i => .int .u32 (f i : Int)
def tabCells (d s m : Int) (f : Nat → Nat) : List Value := .int .u32 d :: .int .i32 s :: .int .u32 0 :: .int .i64 m :: rowOf f
/-- Block b is a table: whether it was done, its lock, how often it was made, its rows. -/
def TabAt (w : World) (b : Nat) (d s m : Int) (f : Nat → Nat) : Prop := w.heap[b]? = some (.cells (tabCells d s m f).toArray 94 (0, 0))

theorem rowOf_get (f : Nat → Nat) {i : Nat} (h : i < 256) : (rowOf f)[i]? = some (.int .u32 (f i : Int)) := by simp [rowOf, h]
theorem rowOf_congr {f g : Nat → Nat} (h : ∀ i, i < 256 → f i = g i) : rowOf f = rowOf g := by
  unfold rowOf
  refine List.map_congr_left fun i hi => ?_
  rw [h i (by simpa using hi)]
theorem rowOf_set (f : Nat → Nat) (k v : Nat) : (rowOf f).set k (.int .u32 (v : Int)) = rowOf fun i => if i = k then v else f i := by
  unfold rowOf
  apply List.ext_getElem
  · simp
  · intro i h1 h2
    simp only [List.getElem_set, List.getElem_map, List.getElem_range]
    by_cases h : k = i
    · rw [if_pos h, if_pos h.symm]
    · rw [if_neg h, if_neg (Ne.symm h)]

section
variable {w w' : World} {b : Nat} {d s m : Int} {f : Nat → Nat}
theorem TabAt.lt (h : TabAt w b d s m f) : b < w.heap.size := (Array.getElem?_eq_some_iff.1 h).1
theorem TabAt.c0 (h : TabAt w b d s m f) : w.cell? ⟨b, 0, none⟩ = some (.int .u32 d) := by
  rw [cell_of_row _ _ 0 _ _ _ h]; simp [tabCells]
theorem TabAt.c1 (h : TabAt w b d s m f) : w.cell? ⟨b, 1, none⟩ = some (.int .i32 s) := by
  rw [cell_of_row _ _ 1 _ _ _ h]; simp [tabCells]
theorem TabAt.c3 (h : TabAt w b d s m f) : w.cell? ⟨b, 3, none⟩ = some (.int .i64 m) := by
  rw [cell_of_row _ _ 3 _ _ _ h]; simp [tabCells]
theorem TabAt.row (h : TabAt w b d s m f) {i : Nat} (hi : i < 256) : w.cell? ⟨b, 4 + i, none⟩ = some (.int .u32 (f i : Int)) := by
  rw [cell_of_row _ _ (4 + i) _ _ _ h, List.getElem?_toArray, Nat.add_comm 4 i]
  show (rowOf f)[i]? = _
  exact rowOf_get f hi
theorem TabAt.free (h : TabAt w b d s m f) (i : Nat) : w.frozen? ⟨b, i, none⟩ = false := by unfold TabAt at h; simp [World.frozen?, h]
theorem TabAt.below (h : TabAt w b d s m f) (hb : Below w.heap.size w w') : TabAt w' b d s m f := (hb.block b h.lt).trans h
theorem TabAt.grown {c : Nat} (h : TabAt w b d s m f) (hg : w.grownBy w' (some c)) (hne : b ≠ c) : TabAt w' b d s m f := (hg.block _ h.lt (by simpa using hne)).trans h
theorem TabAt.drew (h : TabAt w b d s m f) : TabAt w.drew b d s m f := h
theorem TabAt.drewN (h : TabAt w b d s m f) (n : Nat) : TabAt (w.drewN n) b d s m f := h
theorem TabAt.setAny (h : TabAt w b d s m f) (i : Nat) (v : Value) : (w.setCell ⟨b, i, none⟩ v).heap[b]? = some (.cells ((tabCells d s m f).set i v).toArray 94 (0, 0)) := by
  unfold TabAt at h
  simp [World.setCell, Array.getElem?_modify, h]
theorem TabAt.set0 (h : TabAt w b d s m f) (x : Int) : TabAt (w.setCell ⟨b, 0, none⟩ (.int .u32 x)) b x s m f := h.setAny 0 _
theorem TabAt.set1 (h : TabAt w b d s m f) (x : Int) : TabAt (w.setCell ⟨b, 1, none⟩ (.int .i32 x)) b d x m f := h.setAny 1 _
theorem TabAt.set3 (h : TabAt w b d s m f) (x : Int) : TabAt (w.setCell ⟨b, 3, none⟩ (.int .i64 x)) b d s x f := h.setAny 3 _
theorem TabAt.setRow (h : TabAt w b d s m f) (k v : Nat) : TabAt (w.setCell ⟨b, 4 + k, none⟩ (.int .u32 (v : Int))) b d s m (fun i => if i = k then v else f i) := by
  unfold TabAt
  rw [h.setAny, Nat.add_comm 4 k]
  unfold tabCells
  rw [← rowOf_set]
  rfl
theorem TabAt.congr (h : TabAt w b d s m f) {g : Nat → Nat} (hg : ∀ i, i < 256 → f i = g i) : TabAt w b d s m g := by
  unfold TabAt tabCells at h ⊢
  rw [← rowOf_congr hg]
  exact h
end

set_option maxRecDepth 100000 in
set_option maxHeartbeats 1000000 in
theorem new_any (w : World) : Calls Try.prog 38 #[] w fun e w' => e = .returned (.pointer (some ⟨w.heap.size, 0, none⟩)) ∧ TabAt w' w.heap.size 0 0 0 (fun _ => 0) ∧ Below w.heap.size w w' := by
  have hz : ∀ w, (zeroValue 94).run Try.prog w = .ok (.agg (tabCells 0 0 0 fun _ => 0).toArray) w := fun w => by kernel_rfl
  go_enter Try.func38, Try.ntmps38
  go_wp2_with fail
  go_ret
  exact ⟨rfl, heap_alloc_new _ _, (Below.refl _ _).alloc (Nat.le_refl _) _⟩

theorem st_code {c : Nat} (h : F32 c) : bits .xor .u32 ((c : Int) / 2) (bits .and .u32 3988292384 (-bits .and .u32 (c : Int) 1 % 4294967296)) = (st c : Int) := by
  have h1 : bits .and .u32 (c : Int) 1 = ((c % 2 : Nat) : Int) := by
    have := u32_and_nat c 1 h (by omega)
    rw [show ((1 : Nat) : Int) = 1 from rfl, nat_mask1] at this
    exact this
  have e : (c : Int) / 2 = ((c / 2 : Nat) : Int) := by omega
  rw [h1, e]
  unfold F32 at h
  unfold st poly
  by_cases h2 : c % 2 = 1
  · rw [if_pos h2, h2, show (-((1 : Nat) : Int)) % 4294967296 = ((4294967295 : Nat) : Int) from rfl]
    rw [show (3988292384 : Int) = ((3988292384 : Nat) : Int) from rfl, u32_and_nat _ _ (by omega) (by omega), show 3988292384 &&& 4294967295 = 3988292384 from by decide, u32_xor_nat _ _ (by omega) (by omega)]
  · rw [if_neg h2, show c % 2 = 0 by omega, show (-((0 : Nat) : Int)) % 4294967296 = ((0 : Nat) : Int) from rfl]
    rw [show (3988292384 : Int) = ((3988292384 : Nat) : Int) from rfl, u32_and_nat _ _ (by omega) (by omega), Nat.and_zero, u32_xor_nat _ _ (by omega) (by omega), Nat.xor_zero]

set_option maxRecDepth 100000 in
set_option maxHeartbeats 1000000 in
theorem make_any {w : World} {b : Nat} {d s : Int} {f : Nat → Nat} (h : TabAt w b d s 0 f) :
    Calls Try.prog 47 #[.pointer (some ⟨b, 0, none⟩)] w fun e w' => e = .returned (.tuple #[]) ∧ TabAt w' b d s 1 (stn 8) ∧ w.grownBy w' (some b) := by
  have HX := Lib.hid h
  clear h
  go_enter Try.func47, Try.ntmps47
  go_wp2_with fail
  go_loopw [4] (fun i wr => ∃ k : Nat, ∃ g : Nat → Nat, k ≤ 256 ∧ i = .int .i64 k ∧ TabAt wr b d s 0 g ∧ (∀ i, i < k → g i = stn 8 i) ∧ w.grownBy wr (some b)) (fun i _ => 256 - (intOf i).toNat)
  case atStart => exact ⟨0, f, by omega, rfl, HX.out, fun i hi => by omega, World.grownBy.refl _ _⟩
  case round =>
    obtain ⟨k, g, hk, rfl, hT, hg8, hg⟩ := hrel
    have HT := Lib.hid hT
    have HG8 := Lib.hid hg8
    have HG := Lib.hid hg
    clear hT hg8 hg
    by_cases hlt : k < 256
    · have hkw : IntKind.u32.wrap (k : Int) = k := by rw [IntKind.wrap_u32']; omega
      have hf := HT.out.free (4 + k)
      have hc := HT.out.row hlt
      obtain ⟨wo, rfl⟩ : ∃ wo : World, wo = wr := ⟨_, rfl⟩
      go_wp2_with fail
      go_loop [3, 9] (fun c i => ∃ j : Nat, j ≤ 8 ∧ i = .int .i64 j ∧ c = .int .u32 (stn j k : Nat)) (fun _ i => 8 - (intOf i).toNat)
      case atStart => exact ⟨0, by omega, rfl, rfl⟩
      case round =>
        obtain ⟨j, hj, rfl, rfl⟩ := hrel
        by_cases hlj : j < 8
        · have HS := Lib.hid (st_code (stn_fit j (show F32 k by unfold F32; omega)))
          have HN := Lib.hid (stn_snoc j k)
          generalize stn j k = x at *
          go_wp2_with fail
          go_round
          case rel => exact ⟨j + 1, by omega, by go_num, by rw [HS.out, HN.out]⟩
          case measure => simp [intOf]; omega
        · have h8 : j = 8 := by omega
          subst h8
          have HV := Lib.hid (show ∃ v, v = stn 8 k from ⟨_, rfl⟩)
          obtain ⟨v, hv⟩ := HV.out
          rw [← hv]
          have HV := Lib.hid hv
          clear hv
          go_wp2_with fail
          go_roundw
          case rel =>
            refine ⟨k + 1, _, by omega, by go_num, HT.out.setRow k v, ?_, HG.out.trans (grown_setCell _ _ _ _)⟩
            intro i hi
            by_cases hik : i = k
            · rw [if_pos hik, HV.out, hik]
            · rw [if_neg hik]
              exact HG8.out i (by omega)
          case measure => simp [intOf]; omega
    · have h8 : k = 256 := by omega
      subst h8
      have hT := HT.out.congr HG8.out
      have hadd := run_call_add (P := Try.prog) Try.func58 (by kernel_rfl) (by kernel_rfl) (by kernel_rfl) .i64 (by kernel_rfl) (y := 1) (s := 1) hT.c3 (hT.free 3) (by simp [go_sem]; rfl)
      have HT1 := Lib.hid hT
      clear hT
      go_wp2
      go_end0
      exact ⟨rfl, HT1.out.set3 1, HG.out.trans (grown_setCell _ _ _ _)⟩
end Go.Proofs.Ytoiaigbagfalmaa
