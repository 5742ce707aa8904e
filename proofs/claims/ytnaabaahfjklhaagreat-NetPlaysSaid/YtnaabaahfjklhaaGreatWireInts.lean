/- The desk's ints: numbers that are written, or read, one behind the other. -/
import Derived.Test.YtnaabaahfjklhaaGreatKOp1
import Derived.Test.YtnaabaahfjklhaaGreatKCodec
import Derived.Test.YtnaabaahfjklhaaGreatKBld
import Derived.Deep.RegionHeld3
import Derived.Deep.DeepCutAuto
namespace Go.Proofs.YtnaabaahfjklhaaGreat
open Go.RowKit Go.ChangeShapes Go.WideShapes Go.Joins Go.Deep
set_option linter.unusedVariables false

/-- The cell i of block a holds the number x; the block is no builder's, or was there ahead of B. -/
def IntAt (B : Nat) (w : World) (a i : Nat) (x : Int) : Prop := (∃ cs T fr, w.heap[a]? = some (.cells cs T fr) ∧ T ≠ 5 ∧ T ≠ 113 ∧ cs[i]? = some (.int .i64 x)) ∨ (a < B ∧ w.cell? ⟨a, i, none⟩ = some (.int .i64 x))
theorem IntAt.cell {B : Nat} {w : World} {a i : Nat} {x : Int} (h : IntAt B w a i x) : w.cell? ⟨a, i, none⟩ = some (.int .i64 x) := by
  rcases h with ⟨cs, T, fr, h1, _, _, h2⟩ | h
  · rw [cell_of_row _ _ _ _ _ _ h1, h2]
  · exact h.2
theorem IntAt.keep {B : Nat} {w w' : World} {a i : Nat} {x : Int} (h : IntAt B w a i x) (hk : TKeep w w') (hb : Below B w w') : IntAt B w' a i x := by
  rcases h with ⟨cs, T, fr, h1, h2, h3, h4⟩ | h
  · exact .inl ⟨cs, T, fr, hk a T cs fr h1 h2 h3, h2, h3, h4⟩
  · exact .inr ⟨h.1, (hb.cell (p := ⟨a, i, none⟩) h.1).trans h.2⟩
theorem BlkAt.tkeep {w w' : World} {a : Nat} {T : TypeId} {cs : List Value} (h : BlkAt w a T cs) (hk : TKeep w w') (h1 : T ≠ 5) (h2 : T ≠ 113) : BlkAt w' a T cs := hk a T _ _ h h1 h2
/-- Pointers to numbers: block P's cells lead to As, whose cells hold xs. -/
structure PtrsAt (B : Nat) (w : World) (P : Nat) (As : List (Nat × Nat)) (xs : List Int) : Prop where
  row : BlkAt w P 123 (As.map fun A : Nat × Nat => .pointer (some ⟨A.1, A.2, none⟩))
  len : As.length = xs.length
  ints : ∀ (i : Nat) (A : Nat × Nat) (x : Int), As[i]? = some A → xs[i]? = some x → IntAt B w A.1 A.2 x
theorem PtrsAt.keep {B : Nat} {w w' : World} {P : Nat} {As : List (Nat × Nat)} {xs : List Int} (h : PtrsAt B w P As xs) (hk : TKeep w w') (hb : Below B w w') : PtrsAt B w' P As xs :=
  ⟨h.row.tkeep hk (by decide) (by decide), h.len, fun i A x h1 h2 => (h.ints i A x h1 h2).keep hk hb⟩
theorem encI_snoc {xs : List Int} {k : Nat} {x : Int} (h : xs[k]? = some x) : encI (xs.take (k + 1)) = encI (xs.take k) ++ enc (zig x) := by
  rw [List.take_add_one, h, Option.toList_some]
  simp [encI]

set_option maxRecDepth 100000 in
set_option maxHeartbeats 4000000 in

theorem ints_write {w : World} {B b d P cap : Nat} {l : List UInt8} {mv rv : Value} {As : List (Nat × Nat)} {xs : List Int} (hD : BlkAt w d 118 [mv, .pointer (some ⟨b, 0, none⟩), rv]) (hP : PtrsAt B w P As xs)
    (hx : ∀ x ∈ xs, W64 x) (hB : BldAt B b l w) (hBw : B ≤ w.heap.size) (hl : l.length ≤ 10000000) (hn : xs.length ≤ 100) :
    Calls Tryz.prog 56 #[.pointer (some ⟨d, 0, none⟩), .slice (some ⟨P, 0, none⟩) xs.length cap] w fun e w' => e = .returned (.tuple #[]) ∧ BldAt B b (l ++ encI xs) w' ∧ Below B w w' ∧ TKeep w w' := by
  have hle := encI_len xs
  go_enter Tryz.func56, Tryz.ntmps56
  go_wp2_with fail
  go_loopw [8] (fun i wr => ∃ k : Nat, k ≤ xs.length ∧ i = .int .i64 k ∧ BldAt B b (l ++ encI (xs.take k)) wr ∧ Below B w wr ∧ TKeep w wr) (fun i _ => xs.length - (intOf i).toNat)
  case atStart => exact ⟨0, Nat.zero_le _, rfl, by simpa [encI] using hB, Below.refl _ _, TKeep.refl _⟩
  case round =>
    obtain ⟨k, hk, rfl, hB, hb, hkp⟩ := hrel
    have hDr := hD.tkeep hkp (by decide) (by decide)
    have hPr := hP.keep hkp hb
    by_cases hlt : k < xs.length
    · obtain ⟨x, hxk⟩ : ∃ x, xs[k]? = some x := ⟨_, List.getElem?_eq_getElem hlt⟩
      obtain ⟨⟨X, j⟩, hAk⟩ : ∃ A, As[k]? = some A := ⟨_, List.getElem?_eq_getElem (by rw [hP.len]; exact hlt)⟩
      have hpc : wr.cell? ⟨P, k, none⟩ = some (.pointer (some ⟨X, j, none⟩)) := hPr.row.cell (by rw [List.getElem?_map, hAk]; rfl)
      have hic := (hPr.ints k _ x hAk hxk)
      have hW := hx x (List.mem_of_getElem? hxk)
      have HS := Lib.hid (encI_snoc hxk)
      have hlk : (encI (xs.take k)).length ≤ 1000 := by have := encI_len (xs.take k); rw [List.length_take] at this; omega
      have hez := (enc_len (zig x)).2
      have ci := hic.cell
      have cd : wr.cell? ⟨d, 1, none⟩ = some (.pointer (some ⟨b, 0, none⟩)) := hDr.cell rfl
      have HI := Lib.hid (hP.ints k _ x hAk hxk)
      have hBr : B ≤ wr.heap.size := Nat.le_trans hBw hb.size
      have hlb : (l ++ encI (xs.take k)).length + (enc (zig x)).length ≤ 100000000 := by rw [List.length_append]; omega
      clear hic hDr hPr hxk hAk hle hlk hez
      generalize hm : l ++ encI (xs.take k) = m at *
      have HM := Lib.hid hm
      clear hm
      go_upto_region 4 with (fail)
      go_region_held3 (fun w' => w'.cell? ⟨X, j, none⟩ = some (.int .i64 x) ∧ w'.cell? ⟨d, 1, none⟩ = some (.pointer (some ⟨b, 0, none⟩)))
        (first | exact ⟨ci, cd⟩ | go_keep)
        (first
        | (go_at_call 73; refine (cint_any x hW _).mono ?_; rintro en wz ⟨rfl, bz⟩; have hB := BldAt.below (by exact hB) bz; have hkp : TKeep w wz := TKeep.trans (by exact hkp) (TKeep.below bz); have hb : Below B w wz := Below.trans (by first | exact hb | exact below_drewN hb 1) (bz.mono (by exact hBr)); have hBr : B ≤ wz.heap.size := Nat.le_trans hBw hb.size; have ci : wz.cell? ⟨X, j, none⟩ = some (.int .i64 x) := (HI.out.keep hkp hb).cell; have cd : wz.cell? ⟨d, 1, none⟩ = some (.pointer (some ⟨b, 0, none⟩)) := (hD.tkeep hkp (by decide) (by decide)).cell rfl; clear bz)
        | (go_at_call 72; refine (wstr_k (enc (zig x)) (by exact hB) hlb (by exact hBr)).mono ?_; rintro en wz ⟨rfl, hB9, b9, k9⟩; have hkp : TKeep w wz := TKeep.trans (by exact hkp) k9; have hb : Below B w wz := Below.trans (by first | exact hb | exact below_drewN hb 1) b9; have hB := hB9; have ci : wz.cell? ⟨X, j, none⟩ = some (.int .i64 x) := (HI.out.keep hkp hb).cell; have cd : wz.cell? ⟨d, 1, none⟩ = some (.pointer (some ⟨b, 0, none⟩)) := (hD.tkeep hkp (by decide) (by decide)).cell rfl; clear b9 k9 hB9))
      have HB := Lib.hid hB
      have HBW := Lib.hid hb
      have HK := Lib.hid hkp
      clear hB hb hkp ci cd
      go_wp2_with fail
      go_roundw
      case rel => exact ⟨k + 1, by omega, by go_num, by rw [HS.out, ← List.append_assoc, HM.out]; exact HB.out, HBW.out, HK.out⟩
      case measure => simp [intOf]; omega
    · obtain rfl : k = xs.length := by omega
      rw [List.take_length] at hB
      go_wp2_with fail
      go_end0
      exact ⟨rfl, hB, hb, hkp⟩
end Go.Proofs.YtnaabaahfjklhaaGreat
