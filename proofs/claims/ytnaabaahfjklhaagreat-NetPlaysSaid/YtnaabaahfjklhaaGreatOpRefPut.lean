/- The contracts of the document's operations: may, the bytes. -/
import Derived.Test.YtnaabaahfjklhaaGreatOpPut
import Derived.Test.YtnaabaahfjklhaaGreatOpRefMay
import Derived.Deep.DeepCutAuto
namespace Go.Proofs.YtnaabaahfjklhaaGreat
open Go.RowKit Go.ChangeShapes Go.WideShapes Go.Joins
set_option linter.unusedVariables false

theorem qop_join (k a b c d e f g i : Int) (s : List UInt8) : (⟨#[UInt8.ofNat (k % 256).toNat]⟩ : ByteArray) ++ (⟨(enc (zig a)).toArray⟩ ++ ⟨(enc (zig b)).toArray⟩ ++ ⟨(enc (zig c)).toArray⟩ ++ ⟨(enc (zig d)).toArray⟩) ++ (⟨(enc (zig e)).toArray⟩ ++ ⟨(enc (zig f)).toArray⟩ ++ ⟨(enc (zig g)).toArray⟩ ++ ⟨(enc (zig i)).toArray⟩) ++ ⟨(encS s).toArray⟩ = ⟨(encOp ⟨k, [a, b, c, d, e, f, g, i], s⟩).toArray⟩ := by
  rw [show (⟨#[UInt8.ofNat (k % 256).toNat]⟩ : ByteArray) = ⟨[UInt8.ofNat (k % 256).toNat].toArray⟩ from rfl]
  simp only [ByteArray.mk_append_mk]
  simp [encOp, encI]

set_option maxRecDepth 100000 in
set_option maxHeartbeats 4000000 in
theorem qprint_any' {k a b c d e f g i : Int} {s : List UInt8} (ho : OpOk ⟨k, [a, b, c, d, e, f, g, i], s⟩) (hl : s.length ≤ 1000000) (w : World) :
    Calls Tryz.prog 50 #[.agg (opCells ⟨k, [a, b, c, d, e, f, g, i], s⟩).toArray] w fun en w' => en = .returned (.string ⟨(encOp ⟨k, [a, b, c, d, e, f, g, i], s⟩).toArray⟩) ∧ Below w.heap.size w w' := by
  have x1 : W64 a := ho.2.2.1 a (by simp)
  have x2 : W64 b := ho.2.2.1 b (by simp)
  have x3 : W64 c := ho.2.2.1 c (by simp)
  have x4 : W64 d := ho.2.2.1 d (by simp)
  have x5 : W64 e := ho.2.2.1 e (by simp)
  have x6 : W64 f := ho.2.2.1 f (by simp)
  have x7 : W64 g := ho.2.2.1 g (by simp)
  have x8 : W64 i := ho.2.2.1 i (by simp)
  have y1 := (enc_len (zig a)).2
  have y2 := (enc_len (zig b)).2
  have y3 := (enc_len (zig c)).2
  have y4 := (enc_len (zig d)).2
  have y5 := (enc_len (zig e)).2
  have y6 := (enc_len (zig f)).2
  have y7 := (enc_len (zig g)).2
  have y8 := (enc_len (zig i)).2
  have hES : (encS s).length ≤ 1000010 := by
    have := (enc_len s.length).2
    simp only [encS, List.length_append]
    omega
  have hP := BlkAt.new w 31 (opCells ⟨k, [a, b, c, d, e, f, g, i], s⟩)
  have hbel := (Below.refl w.heap.size w).alloc (Nat.le_refl _) (.cells (opCells ⟨k, [a, b, c, d, e, f, g, i], s⟩).toArray 31)
  go_enter Tryz.func50, Tryz.ntmps50
  go_upto_region 1 with (fail)
  have hz : w.heap.size < (w.alloc (.cells (opCells ⟨k, [a, b, c, d, e, f, g, i], s⟩).toArray 31)).heap.size := by simp
  generalize w.alloc (.cells (opCells ⟨k, [a, b, c, d, e, f, g, i], s⟩).toArray 31) = W at *
  have hX : ByteBlk k (W.alloc (.cells #[.int .u8 (IntKind.u8.wrap k)] 5)) W.heap.size := heap_alloc_new _ _
  have hcv := hX.conv
  rw [IntKind.wrap_u8'] at hcv hX
  have hP2 := hP.alloc (.cells #[.int .u8 (k % 256)] 5)
  have g2 := hbel.alloc hbel.size (.cells #[.int .u8 (k % 256)] 5)
  have h0 := hP.cell (op_cell0 _)
  clear hX
  go_upto_region 2 with (fail)
  clear hcv h0 hP hbel
  generalize W.alloc (.cells #[.int .u8 (k % 256)] 5) = W2 at *
  obtain ⟨h0, h1, h2, h3, h4, h5, h6, h7, h8, h9⟩ := op_conj hP2
  have z1 : ¬ 9223372036854775807 < (enc (zig a)).length + (enc (zig b)).length := by omega
  have z2 : ¬ 9223372036854775807 < (enc (zig a)).length + (enc (zig b)).length + (enc (zig c)).length := by omega
  have z3 : ¬ 9223372036854775807 < (enc (zig a)).length + (enc (zig b)).length + (enc (zig c)).length + (enc (zig d)).length := by omega
  have z4 : ¬ 9223372036854775807 < 1 + ((enc (zig a)).length + (enc (zig b)).length + (enc (zig c)).length + (enc (zig d)).length) := by omega
  go_region_held (fun w' => w'.cell? ⟨w.heap.size, 0, none⟩ = some (.int .i64 k) ∧ w'.cell? ⟨w.heap.size, 1, none⟩ = some (.int .i64 a) ∧ w'.cell? ⟨w.heap.size, 2, none⟩ = some (.int .i64 b) ∧ w'.cell? ⟨w.heap.size, 3, none⟩ = some (.int .i64 c) ∧
        w'.cell? ⟨w.heap.size, 4, none⟩ = some (.int .i64 d) ∧ w'.cell? ⟨w.heap.size, 5, none⟩ = some (.int .i64 e) ∧ w'.cell? ⟨w.heap.size, 6, none⟩ = some (.int .i64 f) ∧ w'.cell? ⟨w.heap.size, 7, none⟩ = some (.int .i64 g) ∧
        w'.cell? ⟨w.heap.size, 8, none⟩ = some (.int .i64 i) ∧ w'.cell? ⟨w.heap.size, 9, none⟩ = some (.string ⟨s.toArray⟩)) (go_keep)
    ((go_at_call 68; refine (qint_any _ (by assumption) _).mono ?_; rintro en w1 ⟨rfl, b1⟩; have g2 : Below w.heap.size w w1 := below_step (by first | exact g2 | exact below_drewN g2 1) b1; have hP2 : BlkAt w1 w.heap.size 31 (opCells ⟨k, [a, b, c, d, e, f, g, i], s⟩) := BlkAt.below (by exact hP2) b1; obtain ⟨h0, h1, h2, h3, h4, h5, h6, h7, h8, h9⟩ := op_conj hP2))
  clear z1 z2 z3 z4
  go_upto_region 3 with (fail)
  have z1 : ¬ 9223372036854775807 < (enc (zig e)).length + (enc (zig f)).length := by omega
  have z2 : ¬ 9223372036854775807 < (enc (zig e)).length + (enc (zig f)).length + (enc (zig g)).length := by omega
  have z3 : ¬ 9223372036854775807 < (enc (zig e)).length + (enc (zig f)).length + (enc (zig g)).length + (enc (zig i)).length := by omega
  have z4 : ¬ 9223372036854775807 < 1 + ((enc (zig a)).length + (enc (zig b)).length + (enc (zig c)).length + (enc (zig d)).length) + ((enc (zig e)).length + (enc (zig f)).length + (enc (zig g)).length + (enc (zig i)).length) := by omega
  go_region_held (fun w' => w'.cell? ⟨w.heap.size, 0, none⟩ = some (.int .i64 k) ∧ w'.cell? ⟨w.heap.size, 1, none⟩ = some (.int .i64 a) ∧ w'.cell? ⟨w.heap.size, 2, none⟩ = some (.int .i64 b) ∧ w'.cell? ⟨w.heap.size, 3, none⟩ = some (.int .i64 c) ∧
        w'.cell? ⟨w.heap.size, 4, none⟩ = some (.int .i64 d) ∧ w'.cell? ⟨w.heap.size, 5, none⟩ = some (.int .i64 e) ∧ w'.cell? ⟨w.heap.size, 6, none⟩ = some (.int .i64 f) ∧ w'.cell? ⟨w.heap.size, 7, none⟩ = some (.int .i64 g) ∧
        w'.cell? ⟨w.heap.size, 8, none⟩ = some (.int .i64 i) ∧ w'.cell? ⟨w.heap.size, 9, none⟩ = some (.string ⟨s.toArray⟩)) (go_keep)
    ((go_at_call 68; refine (qint_any _ (by assumption) _).mono ?_; rintro en w1 ⟨rfl, b1⟩; have g2 : Below w.heap.size w w1 := below_step (by first | exact g2 | exact below_drewN g2 1) b1; have hP2 : BlkAt w1 w.heap.size 31 (opCells ⟨k, [a, b, c, d, e, f, g, i], s⟩) := BlkAt.below (by exact hP2) b1; obtain ⟨h0, h1, h2, h3, h4, h5, h6, h7, h8, h9⟩ := op_conj hP2))
  clear z1 z2 z3 z4
  go_wp2_with fail
  refine (qstr_any s hl _).mono ?_
  rintro en w3 ⟨rfl, b3⟩
  have g3 : Below w.heap.size w w3 := below_step (by exact g2) b3
  have HJ := Lib.hid (qop_join k a b c d e f g i s)
  clear g2 hP2 h0 h1 h2 h3 h4 h5 h6 h7 h8 h9 b3
  go_wp2_with fail
  go_ret
  exact ⟨ret_str HJ.out, g3⟩

theorem qprint_any {o : OpV} (ho : OpOk o) (hl : o.cron.length ≤ 1000000) (w : World) :
    Calls Tryz.prog 50 #[.agg (opCells o).toArray] w fun e w' => e = .returned (.string ⟨(encOp o).toArray⟩) ∧ Below w.heap.size w w' := by
  obtain ⟨k, v, s⟩ := o
  obtain ⟨a, b, c, d, e, f, g, i, rfl⟩ := list8 ho.1
  exact qprint_any' ho hl w
end Go.Proofs.YtnaabaahfjklhaaGreat
