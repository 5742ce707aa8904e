/- The contracts of the writing half of package opbytes. -/
import Derived.Test.YtnaabaahfjklhaaGreatKOp1
import Derived.Test.YtnaabaahfjklhaaGreatKBld
namespace Go.Proofs.YtnaabaahfjklhaaGreat
open Go.RowKit Go.ChangeShapes Go.WideShapes Go.Joins
set_option linter.unusedVariables false

/-- Numbers that lie in a row. -/
def IntRow (w : World) (a : Nat) (v : List Int) : Prop := ∀ i x, v[i]? = some x → w.cell? ⟨a, i, none⟩ = some (.int .i64 x)
theorem IntRow.below {w w' : World} {a n : Nat} {v : List Int} (h : IntRow w a v) (ha : a < n) (hb : Below n w w') : IntRow w' a v := fun i x hx => (hb.cell (p := ⟨a, i, none⟩) ha).trans (h i x hx)
theorem BlkAt.ints {w : World} {a : Nat} {T : TypeId} {v : List Int} (h : BlkAt w a T (icells v)) : IntRow w a v := fun i x hx => h.cell (icells_get hx)

set_option maxRecDepth 100000 in
set_option maxHeartbeats 1000000 in
theorem ints_any {w : World} {a cap : Nat} {v : List Int} (h : IntRow w a v) (ha : a < w.heap.size) (hv : ∀ x ∈ v, W64 x) (hn : v.length ≤ 1000) :
    Calls Tryz.prog 105 #[.slice (some ⟨a, 0, none⟩) v.length cap] w fun e w' => e = .returned (.string ⟨(encI v).toArray⟩) ∧ Below w.heap.size w w' := by
  have HV := Lib.hid hv
  have HI := Lib.hid h
  clear hv h
  go_enter Tryz.func105, Tryz.ntmps105
  go_wp2_with fail
  go_loopw [8] (fun i wr => ∃ k : Nat, k ≤ v.length ∧ i = .int .i64 k ∧ BldAt w.heap.size w.heap.size (encI (v.take k)) wr ∧ Below w.heap.size w wr) (fun i _ => v.length - (intOf i).toNat)
  case atStart => exact ⟨0, Nat.zero_le _, rfl, BldAt.fresh w, (Below.refl _ _).alloc (Nat.le_refl _) _⟩
  case round =>
    obtain ⟨k, hk, rfl, hB, hb⟩ := hrel
    by_cases hlt : k < v.length
    · obtain ⟨x, hx⟩ : ∃ x, v[k]? = some x := ⟨_, List.getElem?_eq_getElem hlt⟩
      have hc := HI.out.below ha hb k x hx
      have hxw := HV.out x (List.mem_of_getElem? hx)
      have HN := Lib.hid (show encI (v.take (k + 1)) = encI (v.take k) ++ enc (zig x) by
        obtain ⟨h1, h2⟩ := List.getElem?_eq_some_iff.1 hx
        rw [List.take_succ_eq_append_getElem h1, h2]
        simp [encI])
      have hl1 := encI_len (v.take k)
      have hl2 := (enc_len (zig x)).2
      rw [List.length_take] at hl1
      clear hx
      go_wp2_with fail
      refine (cint_any x hxw _).mono ?_
      rintro e w1 ⟨rfl, b1⟩
      have hB1 := hB.below b1
      have hb1 := hb.trans (b1.mono hb.size)
      clear hB hb b1 hc
      go_wp2_with fail
      refine (wstr_any (enc (zig x)) (by exact hB1) (by omega) hb1.size).mono ?_
      rintro e w2 ⟨rfl, hB2, b2⟩
      have hb2 := hb1.trans b2
      clear hB1 hb1 b2
      go_wp2_with fail
      go_roundw
      case rel => exact ⟨k + 1, by omega, by go_num, by rw [HN.out]; exact hB2, hb2⟩
      case measure => simp [intOf]; omega
    · have HT := Lib.hid (show v.take k = v by rw [List.take_of_length_le (by omega)])
      rw [HT.out] at hB
      go_wp2_with fail
      refine (bstr_any (by exact hB) hb.size).mono ?_
      rintro e w1 ⟨rfl, b1⟩
      have hb1 := hb.trans b1
      go_wp2_with fail
      go_ret
      exact ⟨rfl, hb1⟩

/-- Block g is a byte of its own. -/
def ByteBlk (k : Int) (w : World) (g : Nat) : Prop := w.heap[g]? = some (.cells #[.int .u8 (IntKind.u8.wrap k)] 5 (0, 0))
theorem ByteBlk.conv {k : Int} {w : World} {g : Nat} (h : ByteBlk k w g) : (convert 54 9 (.slice (some ⟨g, 0, none⟩) 1 1)).run Tryz.prog w = .ok (.string ⟨[UInt8.ofNat (k % 256).toNat].toArray⟩) w := by
  have e : (bcells [UInt8.ofNat (k % 256).toNat]).toArray = #[.int .u8 (IntKind.u8.wrap k)] := by
    rw [IntKind.wrap_u8']
    simp only [bcells, List.map_cons, List.map_nil, UInt8.toNat_ofNat']
    rw [show (((k % 256).toNat % 2 ^ 8 : Nat) : Int) = k % 256 by omega]
  exact text_of (n := 1) (T := 5) (by rw [e]; exact h) (by simp) 1
theorem ByteBlk.below {k : Int} {w w' : World} {g : Nat} (h : ByteBlk k w g) (hb : Below w.heap.size w w') : ByteBlk k w' g :=
  (hb.block g (Array.getElem?_eq_some_iff.1 h).1).trans h

theorem op_join (k : Int) (v : List Int) (s : List UInt8) : (⟨#[UInt8.ofNat (k % 256).toNat]⟩ : ByteArray) ++ ⟨(encI v).toArray⟩ ++ ⟨(encS s).toArray⟩ = ⟨(encOp ⟨k, v, s⟩).toArray⟩ := by
  rw [show (⟨(encOp ⟨k, v, s⟩).toArray⟩ : ByteArray) = ⟨([UInt8.ofNat (k % 256).toNat] ++ encI v ++ encS s).toArray⟩ by simp [encOp], ← ByteArray.mk_append_mk, ← ByteArray.mk_append_mk]

set_option maxRecDepth 100000 in
set_option maxHeartbeats 4000000 in
theorem put_any' {k a b c d e f g i : Int} {s : List UInt8} (ho : OpOk ⟨k, [a, b, c, d, e, f, g, i], s⟩) (hl : s.length ≤ 1000000) (w : World) :
    Calls Tryz.prog 96 #[.agg (opCells ⟨k, [a, b, c, d, e, f, g, i], s⟩).toArray] w fun en w' => en = .returned (.string ⟨(encOp ⟨k, [a, b, c, d, e, f, g, i], s⟩).toArray⟩) ∧ Below w.heap.size w w' := by
  have HV := Lib.hid ho.2.2.1
  have hEI : (encI [a, b, c, d, e, f, g, i]).length ≤ 80 := encI_len _
  have hES : (encS s).length ≤ 1000010 := by
    have := (enc_len s.length).2
    simp only [encS, List.length_append]
    omega
  have hP := BlkAt.new w 31 (opCells ⟨k, [a, b, c, d, e, f, g, i], s⟩)
  have hbel := (Below.refl w.heap.size w).alloc (Nat.le_refl _) (.cells (opCells ⟨k, [a, b, c, d, e, f, g, i], s⟩).toArray 31)
  go_enter Tryz.func96, Tryz.ntmps96
  go_wp2_with fail
  have hz : w.heap.size < (w.alloc (.cells (opCells ⟨k, [a, b, c, d, e, f, g, i], s⟩).toArray 31)).heap.size := by simp
  generalize w.alloc (.cells (opCells ⟨k, [a, b, c, d, e, f, g, i], s⟩).toArray 31) = W at *
  obtain ⟨h0, h1, h2, h3, h4, h5, h6, h7, h8, h9⟩ := op_conj hP
  have hcv : ∀ (W : World) (g : Nat), ByteBlk k W g → (convert 54 9 (.slice (some ⟨g, 0, none⟩) 1 1)).run Tryz.prog W = .ok (.string ⟨[UInt8.ofNat (k % 256).toNat].toArray⟩) W := fun W g h => h.conv
  have f1 : ∀ (U : World), ByteBlk k (U.alloc (.cells #[.int .u8 (IntKind.u8.wrap k)] 5)) U.heap.size := fun U => heap_alloc_new _ _
  have f2 : ∀ (U : World) (o : Obj), ByteBlk k ((U.alloc (.cells #[.int .u8 (IntKind.u8.wrap k)] 5)).alloc o) U.heap.size := fun U o => (f1 U).below ((Below.refl _ _).alloc (Nat.le_refl _) o)
  have f3 : ∀ (U : World) (o : Obj), ByteBlk k ((U.alloc o).alloc (.cells #[.int .u8 (IntKind.u8.wrap k)] 5)) (U.heap.size + 1) := fun U o => by
    have := f1 (U.alloc o)
    rwa [show (U.alloc o).heap.size = U.heap.size + 1 by simp] at this
  have d1 : ∀ (U : World), ByteBlk k (U.alloc (.cells #[.int .u8 (IntKind.u8.wrap k)] 5)).drew U.heap.size := f1
  have d2 : ∀ (U : World) (o : Obj), ByteBlk k ((U.alloc (.cells #[.int .u8 (IntKind.u8.wrap k)] 5)).alloc o).drew U.heap.size := f2
  have d3 : ∀ (U : World) (o : Obj), ByteBlk k ((U.alloc o).alloc (.cells #[.int .u8 (IntKind.u8.wrap k)] 5)).drew (U.heap.size + 1) := f3
  have hA : ∀ (o : Obj), Below w.heap.size w (W.alloc o).drew := fun o => below_drewN (hbel.alloc hbel.size o) 1
  have hAA : ∀ (o p : Obj), Below w.heap.size w ((W.alloc o).alloc p).drew := fun o p => below_drewN ((hbel.alloc hbel.size o).alloc (by simp; omega) p) 1
  go_region_held (fun w' => w'.cell? ⟨w.heap.size, 0, none⟩ = some (.int .i64 k) ∧ w'.cell? ⟨w.heap.size, 1, none⟩ = some (.int .i64 a) ∧ w'.cell? ⟨w.heap.size, 2, none⟩ = some (.int .i64 b) ∧ w'.cell? ⟨w.heap.size, 3, none⟩ = some (.int .i64 c) ∧
      w'.cell? ⟨w.heap.size, 4, none⟩ = some (.int .i64 d) ∧ w'.cell? ⟨w.heap.size, 5, none⟩ = some (.int .i64 e) ∧ w'.cell? ⟨w.heap.size, 6, none⟩ = some (.int .i64 f) ∧ w'.cell? ⟨w.heap.size, 7, none⟩ = some (.int .i64 g) ∧
      w'.cell? ⟨w.heap.size, 8, none⟩ = some (.int .i64 i) ∧ w'.cell? ⟨w.heap.size, 9, none⟩ = some (.string ⟨s.toArray⟩)) (go_keep)
    (first
      | (go_at_call 105; refine (ints_any (v := [a, b, c, d, e, f, g, i]) (by first | exact (BlkAt.new W 3 (icells [a, b, c, d, e, f, g, i])).ints | exact ((BlkAt.new W 3 (icells [a, b, c, d, e, f, g, i])).alloc _).ints | exact (BlkAt.newAt (w := W.alloc _) (by simp) 3 (icells [a, b, c, d, e, f, g, i])).ints) (by simp <;> omega) HV.out (by simp)).mono ?_; rintro en w1 ⟨rfl, b1⟩;
          (try have q0 : ByteBlk k w1 W.heap.size := ByteBlk.below (by exact f2 W _) b1);
          (try have q1 : ByteBlk k w1 (W.heap.size + 1) := ByteBlk.below (by exact f3 W _) b1);
          have g1 : Below w.heap.size w w1 := below_step (by first | exact hA _ | exact hAA _ _) b1;
          have hP1 := BlkAt.below (by first | exact hP | exact hP.alloc _ | exact (hP.alloc _).alloc _) b1; obtain ⟨h0, h1, h2, h3, h4, h5, h6, h7, h8, h9⟩ := op_conj hP1)
      | (go_at_call 106; refine (cstr_any s hl _).mono ?_; rintro en w2 ⟨rfl, b2⟩;
          (try have r0 : ByteBlk k w2 W.heap.size := ByteBlk.below (by exact q0) b2);
          (try have r1 : ByteBlk k w2 (W.heap.size + 1) := ByteBlk.below (by exact q1) b2);
          (try have r2 : ByteBlk k w2 w1.heap.size := ByteBlk.below (by exact f1 w1) b2);
          have g2 : Below w.heap.size w w2 := below_step (by first | exact g1 | exact g1.alloc g1.size _) b2;
          have hP2 := BlkAt.below (by first | exact hP1 | exact hP1.alloc _) b2; obtain ⟨h0, h1, h2, h3, h4, h5, h6, h7, h8, h9⟩ := op_conj hP2))
  all_goals
    clear hcv f1 f2 f3 d1 d2 d3
    go_wp2_with fail
    go_ret
    first
      | exact ⟨ret_str (op_join k _ s), g2⟩
      | exact ⟨ret_str (op_join k _ s), g2.alloc g2.size _⟩

theorem put_any {o : OpV} (ho : OpOk o) (hl : o.cron.length ≤ 1000000) (w : World) :
    Calls Tryz.prog 96 #[.agg (opCells o).toArray] w fun e w' => e = .returned (.string ⟨(encOp o).toArray⟩) ∧ Below w.heap.size w w' := by
  obtain ⟨k, v, s⟩ := o
  obtain ⟨a, b, c, d, e, f, g, i, rfl⟩ := list8 ho.1
  exact put_any' ho hl w

end Go.Proofs.YtnaabaahfjklhaaGreat
