/- The contracts of the reading half of package opbytes. The contract of Read: the operation that bytes are. Operations as bytes, in plain Lean: what is printed is read as it was; bytes that are an operation are those that it is printed in. Whether two operations are the same. -/
import Derived.Test.YtnaabaahfjklhaaGreatKOp1
import Derived.Test.YtnaabaahfjklhaaGreatKCodec
import Derived.Deep.DeepCutAuto
namespace Go.Proofs.YtnaabaahfjklhaaGreat
open Go.RowKit Go.ChangeShapes Go.WideShapes Go.Joins
set_option linter.unusedVariables false

theorem zero_op : ∀ w, (zeroValue 31).run Tryz.prog w = .ok (.agg (opCells opZero).toArray) w := fun w => by kernel_rfl
theorem zero_lit : ∀ w, (zeroValue 31).run Tryz.prog w = .ok (.agg #[.int .i64 0, .int .i64 0, .int .i64 0, .int .i64 0, .int .i64 0, .int .i64 0, .int .i64 0, .int .i64 0, .int .i64 0, .string ⟨#[]⟩]) w := fun w => by kernel_rfl
theorem op_info : (Tryz.prog.info? 31).map (·.size) = some 10 := by kernel_rfl

theorem rdI_facts : ∀ (k : Nat) (l : List UInt8) (e : Int), (rdI k l e).2.1.length ≤ l.length ∧ (rdI k l e).1.length = k ∧ ∀ x ∈ (rdI k l e).1, W64 x
  | 0, l, e => by simp [rdI]
  | k + 1, l, e => by
    have h := rdI_facts k (rdU l e).2.1 (rdU l e).2.2
    have hl := rdU_len l e
    refine ⟨by rw [rdI]; exact Nat.le_trans h.1 hl, by rw [rdI]; simp [h.2.1], ?_⟩
    rw [rdI]
    intro x hx
    simp only [List.mem_cons] at hx
    rcases hx with rfl | hx
    · exact zag_fit (rdU_fit l e)
    · exact h.2.2 x hx
theorem rawOp_ok (l : List UInt8) (e : Int) (hl : l.length ≤ 1000000) : OpOk (rawOp l e).1 ∧ (rawOp l e).2.1.length ≤ l.length := by
  have h1 := rdB_len l e
  have h2 := rdI_facts 8 (rdB l e).2.1 (rdB l e).2.2
  have h3 := rdS_len (rdI 8 (rdB l e).2.1 (rdB l e).2.2).2.1 (rdI 8 (rdB l e).2.1 (rdB l e).2.2).2.2 256
  have h4 := rdB_fit l e
  unfold rawOp
  refine ⟨⟨h2.2.1, W64.mk (by simp only; omega) (by simp only; omega), h2.2.2, ?_⟩, ?_⟩
  · unfold maxLen; simp only; omega
  · simp only; omega
theorem opZero_ok : OpOk opZero := ⟨rfl, W64.mk (by decide) (by decide), by intro x hx; simp [opZero] at hx; rw [hx]; exact W64.mk (by omega) (by omega), by decide⟩

/-- Where an operation's eight numbers lie. -/
def ptrCells (C : Nat) : List Value := [.pointer (some ⟨C, 1, none⟩), .pointer (some ⟨C, 2, none⟩), .pointer (some ⟨C, 3, none⟩), .pointer (some ⟨C, 4, none⟩), .pointer (some ⟨C, 5, none⟩), .pointer (some ⟨C, 6, none⟩), .pointer (some ⟨C, 7, none⟩), .pointer (some ⟨C, 8, none⟩)]
theorem ptr_get (C : Nat) {k : Nat} (h : k < 8) : (ptrCells C)[k]? = some (.pointer (some ⟨C, 1 + k, none⟩)) := by
  match k, h with
  | 0, _ | 1, _ | 2, _ | 3, _ | 4, _ | 5, _ | 6, _ | 7, _ => rfl
theorem op_setv (K : Int) (v : List Int) (s : List UInt8) (k : Nat) (x : Int) (h : k < v.length) : (opCells ⟨K, v, s⟩).set (1 + k) (.int .i64 x) = opCells ⟨K, v.set k x, s⟩ := by
  unfold opCells
  rw [Nat.add_comm, List.set_cons_succ, List.set_append_left _ _ (by rw [icells_len]; exact h)]
  simp [icells, List.map_set]
theorem op_setc (K : Int) (v : List Int) (s t : List UInt8) (h : v.length = 8) : (opCells ⟨K, v, s⟩).set 9 (.string ⟨t.toArray⟩) = opCells ⟨K, v, t⟩ := by
  obtain ⟨a, b, c, d, e, f, g, i, rfl⟩ := list8 h
  rfl
theorem set_next {vs : List Int} {k : Nat} (hv : vs.length = k) (hk : k < 8) (x : Int) : (vs ++ List.replicate (8 - k) 0).set k x = (vs ++ [x]) ++ List.replicate (8 - (k + 1)) 0 := by
  rw [List.set_append_right _ _ (by omega), hv, Nat.sub_self, show 8 - k = (8 - (k + 1)) + 1 by omega, List.replicate_succ, List.set_cons_zero, List.append_assoc]
  rfl

set_option maxRecDepth 100000 in
set_option maxHeartbeats 2000000 in
theorem take_any {w : World} {b : Nat} {l : List UInt8} {e : Int} (h : RdAt w b l e) (hl : l.length ≤ 1000000) :
    Calls Tryz.prog 97 #[.pointer (some ⟨b, 0, none⟩)] w fun en w' => en = .returned (.agg (opCells (takeOp l e).1).toArray) ∧ RdAt w' b (takeOp l e).2.1 (takeOp l e).2.2 ∧ w.grownBy w' (some b) := by
  go_enter Tryz.func97, Tryz.ntmps97
  go_wp2_with fail
  have hC : BlkAt (w.alloc (.cells (opCells opZero).toArray 31)) w.heap.size 31 (opCells opZero) := BlkAt.new _ _ _
  have hR0 := h.below ((Below.refl _ _).alloc (Nat.le_refl _) (.cells (opCells opZero).toArray 31))
  have g0 := grown_alloc (World.grownBy.refl w (some b)) (.cells (opCells opZero).toArray 31)
  have hCb : w.heap.size ≠ b := by have := h.lt; omega
  change Calls _ _ _ (w.alloc (.cells (opCells opZero).toArray 31)) _
  generalize w.alloc (.cells (opCells opZero).toArray 31) = w0 at *
  have hCw : w.heap.size ≤ w.heap.size := Nat.le_refl _
  clear h
  refine (rbyte_any (by exact hR0) hl).mono ?_
  rintro en w1 ⟨rfl, hR1, g1⟩
  have hC1 := hC.grown g1 hCb
  have G1 := g0.trans g1
  have hk := rdB_fit l e
  have hkl := rdB_len l e
  obtain ⟨K, hK⟩ : ∃ K, K = (rdB l e).1 := ⟨_, rfl⟩
  have HX := Lib.hid (show takeOp l e = takeOp l e from rfl)
  rw [← hK] at hk ⊢
  have hk : (K : Int) < 256 := by omega
  have c0 := hC1.cell (op_cell0 opZero)
  have f0 := hC1.free 0
  have HK := Lib.hid hK
  clear hK hC hR0 g0 g1
  go_wp2_with fail
  have hR2 := (hR1.grown (grown_setCell w1 w.heap.size 0 (.int .i64 K)) hCb.symm).below ((Below.refl _ _).alloc (Nat.le_refl _) (.cells (ptrCells w.heap.size).toArray 123))
  have hC2 := (hC1.set 0 (.int .i64 K)).alloc (.cells (ptrCells w.heap.size).toArray 123)
  have hD2 := BlkAt.newAt (w := w1.setCell ⟨w.heap.size, 0, none⟩ (.int .i64 K)) (n := w1.heap.size) (by simp [World.setCell]) 123 (ptrCells w.heap.size)
  have G2 := grown_alloc (grown_far G1 (grown_setCell w1 w.heap.size 0 (.int .i64 K)) hCw) (.cells (ptrCells w.heap.size).toArray 123)
  have hDC : w1.heap.size ≠ w.heap.size := by have := hC1.lt; omega
  have hDb : w1.heap.size ≠ b := by have := hR1.lt; omega
  have hDw : w.heap.size ≤ w1.heap.size := G1.size
  change Code.wp _ _ _ _ ((w1.setCell ⟨w.heap.size, 0, none⟩ (.int .i64 K)).alloc (.cells (ptrCells w.heap.size).toArray 123))
  generalize (w1.setCell ⟨w.heap.size, 0, none⟩ (.int .i64 K)).alloc (.cells (ptrCells w.heap.size).toArray 123) = w2 at *
  generalize w1.heap.size = D at *
  clear hR1 hC1 G1 c0 f0
  generalize hL : (rdB l e).2.1 = L at *
  generalize hE : (rdB l e).2.2 = E at *
  have HL := Lib.hid hL
  have HE := Lib.hid hE
  clear hL hE
  go_loopw [19] (fun i wr => ∃ (k : Nat) (vs : List Int) (l' : List UInt8) (e' : Int), k ≤ 8 ∧ i = .int .i64 k ∧ vs.length = k ∧ l'.length ≤ l.length ∧ RdAt wr b l' e' ∧ BlkAt wr w.heap.size 31 (opCells ⟨K, vs ++ List.replicate (8 - k) 0, []⟩) ∧ BlkAt wr D 123 (ptrCells w.heap.size) ∧ w.grownBy wr (some b) ∧
      rdI 8 L E = (vs ++ (rdI (8 - k) l' e').1, (rdI (8 - k) l' e').2)) (fun i _ => 8 - (intOf i).toNat)
  case atStart => exact ⟨0, [], L, E, by omega, rfl, rfl, hkl, hR2, hC2, hD2, G2, rfl⟩
  case round =>
    obtain ⟨k, vs, l', e', hk8, rfl, hvs, hl', hR, hC, hD, hG, hI⟩ := hrel
    clear hR2 hC2 hD2 G2
    have HI := Lib.hid hI
    have HV := Lib.hid hvs
    clear hI hvs
    by_cases hlt : k < 8
    · have hp := hD.cell (ptr_get w.heap.size hlt)
      have HR := Lib.hid hR
      clear hR
      go_wp2_with fail
      refine (rint_any (by exact HR.out) (by omega)).mono ?_
      rintro en w3 ⟨rfl, hR3, g3⟩
      have hC3 := hC.grown g3 hCb
      have hD3 := hD.grown g3 hDb
      have G3 := hG.trans g3
      have hcell := hC3.cell (op_cellv (o := ⟨K, vs ++ List.replicate (8 - k) 0, []⟩) (j := k) (x := 0) (by
        have := HV.out
        show (vs ++ List.replicate (8 - k) 0)[k]? = some 0
        rw [List.getElem?_append_right (by omega), this, Nat.sub_self, show 8 - k = (8 - (k + 1)) + 1 by omega, List.replicate_succ]
        rfl))
      have hfree := hC3.free (1 + k)
      have HX := Lib.hid (show ∃ x, x = zag (rdU l' e').1 from ⟨_, rfl⟩)
      obtain ⟨x, hx⟩ := HX.out
      rw [← hx]
      have hl3 := rdU_len l' e'
      have HX := Lib.hid hx
      clear hC hD hG hx
      go_wp2_with fail
      go_roundw
      case rel =>
        refine ⟨k + 1, vs ++ [x], (rdU l' e').2.1, (rdU l' e').2.2, by omega, by go_num, by rw [List.length_append, HV.out]; rfl, by omega, hR3.grown (grown_setCell _ _ _ _) hCb.symm, ?_, hD3.grown (grown_setCell _ _ _ _) hDC, grown_far G3 (grown_setCell _ _ _ _) hCw, ?_⟩
        · have := hC3.set (1 + k) (.int .i64 x)
          rw [op_setv _ _ _ _ _ (by have := HV.out; simp; omega), set_next HV.out hlt] at this
          exact this
        · rw [HI.out, show 8 - k = (8 - (k + 1)) + 1 by omega, rdI, ← HX.out, List.append_assoc]
          rfl
      case measure => simp [intOf]; omega
    · have h8 : k = 8 := by omega
      subst h8
      have HI2 := Lib.hid (show rdI 8 L E = (vs, l', e') by rw [HI.out, show 8 - 8 = 0 from rfl, rdI]; simp)
      rw [show vs ++ List.replicate (8 - 8) (0 : Int) = vs by simp] at hC
      have HR := Lib.hid hR
      clear hR hD
      go_wp2_with fail
      refine (rstr_any (by exact HR.out) (by omega) (W64.mk (by omega) (by omega))).mono ?_
      rintro en w3 ⟨rfl, hR3, g3⟩
      have hC3 := hC.grown g3 hCb
      have G3 := hG.trans g3
      have c9 := hC3.cell (op_cell9 (o := ⟨K, vs, []⟩) HV.out)
      have f9 := hC3.free 9
      clear hC hG
      have hS := rdS_len l' e' 256
      have HRaw := Lib.hid (show rawOp l e = (⟨K, vs, (rdS l' e' 256).1⟩, (rdS l' e' 256).2.1, (rdS l' e' 256).2.2) by
        rw [rawOp, ← HK.out, HL.out, HE.out, HI2.out])
      have hok := (rawOp_ok l e hl).1
      rw [HRaw.out] at hok
      have HOk := Lib.hid hok
      clear hok
      generalize rdS l' e' 256 = S at *
      obtain ⟨s, l2, e2⟩ := S
      simp only at HRaw HOk hS hR3 ⊢
      go_upto_region 8 with (fail)
      have hR4 := hR3.grown (grown_setCell w3 w.heap.size 9 (.string ⟨s.toArray⟩)) hCb.symm
      have hC4 := hC3.set 9 (.string ⟨s.toArray⟩)
      rw [op_setc _ _ _ _ HV.out] at hC4
      have G4 := grown_far G3 (grown_setCell w3 w.heap.size 9 (.string ⟨s.toArray⟩)) hCw
      generalize w3.setCell ⟨w.heap.size, 9, none⟩ (.string ⟨s.toArray⟩) = w4 at *
      clear hR3 hC3 G3 c9 f9
      obtain ⟨a1, a2, a3, a4, a5, a6, a7, a8, rfl⟩ := list8 HV.out
      have HR4 := Lib.hid hR4
      clear hR4
      go_wp2_with fail
      refine (may_any (by exact hC4) HOk.out).mono ?_
      rintro en w' ⟨rfl, rfl⟩
      by_cases hm : mayOp ⟨K, [a1, a2, a3, a4, a5, a6, a7, a8], s⟩ = true
      · rw [hm]
        have HM := Lib.hid hm
        clear hm
        go_wp2_with fail
        refine (err_any (by exact HR4.out)).mono ?_
        rintro en w' ⟨rfl, rfl⟩
        by_cases h0 : e2 = 0
        · subst h0
          obtain ⟨h0, h1, h2, h3, h4, h5, h6, h7, h8, h9⟩ := op_conj hC4
          have hfr := hC4.free
          have HT := Lib.hid (show takeOp l e = (⟨K, [a1, a2, a3, a4, a5, a6, a7, a8], s⟩, l2, 0) by
            rw [takeOp, HRaw.out]
            simp only [HM.out, if_true])
          have HC := Lib.hid (hC4.stored (vs := opCells ⟨K, [a1, a2, a3, a4, a5, a6, a7, a8], s⟩) rfl)
          have HR := Lib.hid (HR4.out.grown (grown_setCells w.heap.size (opCells ⟨K, [a1, a2, a3, a4, a5, a6, a7, a8], s⟩) 0 w4) hCb.symm)
          have HG := Lib.hid (grown_far G4 (grown_setCells w.heap.size (opCells ⟨K, [a1, a2, a3, a4, a5, a6, a7, a8], s⟩) 0 w4) hCw)
          clear hC4
          go_wp2_with fail
          change bodyPost _ _ _ _ _ (w4.setCells w.heap.size 0 (opCells ⟨K, [a1, a2, a3, a4, a5, a6, a7, a8], s⟩))
          generalize w4.setCells w.heap.size 0 (opCells ⟨K, [a1, a2, a3, a4, a5, a6, a7, a8], s⟩) = w5 at *
          obtain ⟨h0, h1, h2, h3, h4, h5, h6, h7, h8, h9⟩ := op_conj HC.out
          exact bodyPost_ret (v := .agg (opCells ⟨K, [a1, a2, a3, a4, a5, a6, a7, a8], s⟩).toArray) (by simp [results, Tryz.results97, go_sem, h0, h1, h2, h3, h4, h5, h6, h7, h8, h9]; rfl) rfl ⟨by rw [HT.out], by rw [HT.out]; exact HR.out, HG.out⟩
        · have HT := Lib.hid (show takeOp l e = (opZero, l2, e2) by
            rw [takeOp, HRaw.out]
            simp only [HM.out, if_true, if_neg h0])
          have hz0 : (e2 == 0) = false := by simpa using h0
          clear h0
          obtain ⟨wz, rfl⟩ : ∃ wz : World, wz = w4 := ⟨_, rfl⟩
          simp only
          go_upto_region 11 with (fail)
          obtain ⟨h0_, h1, h2, h3, h4, h5, h6, h7, h8, h9⟩ := op_conj hC4
          have hfr := hC4.free
          have HC := Lib.hid (hC4.stored (vs := opCells opZero) rfl)
          have HR := Lib.hid (HR4.out.grown (grown_setCells w.heap.size (opCells opZero) 0 _) hCb.symm)
          have HG := Lib.hid (grown_far G4 (grown_setCells w.heap.size (opCells opZero) 0 _) hCw)
          clear hC4 G4 HR4
          go_wp2_with fail
          change bodyPost _ _ _ _ _ (wz.setCells w.heap.size 0 (opCells opZero))
          generalize wz.setCells w.heap.size 0 (opCells opZero) = w5 at *
          obtain ⟨h0, h1, h2, h3, h4, h5, h6, h7, h8, h9⟩ := op_conj HC.out
          exact bodyPost_ret (v := .agg (opCells opZero).toArray) (by simp [results, Tryz.results97, go_sem, h0, h1, h2, h3, h4, h5, h6, h7, h8, h9]; rfl) rfl ⟨by rw [HT.out], by rw [HT.out]; exact HR.out, HG.out⟩
      · have hm : mayOp ⟨K, [a1, a2, a3, a4, a5, a6, a7, a8], s⟩ = false := by simpa using hm
        rw [hm]
        have HM := Lib.hid hm
        clear hm
        go_wp2_with fail
        refine (fail_any (by exact HR4.out)).mono ?_
        rintro en w6 ⟨rfl, hR6, g6⟩
        have hC6 := hC4.grown g6 hCb
        have G6 := G4.trans g6
        have HR6 := Lib.hid hR6
        clear hC4 G4 HR4 hR6 g6
        have hf : fst_ e2 3 ≠ 0 := by unfold fst_; split <;> omega
        have HT := Lib.hid (show takeOp l e = (opZero, l2, fst_ e2 3) by
          rw [takeOp, HRaw.out]
          simp only [HM.out, Bool.false_eq_true, if_false, if_neg hf])
        have h0 : (fst_ e2 3 == 0) = false := by simpa using hf
        generalize fst_ e2 3 = e2 at *
        have hC4 := hC6
        have G4 := G6
        have HR4 := HR6
        clear hC6 G6 HR6
        clear hf
        go_wp2_with fail
        refine (err_any (by exact HR4.out)).mono ?_
        rintro en w' ⟨rfl, rfl⟩
        obtain ⟨wz, rfl⟩ : ∃ wz : World, wz = w6 := ⟨_, rfl⟩
        simp only
        go_upto_region 11 with (fail)
        obtain ⟨h0_, h1, h2, h3, h4, h5, h6, h7, h8, h9⟩ := op_conj hC4
        have hfr := hC4.free
        have HC := Lib.hid (hC4.stored (vs := opCells opZero) rfl)
        have HR := Lib.hid (HR4.out.grown (grown_setCells w.heap.size (opCells opZero) 0 _) hCb.symm)
        have HG := Lib.hid (grown_far G4 (grown_setCells w.heap.size (opCells opZero) 0 _) hCw)
        clear hC4 G4 HR4
        go_wp2_with fail
        change bodyPost _ _ _ _ _ (wz.setCells w.heap.size 0 (opCells opZero))
        generalize wz.setCells w.heap.size 0 (opCells opZero) = w5 at *
        obtain ⟨h0, h1, h2, h3, h4, h5, h6, h7, h8, h9⟩ := op_conj HC.out
        exact bodyPost_ret (v := .agg (opCells opZero).toArray) (by simp [results, Tryz.results97, go_sem, h0, h1, h2, h3, h4, h5, h6, h7, h8, h9]; rfl) rfl ⟨by rw [HT.out], by rw [HT.out]; exact HR.out, HG.out⟩
end Go.Proofs.YtnaabaahfjklhaaGreat
namespace Go.Proofs.YtnaabaahfjklhaaGreat
open Go.RowKit Go.ChangeShapes Go.WideShapes Go.Joins
set_option linter.unusedVariables false

theorem takeOp_ok (l : List UInt8) (e : Int) (hl : l.length ≤ 1000000) : OpOk (takeOp l e).1 ∧ (takeOp l e).2.1.length ≤ l.length := by
  have h := rawOp_ok l e hl
  unfold takeOp
  refine ⟨?_, h.2⟩
  simp only
  generalize (if mayOp (rawOp l e).1 = true then (rawOp l e).2.2 else fst_ (rawOp l e).2.2 3) = q
  by_cases hq : q = 0
  · rw [if_pos hq]; exact h.1
  · rw [if_neg hq]; exact opZero_ok

theorem op_lit (k a b c d e f g i : Int) (s : List UInt8) : (opCells ⟨k, [a, b, c, d, e, f, g, i], s⟩).toArray = #[.int .i64 k, .int .i64 a, .int .i64 b, .int .i64 c, .int .i64 d, .int .i64 e, .int .i64 f, .int .i64 g, .int .i64 i, .string ⟨s.toArray⟩] := rfl

/-- The error of a read. -/
def rdErr (b : Bool) : Int := if b = true then 0 else 3

end Go.Proofs.YtnaabaahfjklhaaGreat
namespace Go.Proofs.YtnaabaahfjklhaaGreat
set_option linter.unusedVariables false

theorem zig_zag (n : Nat) (h : F64 n) : zig (zag n) = n := by
  unfold F64 at h
  unfold zag zig
  split <;> split <;> omega

theorem rdI_enc : ∀ (v : List Int) (t : List UInt8), (∀ x ∈ v, W64 x) → rdI v.length (encI v ++ t) 0 = (v, t, 0)
  | [], t, h => rfl
  | x :: v, t, h => by
    have hx := h x (by simp)
    have e : encI (x :: v) ++ t = enc (zig x) ++ (encI v ++ t) := by simp [encI]
    rw [List.length_cons, rdI, e, rdU_enc _ (zig_fit hx)]
    simp only
    rw [rdI_enc v t (fun y hy => h y (by simp [hy])), zag_zig]

theorem raw_enc {o : OpV} (ho : OpOk o) (hm : mayOp o = true) (t : List UInt8) : rawOp (encOp o ++ t) 0 = (o, t, 0) := by
  obtain ⟨h1, h2, h3⟩ := mayOp_iff.1 hm
  have e1 : rdB (encOp o ++ t) 0 = ((UInt8.ofNat (o.kind % 256).toNat).toNat, encI o.v ++ (encS o.cron ++ t), 0) := by
    rw [encOp]
    simp only [List.cons_append, List.append_assoc]
    rfl
  have e2 : rdI 8 (encI o.v ++ (encS o.cron ++ t)) 0 = (o.v, encS o.cron ++ t, 0) := by
    have := rdI_enc o.v (encS o.cron ++ t) ho.2.2.1
    rwa [ho.1] at this
  have e3 := rdS_enc o.cron t (by omega) 256 (by omega)
  have e4 : (((UInt8.ofNat (o.kind % 256).toNat).toNat : Nat) : Int) = o.kind := by
    rw [UInt8.toNat_ofNat']
    omega
  unfold rawOp
  simp only [e1, e2, e3, e4]

theorem take_enc {o : OpV} (ho : OpOk o) (hm : mayOp o = true) (t : List UInt8) : takeOp (encOp o ++ t) 0 = (o, t, 0) := by
  unfold takeOp
  simp only [raw_enc ho hm, hm, if_true]
theorem read_enc {o : OpV} (ho : OpOk o) (hm : mayOp o = true) : readOp (encOp o) = (o, true) := by
  have := take_enc ho hm []
  rw [List.append_nil] at this
  unfold readOp
  simp only [this, and_self, if_true]
theorem read_more {o : OpV} (ho : OpOk o) (hm : mayOp o = true) {t : List UInt8} (ht : t ≠ []) : readOp (encOp o ++ t) = (opZero, false) := by
  unfold readOp
  simp only [take_enc ho hm, ht, and_false, if_false]

theorem rdI_back : ∀ (k : Nat) {l l' : List UInt8} {e : Int} {v : List Int}, rdI k l e = (v, l', 0) → e = 0 ∧ l = encI v ++ l'
  | 0, l, l', e, v, h => by
    simp only [rdI, Prod.mk.injEq] at h
    obtain ⟨rfl, rfl, rfl⟩ := h
    exact ⟨rfl, rfl⟩
  | k + 1, l, l', e, v, h => by
    rw [rdI] at h
    simp only [Prod.mk.injEq] at h
    obtain ⟨hv, hr⟩ := h
    generalize hU : rdU l e = R at *
    obtain ⟨n, l1, e1⟩ := R
    simp only at hv hr
    obtain ⟨rfl, h1⟩ := rdI_back k (v := (rdI k l1 e1).1) (l' := l') (by rw [← hr])
    obtain ⟨rfl, hf, h2⟩ := rdU_back hU
    refine ⟨rfl, ?_⟩
    rw [h2, ← hv]
    have : encI (zag n :: (rdI k l1 0).1) = enc n ++ encI (rdI k l1 0).1 := by
      rw [show encI (zag n :: (rdI k l1 0).1) = enc (zig (zag n)) ++ encI (rdI k l1 0).1 from rfl, zig_zag n hf]
    rw [this, List.append_assoc, ← h1]

theorem raw_back {l l' : List UInt8} {e : Int} {o : OpV} (h : rawOp l e = (o, l', 0)) : e = 0 ∧ l = encOp o ++ l' := by
  unfold rawOp at h
  generalize hB : rdB l e = B at h
  obtain ⟨k, l1, e1⟩ := B
  simp only at h
  generalize hI : rdI 8 l1 e1 = I at h
  obtain ⟨v, l2, e2⟩ := I
  simp only at h
  generalize hS : rdS l2 e2 256 = S at h
  obtain ⟨s, l3, e3⟩ := S
  simp only [Prod.mk.injEq] at h
  obtain ⟨rfl, rfl, rfl⟩ := h
  obtain ⟨rfl, h3, _⟩ := rdS_back hS
  obtain ⟨rfl, h2⟩ := rdI_back 8 hI
  obtain ⟨rfl, h1⟩ := rdB_back hB
  have hk := rdB_fit l 0
  rw [hB] at hk
  simp only at hk
  refine ⟨rfl, ?_⟩
  rw [h1, h2, h3]
  simp only [encOp, List.cons_append, List.append_assoc]
  rw [show ((k : Int) % 256).toNat = k by omega]

theorem take_back {l l' : List UInt8} {e : Int} {o : OpV} (h : takeOp l e = (o, l', 0)) : e = 0 ∧ mayOp o = true ∧ l = encOp o ++ l' := by
  unfold takeOp at h
  generalize hR : rawOp l e = R at h
  obtain ⟨r, l1, e1⟩ := R
  simp only [Prod.mk.injEq] at h
  obtain ⟨h1, rfl, h3⟩ := h
  by_cases hm : mayOp r = true
  · rw [if_pos hm] at h3
    subst h3
    rw [if_pos hm, if_pos rfl] at h1
    subst h1
    obtain ⟨h4, h5⟩ := raw_back hR
    exact ⟨h4, hm, h5⟩
  · rw [if_neg hm] at h3
    unfold fst_ at h3
    split at h3 <;> omega
theorem read_back {l : List UInt8} {o : OpV} (h : readOp l = (o, true)) : mayOp o = true ∧ l = encOp o := by
  unfold readOp at h
  generalize hR : takeOp l 0 = R at h
  obtain ⟨r, l1, e1⟩ := R
  simp only at h
  by_cases hc : e1 = 0 ∧ l1 = []
  · rw [if_pos hc] at h
    simp only [Prod.mk.injEq, and_true] at h
    subst h
    obtain ⟨rfl, rfl⟩ := hc
    obtain ⟨_, h1, h2⟩ := take_back hR
    exact ⟨h1, by simpa using h2⟩
  · rw [if_neg hc] at h
    simp at h
theorem read_false {l : List UInt8} (h : (readOp l).2 = false) : (readOp l).1 = opZero := by
  unfold readOp at *
  simp only at *
  split at h
  · simp at h
  · rename_i hc
    rw [if_neg hc]
theorem readOp_ok (l : List UInt8) (hl : l.length ≤ 1000000) : OpOk (readOp l).1 := by
  have := (takeOp_ok l 0 hl).1
  unfold readOp
  simp only
  split
  · exact this
  · exact opZero_ok

/-- Unlike operations have unlike bytes; none is another one's beginning. -/
theorem enc_prefix {a b : OpV} (ha : OpOk a) (hb : OpOk b) (hma : mayOp a = true) (hmb : mayOp b = true) {t : List UInt8} (h : encOp b = encOp a ++ t) : a = b ∧ t = [] := by
  have h1 := take_enc ha hma t
  have h2 := take_enc hb hmb []
  rw [List.append_nil, h, h1] at h2
  simp only [Prod.mk.injEq, and_true] at h2
  exact h2
end Go.Proofs.YtnaabaahfjklhaaGreat
namespace Go.Proofs.YtnaabaahfjklhaaGreat
open Go.RowKit Go.ChangeShapes Go.WideShapes Go.Joins
set_option linter.unusedVariables false

set_option maxRecDepth 100000 in
set_option maxHeartbeats 1000000 in
theorem op_eql (k a1 a2 a3 a4 a5 a6 a7 a8 q b1 b2 b3 b4 b5 b6 b7 b8 : Int) (s t : List UInt8) (w : World) :
    (Go.binOp .eql 31 (.agg #[.int .i64 k, .int .i64 a1, .int .i64 a2, .int .i64 a3, .int .i64 a4, .int .i64 a5, .int .i64 a6, .int .i64 a7, .int .i64 a8, .string ⟨s.toArray⟩]) (.agg #[.int .i64 q, .int .i64 b1, .int .i64 b2, .int .i64 b3, .int .i64 b4, .int .i64 b5, .int .i64 b6, .int .i64 b7, .int .i64 b8, .string ⟨t.toArray⟩])).run Tryz.prog w =
      .ok (.bool (decide ((⟨k, [a1, a2, a3, a4, a5, a6, a7, a8], s⟩ : OpV) = ⟨q, [b1, b2, b3, b4, b5, b6, b7, b8], t⟩))) w := by
  by_cases e0 : k = q
  · subst e0
    by_cases e1 : a1 = b1
    · subst e1
      by_cases e2 : a2 = b2
      · subst e2
        by_cases e3 : a3 = b3
        · subst e3
          by_cases e4 : a4 = b4
          · subst e4
            by_cases e5 : a5 = b5
            · subst e5
              by_cases e6 : a6 = b6
              · subst e6
                by_cases e7 : a7 = b7
                · subst e7
                  by_cases e8 : a8 = b8
                  · subst e8
                    by_cases e9 : s = t
                    · subst e9
                      rw [decide_eq_true rfl]
                      go_simp
                    · rw [decide_eq_false (by simp [e9])]
                      have h : (s == t) = false := by simpa using e9
                      go_simp
                  · rw [decide_eq_false (by simp [e8])]
                    have h : (a8 == b8) = false := by simpa using e8
                    go_simp
                · rw [decide_eq_false (by simp [e7])]
                  have h : (a7 == b7) = false := by simpa using e7
                  go_simp
              · rw [decide_eq_false (by simp [e6])]
                have h : (a6 == b6) = false := by simpa using e6
                go_simp
            · rw [decide_eq_false (by simp [e5])]
              have h : (a5 == b5) = false := by simpa using e5
              go_simp
          · rw [decide_eq_false (by simp [e4])]
            have h : (a4 == b4) = false := by simpa using e4
            go_simp
        · rw [decide_eq_false (by simp [e3])]
          have h : (a3 == b3) = false := by simpa using e3
          go_simp
      · rw [decide_eq_false (by simp [e2])]
        have h : (a2 == b2) = false := by simpa using e2
        go_simp
    · rw [decide_eq_false (by simp [e1])]
      have h : (a1 == b1) = false := by simpa using e1
      go_simp
  · rw [decide_eq_false (by simp [e0])]
    have h : (k == q) = false := by simpa using e0
    go_simp
end Go.Proofs.YtnaabaahfjklhaaGreat
