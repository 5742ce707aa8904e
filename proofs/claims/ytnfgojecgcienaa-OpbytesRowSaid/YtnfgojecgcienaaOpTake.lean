/- The contracts of the reading half of package opbytes. -/
import Derived.Test.YtnfgojecgcienaaOpMay
import Derived.Test.YtnfgojecgcienaaCodecReader
import Derived.Test.YtnfgojecgcienaaGrown
import Derived.Deep.DeepCutAuto
namespace Go.Proofs.Ytnfgojecgcienaa
open Go.RowKit Go.ChangeShapes Go.WideShapes Go.Joins
set_option linter.unusedVariables false

theorem zero_op : ∀ w, (zeroValue 23).run Try.prog w = .ok (.agg (opCells opZero).toArray) w := fun w => by kernel_rfl
theorem zero_lit : ∀ w, (zeroValue 23).run Try.prog w = .ok (.agg #[.int .i64 0, .int .i64 0, .int .i64 0, .int .i64 0, .int .i64 0, .int .i64 0, .int .i64 0, .int .i64 0, .int .i64 0, .string ⟨#[]⟩]) w := fun w => by kernel_rfl
theorem op_info : (Try.prog.info? 23).map (·.size) = some 10 := by kernel_rfl

theorem rdU_len (l : List UInt8) (e : Int) : (rdU l e).2.1.length ≤ l.length := by
  rw [rdU]
  split
  · simp
  · exact Nat.le_refl _
theorem rdU_fit (l : List UInt8) (e : Int) : F64 (rdU l e).1 := by
  rw [rdU]
  split
  · exact (num_facts _).2.1
  · show (0 : Nat) < _
    decide
theorem zag_fit {n : Nat} (h : F64 n) : W64 (zag n) := by
  unfold F64 at h
  unfold zag
  split
  · exact W64.mk (by omega) (by omega)
  · exact W64.mk (by omega) (by omega)
theorem rdB_len (l : List UInt8) (e : Int) : (rdB l e).2.1.length ≤ l.length := by
  rw [rdB.eq_def]
  split
  · cases l <;> simp
  · exact Nat.le_refl _
theorem rdB_fit (l : List UInt8) (e : Int) : (rdB l e).1 < 256 := by
  rw [rdB.eq_def]
  split
  · cases l with
    | nil => simp
    | cons c r => exact c.toNat_lt
  · show 0 < 256
    omega
theorem rdS_len (l : List UInt8) (e m : Int) : (rdS l e m).2.1.length ≤ l.length ∧ (rdS l e m).1.length ≤ l.length := by
  rw [rdS]
  split
  · simp
  · split
    · simp
    · simp only [List.length_drop, List.length_take]
      omega
theorem rdI_facts : ∀ (k : Nat) (l : List UInt8) (e : Int), (rdI k l e).2.1.length ≤ l.length ∧ (rdI k l e).1.length = k ∧ ∀ x ∈ (rdI k l e).1, W64 x
  | 0, l, e => by simp [rdI]
  | k + 1, l, e => by
    have h := rdI_facts k (rdU l e).2.1 (rdU l e).2.2
    have hl := rdU_len l e
    refine ⟨by rw [rdI]; exact Nat.le_trans h.1 hl, by rw [rdI]; simp [h.2.1], ?_⟩
    rw [rdI]
    intro x hx
    simp only [List.mem_cons] at hx
    rcases hx with rfl | hx
    · exact zag_fit (rdU_fit l e)
    · exact h.2.2 x hx
theorem rawOp_ok (l : List UInt8) (e : Int) (hl : l.length ≤ 1000000) : OpOk (rawOp l e).1 ∧ (rawOp l e).2.1.length ≤ l.length := by
  have h1 := rdB_len l e
  have h2 := rdI_facts 8 (rdB l e).2.1 (rdB l e).2.2
  have h3 := rdS_len (rdI 8 (rdB l e).2.1 (rdB l e).2.2).2.1 (rdI 8 (rdB l e).2.1 (rdB l e).2.2).2.2 256
  have h4 := rdB_fit l e
  unfold rawOp
  refine ⟨⟨h2.2.1, W64.mk (by simp only; omega) (by simp only; omega), h2.2.2, ?_⟩, ?_⟩
  · unfold maxLen; simp only; omega
  · simp only; omega
theorem opZero_ok : OpOk opZero := ⟨rfl, W64.mk (by decide) (by decide), by intro x hx; simp [opZero] at hx; rw [hx]; exact W64.mk (by omega) (by omega), by decide⟩

/-- Where an operation's eight numbers lie. -/
def ptrCells (C : Nat) : List Value := [.pointer (some ⟨C, 1, none⟩), .pointer (some ⟨C, 2, none⟩), .pointer (some ⟨C, 3, none⟩), .pointer (some ⟨C, 4, none⟩), .pointer (some ⟨C, 5, none⟩), .pointer (some ⟨C, 6, none⟩), .pointer (some ⟨C, 7, none⟩), .pointer (some ⟨C, 8, none⟩)]
theorem ptr_get (C : Nat) {k : Nat} (h : k < 8) : (ptrCells C)[k]? = some (.pointer (some ⟨C, 1 + k, none⟩)) := by
  match k, h with
  | 0, _ | 1, _ | 2, _ | 3, _ | 4, _ | 5, _ | 6, _ | 7, _ => rfl
theorem op_setv (K : Int) (v : List Int) (s : List UInt8) (k : Nat) (x : Int) (h : k < v.length) : (opCells ⟨K, v, s⟩).set (1 + k) (.int .i64 x) = opCells ⟨K, v.set k x, s⟩ := by
  unfold opCells
  rw [Nat.add_comm, List.set_cons_succ, List.set_append_left _ _ (by rw [icells_len]; exact h)]
  simp [icells, List.map_set]
theorem op_setc (K : Int) (v : List Int) (s t : List UInt8) (h : v.length = 8) : (opCells ⟨K, v, s⟩).set 9 (.string ⟨t.toArray⟩) = opCells ⟨K, v, t⟩ := by
  obtain ⟨a, b, c, d, e, f, g, i, rfl⟩ := list8 h
  rfl
theorem set_next {vs : List Int} {k : Nat} (hv : vs.length = k) (hk : k < 8) (x : Int) : (vs ++ List.replicate (8 - k) 0).set k x = (vs ++ [x]) ++ List.replicate (8 - (k + 1)) 0 := by
  rw [List.set_append_right _ _ (by omega), hv, Nat.sub_self, show 8 - k = (8 - (k + 1)) + 1 by omega, List.replicate_succ, List.set_cons_zero, List.append_assoc]
  rfl

set_option maxRecDepth 100000 in
set_option maxHeartbeats 2000000 in
theorem take_any {w : World} {b : Nat} {l : List UInt8} {e : Int} (h : RdAt w b l e) (hl : l.length ≤ 1000000) :
    Calls Try.prog 15 #[.pointer (some ⟨b, 0, none⟩)] w fun en w' => en = .returned (.agg (opCells (takeOp l e).1).toArray) ∧ RdAt w' b (takeOp l e).2.1 (takeOp l e).2.2 ∧ w.grownBy w' (some b) := by
  go_enter Try.func15, Try.ntmps15
  go_wp2_with fail
  have hC : BlkAt (w.alloc (.cells (opCells opZero).toArray 23)) w.heap.size 23 (opCells opZero) := BlkAt.new _ _ _
  have hR0 := h.below ((Below.refl _ _).alloc (Nat.le_refl _) (.cells (opCells opZero).toArray 23))
  have g0 := grown_alloc (World.grownBy.refl w (some b)) (.cells (opCells opZero).toArray 23)
  have hCb : w.heap.size ≠ b := by have := h.lt; omega
  change Calls _ _ _ (w.alloc (.cells (opCells opZero).toArray 23)) _
  generalize w.alloc (.cells (opCells opZero).toArray 23) = w0 at *
  have hCw : w.heap.size ≤ w.heap.size := Nat.le_refl _
  clear h
  refine (rbyte_any (by exact hR0) hl).mono ?_
  rintro en w1 ⟨rfl, hR1, g1⟩
  have hC1 := hC.grown g1 hCb
  have G1 := g0.trans g1
  have hk := rdB_fit l e
  have hkl := rdB_len l e
  obtain ⟨K, hK⟩ : ∃ K, K = (rdB l e).1 := ⟨_, rfl⟩
  have HX := Lib.hid (show takeOp l e = takeOp l e from rfl)
  rw [← hK] at hk ⊢
  have hk : (K : Int) < 256 := by omega
  have c0 := hC1.cell (op_cell0 opZero)
  have f0 := hC1.free 0
  have HK := Lib.hid hK
  clear hK hC hR0 g0 g1
  go_wp2_with fail
  have hR2 := (hR1.grown (grown_setCell w1 w.heap.size 0 (.int .i64 K)) hCb.symm).below ((Below.refl _ _).alloc (Nat.le_refl _) (.cells (ptrCells w.heap.size).toArray 61))
  have hC2 := (hC1.set 0 (.int .i64 K)).alloc (.cells (ptrCells w.heap.size).toArray 61)
  have hD2 := BlkAt.newAt (w := w1.setCell ⟨w.heap.size, 0, none⟩ (.int .i64 K)) (n := w1.heap.size) (by simp [World.setCell]) 61 (ptrCells w.heap.size)
  have G2 := grown_alloc (grown_far G1 (grown_setCell w1 w.heap.size 0 (.int .i64 K)) hCw) (.cells (ptrCells w.heap.size).toArray 61)
  have hDC : w1.heap.size ≠ w.heap.size := by have := hC1.lt; omega
  have hDb : w1.heap.size ≠ b := by have := hR1.lt; omega
  have hDw : w.heap.size ≤ w1.heap.size := G1.size
  change Code.wp _ _ _ _ ((w1.setCell ⟨w.heap.size, 0, none⟩ (.int .i64 K)).alloc (.cells (ptrCells w.heap.size).toArray 61))
  generalize (w1.setCell ⟨w.heap.size, 0, none⟩ (.int .i64 K)).alloc (.cells (ptrCells w.heap.size).toArray 61) = w2 at *
  generalize w1.heap.size = D at *
  clear hR1 hC1 G1 c0 f0
  generalize hL : (rdB l e).2.1 = L at *
  generalize hE : (rdB l e).2.2 = E at *
  have HL := Lib.hid hL
  have HE := Lib.hid hE
  clear hL hE
  go_loopw [19] (fun i wr => ∃ (k : Nat) (vs : List Int) (l' : List UInt8) (e' : Int), k ≤ 8 ∧ i = .int .i64 k ∧ vs.length = k ∧ l'.length ≤ l.length ∧ RdAt wr b l' e' ∧ BlkAt wr w.heap.size 23 (opCells ⟨K, vs ++ List.replicate (8 - k) 0, []⟩) ∧ BlkAt wr D 61 (ptrCells w.heap.size) ∧ w.grownBy wr (some b) ∧
      rdI 8 L E = (vs ++ (rdI (8 - k) l' e').1, (rdI (8 - k) l' e').2)) (fun i _ => 8 - (intOf i).toNat)
  case atStart => exact ⟨0, [], L, E, by omega, rfl, rfl, hkl, hR2, hC2, hD2, G2, rfl⟩
  case round =>
    obtain ⟨k, vs, l', e', hk8, rfl, hvs, hl', hR, hC, hD, hG, hI⟩ := hrel
    clear hR2 hC2 hD2 G2
    have HI := Lib.hid hI
    have HV := Lib.hid hvs
    clear hI hvs
    by_cases hlt : k < 8
    · have hp := hD.cell (ptr_get w.heap.size hlt)
      have HR := Lib.hid hR
      clear hR
      go_wp2_with fail
      refine (rint_any (by exact HR.out) (by omega)).mono ?_
      rintro en w3 ⟨rfl, hR3, g3⟩
      have hC3 := hC.grown g3 hCb
      have hD3 := hD.grown g3 hDb
      have G3 := hG.trans g3
      have hcell := hC3.cell (op_cellv (o := ⟨K, vs ++ List.replicate (8 - k) 0, []⟩) (j := k) (x := 0) (by
        have := HV.out
        show (vs ++ List.replicate (8 - k) 0)[k]? = some 0
        rw [List.getElem?_append_right (by omega), this, Nat.sub_self, show 8 - k = (8 - (k + 1)) + 1 by omega, List.replicate_succ]
        rfl))
      have hfree := hC3.free (1 + k)
      have HX := Lib.hid (show ∃ x, x = zag (rdU l' e').1 from ⟨_, rfl⟩)
      obtain ⟨x, hx⟩ := HX.out
      rw [← hx]
      have hl3 := rdU_len l' e'
      have HX := Lib.hid hx
      clear hC hD hG hx
      go_wp2_with fail
      go_roundw
      case rel =>
        refine ⟨k + 1, vs ++ [x], (rdU l' e').2.1, (rdU l' e').2.2, by omega, by go_num, by rw [List.length_append, HV.out]; rfl, by omega, hR3.grown (grown_setCell _ _ _ _) hCb.symm, ?_, hD3.grown (grown_setCell _ _ _ _) hDC, grown_far G3 (grown_setCell _ _ _ _) hCw, ?_⟩
        · have := hC3.set (1 + k) (.int .i64 x)
          rw [op_setv _ _ _ _ _ (by have := HV.out; simp; omega), set_next HV.out hlt] at this
          exact this
        · rw [HI.out, show 8 - k = (8 - (k + 1)) + 1 by omega, rdI, ← HX.out, List.append_assoc]
          rfl
      case measure => simp [intOf]; omega
    · have h8 : k = 8 := by omega
      subst h8
      have HI2 := Lib.hid (show rdI 8 L E = (vs, l', e') by rw [HI.out, show 8 - 8 = 0 from rfl, rdI]; simp)
      rw [show vs ++ List.replicate (8 - 8) (0 : Int) = vs by simp] at hC
      have HR := Lib.hid hR
      clear hR hD
      go_wp2_with fail
      refine (rstr_any (by exact HR.out) (by omega) (W64.mk (by omega) (by omega))).mono ?_
      rintro en w3 ⟨rfl, hR3, g3⟩
      have hC3 := hC.grown g3 hCb
      have G3 := hG.trans g3
      have c9 := hC3.cell (op_cell9 (o := ⟨K, vs, []⟩) HV.out)
      have f9 := hC3.free 9
      clear hC hG
      have hS := rdS_len l' e' 256
      have HRaw := Lib.hid (show rawOp l e = (⟨K, vs, (rdS l' e' 256).1⟩, (rdS l' e' 256).2.1, (rdS l' e' 256).2.2) by
        rw [rawOp, ← HK.out, HL.out, HE.out, HI2.out])
      have hok := (rawOp_ok l e hl).1
      rw [HRaw.out] at hok
      have HOk := Lib.hid hok
      clear hok
      generalize rdS l' e' 256 = S at *
      obtain ⟨s, l2, e2⟩ := S
      simp only at HRaw HOk hS hR3 ⊢
      go_upto_region 8 with (fail)
      have hR4 := hR3.grown (grown_setCell w3 w.heap.size 9 (.string ⟨s.toArray⟩)) hCb.symm
      have hC4 := hC3.set 9 (.string ⟨s.toArray⟩)
      rw [op_setc _ _ _ _ HV.out] at hC4
      have G4 := grown_far G3 (grown_setCell w3 w.heap.size 9 (.string ⟨s.toArray⟩)) hCw
      generalize w3.setCell ⟨w.heap.size, 9, none⟩ (.string ⟨s.toArray⟩) = w4 at *
      clear hR3 hC3 G3 c9 f9
      obtain ⟨a1, a2, a3, a4, a5, a6, a7, a8, rfl⟩ := list8 HV.out
      have HR4 := Lib.hid hR4
      clear hR4
      go_wp2_with fail
      refine (may_any (by exact hC4) HOk.out).mono ?_
      rintro en w' ⟨rfl, rfl⟩
      by_cases hm : mayOp ⟨K, [a1, a2, a3, a4, a5, a6, a7, a8], s⟩ = true
      · rw [hm]
        have HM := Lib.hid hm
        clear hm
        go_wp2_with fail
        refine (err_any (by exact HR4.out)).mono ?_
        rintro en w' ⟨rfl, rfl⟩
        by_cases h0 : e2 = 0
        · subst h0
          obtain ⟨h0, h1, h2, h3, h4, h5, h6, h7, h8, h9⟩ := op_conj hC4
          have hfr := hC4.free
          have HT := Lib.hid (show takeOp l e = (⟨K, [a1, a2, a3, a4, a5, a6, a7, a8], s⟩, l2, 0) by
            rw [takeOp, HRaw.out]
            simp only [HM.out, if_true])
          have HC := Lib.hid (hC4.stored (vs := opCells ⟨K, [a1, a2, a3, a4, a5, a6, a7, a8], s⟩) rfl)
          have HR := Lib.hid (HR4.out.grown (grown_setCells w.heap.size (opCells ⟨K, [a1, a2, a3, a4, a5, a6, a7, a8], s⟩) 0 w4) hCb.symm)
          have HG := Lib.hid (grown_far G4 (grown_setCells w.heap.size (opCells ⟨K, [a1, a2, a3, a4, a5, a6, a7, a8], s⟩) 0 w4) hCw)
          clear hC4
          go_wp2_with fail
          change bodyPost _ _ _ _ _ (w4.setCells w.heap.size 0 (opCells ⟨K, [a1, a2, a3, a4, a5, a6, a7, a8], s⟩))
          generalize w4.setCells w.heap.size 0 (opCells ⟨K, [a1, a2, a3, a4, a5, a6, a7, a8], s⟩) = w5 at *
          obtain ⟨h0, h1, h2, h3, h4, h5, h6, h7, h8, h9⟩ := op_conj HC.out
          exact bodyPost_ret (v := .agg (opCells ⟨K, [a1, a2, a3, a4, a5, a6, a7, a8], s⟩).toArray) (by simp [results, Try.results15, go_sem, h0, h1, h2, h3, h4, h5, h6, h7, h8, h9]; rfl) rfl ⟨by rw [HT.out], by rw [HT.out]; exact HR.out, HG.out⟩
        · have HT := Lib.hid (show takeOp l e = (opZero, l2, e2) by
            rw [takeOp, HRaw.out]
            simp only [HM.out, if_true, if_neg h0])
          have hz0 : (e2 == 0) = false := by simpa using h0
          clear h0
          obtain ⟨wz, rfl⟩ : ∃ wz : World, wz = w4 := ⟨_, rfl⟩
          simp only
          go_upto_region 11 with (fail)
          obtain ⟨h0_, h1, h2, h3, h4, h5, h6, h7, h8, h9⟩ := op_conj hC4
          have hfr := hC4.free
          have HC := Lib.hid (hC4.stored (vs := opCells opZero) rfl)
          have HR := Lib.hid (HR4.out.grown (grown_setCells w.heap.size (opCells opZero) 0 _) hCb.symm)
          have HG := Lib.hid (grown_far G4 (grown_setCells w.heap.size (opCells opZero) 0 _) hCw)
          clear hC4 G4 HR4
          go_wp2_with fail
          change bodyPost _ _ _ _ _ (wz.setCells w.heap.size 0 (opCells opZero))
          generalize wz.setCells w.heap.size 0 (opCells opZero) = w5 at *
          obtain ⟨h0, h1, h2, h3, h4, h5, h6, h7, h8, h9⟩ := op_conj HC.out
          exact bodyPost_ret (v := .agg (opCells opZero).toArray) (by simp [results, Try.results15, go_sem, h0, h1, h2, h3, h4, h5, h6, h7, h8, h9]; rfl) rfl ⟨by rw [HT.out], by rw [HT.out]; exact HR.out, HG.out⟩
      · have hm : mayOp ⟨K, [a1, a2, a3, a4, a5, a6, a7, a8], s⟩ = false := by simpa using hm
        rw [hm]
        have HM := Lib.hid hm
        clear hm
        go_wp2_with fail
        refine (fail_any (by exact HR4.out)).mono ?_
        rintro en w6 ⟨rfl, hR6, g6⟩
        have hC6 := hC4.grown g6 hCb
        have G6 := G4.trans g6
        have HR6 := Lib.hid hR6
        clear hC4 G4 HR4 hR6 g6
        have hf : fst_ e2 3 ≠ 0 := by unfold fst_; split <;> omega
        have HT := Lib.hid (show takeOp l e = (opZero, l2, fst_ e2 3) by
          rw [takeOp, HRaw.out]
          simp only [HM.out, Bool.false_eq_true, if_false, if_neg hf])
        have h0 : (fst_ e2 3 == 0) = false := by simpa using hf
        generalize fst_ e2 3 = e2 at *
        have hC4 := hC6
        have G4 := G6
        have HR4 := HR6
        clear hC6 G6 HR6
        clear hf
        go_wp2_with fail
        refine (err_any (by exact HR4.out)).mono ?_
        rintro en w' ⟨rfl, rfl⟩
        obtain ⟨wz, rfl⟩ : ∃ wz : World, wz = w6 := ⟨_, rfl⟩
        simp only
        go_upto_region 11 with (fail)
        obtain ⟨h0_, h1, h2, h3, h4, h5, h6, h7, h8, h9⟩ := op_conj hC4
        have hfr := hC4.free
        have HC := Lib.hid (hC4.stored (vs := opCells opZero) rfl)
        have HR := Lib.hid (HR4.out.grown (grown_setCells w.heap.size (opCells opZero) 0 _) hCb.symm)
        have HG := Lib.hid (grown_far G4 (grown_setCells w.heap.size (opCells opZero) 0 _) hCw)
        clear hC4 G4 HR4
        go_wp2_with fail
        change bodyPost _ _ _ _ _ (wz.setCells w.heap.size 0 (opCells opZero))
        generalize wz.setCells w.heap.size 0 (opCells opZero) = w5 at *
        obtain ⟨h0, h1, h2, h3, h4, h5, h6, h7, h8, h9⟩ := op_conj HC.out
        exact bodyPost_ret (v := .agg (opCells opZero).toArray) (by simp [results, Try.results15, go_sem, h0, h1, h2, h3, h4, h5, h6, h7, h8, h9]; rfl) rfl ⟨by rw [HT.out], by rw [HT.out]; exact HR.out, HG.out⟩
end Go.Proofs.Ytnfgojecgcienaa
