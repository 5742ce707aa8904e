/- The document's reader: a field of a message. -/
import Derived.Test.YtagmlgeoefemfaaGreatWireRefFires
import Derived.Test.YtagmlgeoefemfaaGreatWireRefRow
import Derived.Test.YtagmlgeoefemfaaGreatWireOk
import Derived.Test.YtagmlgeoefemfaaGreatOpRefRead
namespace Go.Proofs.YtagmlgeoefemfaaGreat
open Go.RowKit Go.ChangeShapes Go.WideShapes Go.Joins Go.Deep Fld
set_option linter.unusedVariables false

/-- What a field's reading makes of a message: it may be held; the bytes of a field are read as that field. -/
structure FldQ (F : Fld) (M : MsgV) (l : List UInt8) (e : Int) (M' : MsgV) (l' : List UInt8) (e' : Int) : Prop where
  ok : MOk M → MOk M'
  kind : M'.kind = M.kind
  enc : ∀ A t, MOk A → okF F A → e = 0 → l = encFld A F ++ t → M' = setF F A M ∧ l' = t ∧ e' = 0
theorem rdFld_kind (F : Fld) (M : MsgV) (l : List UInt8) (e : Int) : (rdFld F M l e).1.kind = M.kind := by
  cases F <;> simp only [rdFld]
  split <;> rfl
theorem fldQ_rd (F : Fld) (M : MsgV) (l : List UInt8) (e : Int) (hl : l.length ≤ 1000000) : FldQ F M l e (rdFld F M l e).1 (rdFld F M l e).2.1 (rdFld F M l e).2.2 := by
  refine ⟨fun h => rdFld_ok F h l e hl, rdFld_kind F M l e, ?_⟩
  rintro A t hA hF rfl rfl
  rw [rdFld_enc hA F hF M t]
  exact ⟨rfl, rfl, rfl⟩
theorem rdIs_1 {l l1 : List UInt8} {e e1 : Int} {v1 : Nat} (h1 : rdU l e = (v1, l1, e1)) : rdIs 1 l e = ([zag v1], l1, e1) := by simp only [rdIs, h1]; rfl
theorem rdIs_2 {l l1 l2 : List UInt8} {e e1 e2 : Int} {v1 v2 : Nat} (h1 : rdU l e = (v1, l1, e1)) (h2 : rdU l1 e1 = (v2, l2, e2)) : rdIs 2 l e = ([zag v1, zag v2], l2, e2) := by simp only [rdIs, h1, h2]; rfl
theorem rdIs_3 {l l1 l2 l3 : List UInt8} {e e1 e2 e3 : Int} {v1 v2 v3 : Nat} (h1 : rdU l e = (v1, l1, e1)) (h2 : rdU l1 e1 = (v2, l2, e2)) (h3 : rdU l2 e2 = (v3, l3, e3)) : rdIs 3 l e = ([zag v1, zag v2, zag v3], l3, e3) := by simp only [rdIs, h1, h2, h3]; rfl
set_option maxRecDepth 100000 in
set_option maxHeartbeats 2000000 in

theorem qf_fE {w : World} {m b : Nat} {S l : List UInt8} {e : Int} {cs : List Value} (hM : BlkAt w m 34 cs) {x4 : Int} (h4 : cs[4]? = some (.int .i64 x4)) (hmb : m ≠ b) (hR : RfOn w b S l e) (hS : S.length ≤ 1000000) {v1 : Nat} {l1 : List UInt8} {e1 : Int} (hr1 : rdU l e = (v1, l1, e1)) :
    Calls Tryz.prog 30 #[.pointer (some ⟨m, 0, none⟩), .pointer (some ⟨b, 0, none⟩), .int .u8 101] w fun en w' => en = .returned (.tuple #[]) ∧ RfOn w' b S l1 e1 ∧ BlkAt w' m 34 (cs.set 4 (.int .i64 (zag v1))) ∧ RKeep w w' b m := by
  have hk : RKeep w w b m := RKeep.refl _ _ _
  have HR1 := Lib.hid hr1
  clear hr1
  go_enter Tryz.func30, Tryz.ntmps30
  go_wp2_with fail
  refine (qint_at (by exact hR) hS HR1.out).mono ?_
  rintro en w1 ⟨rfl, hR, hg⟩
  have hM := hM.grown hg hmb
  have mc := hM.cell (i := 4) (v := .int .i64 x4) (h4)
  have hf := hM.free 4
  have G := grown_setCell w1 m 4 (.int .i64 (zag v1))
  have hkn := hk.trans ((RKeep.grown hg).trans (RKeep.grownM G))
  clear hk
  have hk := hkn
  clear hkn hg
  have HM := Lib.hid (hM.set 4 (.int .i64 (zag v1)))
  have HR := Lib.hid (hR.grown G hmb.symm)
  have HK := Lib.hid hk
  clear hM hR hk G
  go_wp2_with fail
  go_end0
  exact ⟨rfl, HR.out, HM.out, HK.out⟩
set_option maxRecDepth 100000 in
set_option maxHeartbeats 2000000 in

theorem qf_fS {w : World} {m b : Nat} {S l : List UInt8} {e : Int} {cs : List Value} (hM : BlkAt w m 34 cs) {x5 : Int} (h5 : cs[5]? = some (.int .i64 x5)) (hmb : m ≠ b) (hR : RfOn w b S l e) (hS : S.length ≤ 1000000) {v1 : Nat} {l1 : List UInt8} {e1 : Int} (hr1 : rdU l e = (v1, l1, e1)) :
    Calls Tryz.prog 30 #[.pointer (some ⟨m, 0, none⟩), .pointer (some ⟨b, 0, none⟩), .int .u8 115] w fun en w' => en = .returned (.tuple #[]) ∧ RfOn w' b S l1 e1 ∧ BlkAt w' m 34 (cs.set 5 (.int .i64 (zag v1))) ∧ RKeep w w' b m := by
  have hk : RKeep w w b m := RKeep.refl _ _ _
  have HR1 := Lib.hid hr1
  clear hr1
  go_enter Tryz.func30, Tryz.ntmps30
  go_wp2_with fail
  refine (qint_at (by exact hR) hS HR1.out).mono ?_
  rintro en w1 ⟨rfl, hR, hg⟩
  have hM := hM.grown hg hmb
  have mc := hM.cell (i := 5) (v := .int .i64 x5) (h5)
  have hf := hM.free 5
  have G := grown_setCell w1 m 5 (.int .i64 (zag v1))
  have hkn := hk.trans ((RKeep.grown hg).trans (RKeep.grownM G))
  clear hk
  have hk := hkn
  clear hkn hg
  have HM := Lib.hid (hM.set 5 (.int .i64 (zag v1)))
  have HR := Lib.hid (hR.grown G hmb.symm)
  have HK := Lib.hid hk
  clear hM hR hk G
  go_wp2_with fail
  go_end0
  exact ⟨rfl, HR.out, HM.out, HK.out⟩
set_option maxRecDepth 100000 in
set_option maxHeartbeats 2000000 in

theorem qf_fU {w : World} {m b : Nat} {S l : List UInt8} {e : Int} {cs : List Value} (hM : BlkAt w m 34 cs) {x9 : Int} (h9 : cs[9]? = some (.int .i64 x9)) (hmb : m ≠ b) (hR : RfOn w b S l e) (hS : S.length ≤ 1000000) {v1 : Nat} {l1 : List UInt8} {e1 : Int} (hr1 : rdU l e = (v1, l1, e1)) :
    Calls Tryz.prog 30 #[.pointer (some ⟨m, 0, none⟩), .pointer (some ⟨b, 0, none⟩), .int .u8 117] w fun en w' => en = .returned (.tuple #[]) ∧ RfOn w' b S l1 e1 ∧ BlkAt w' m 34 (cs.set 9 (.int .i64 (zag v1))) ∧ RKeep w w' b m := by
  have hk : RKeep w w b m := RKeep.refl _ _ _
  have HR1 := Lib.hid hr1
  clear hr1
  go_enter Tryz.func30, Tryz.ntmps30
  go_wp2_with fail
  refine (qint_at (by exact hR) hS HR1.out).mono ?_
  rintro en w1 ⟨rfl, hR, hg⟩
  have hM := hM.grown hg hmb
  have mc := hM.cell (i := 9) (v := .int .i64 x9) (h9)
  have hf := hM.free 9
  have G := grown_setCell w1 m 9 (.int .i64 (zag v1))
  have hkn := hk.trans ((RKeep.grown hg).trans (RKeep.grownM G))
  clear hk
  have hk := hkn
  clear hkn hg
  have HM := Lib.hid (hM.set 9 (.int .i64 (zag v1)))
  have HR := Lib.hid (hR.grown G hmb.symm)
  have HK := Lib.hid hk
  clear hM hR hk G
  go_wp2_with fail
  go_end0
  exact ⟨rfl, HR.out, HM.out, HK.out⟩
set_option maxRecDepth 100000 in
set_option maxHeartbeats 2000000 in

theorem qf_fL {w : World} {m b : Nat} {S l : List UInt8} {e : Int} {cs : List Value} (hM : BlkAt w m 34 cs) {x27 : Int} (h27 : cs[27]? = some (.int .i64 x27)) (hmb : m ≠ b) (hR : RfOn w b S l e) (hS : S.length ≤ 1000000) {v1 : Nat} {l1 : List UInt8} {e1 : Int} (hr1 : rdU l e = (v1, l1, e1)) :
    Calls Tryz.prog 30 #[.pointer (some ⟨m, 0, none⟩), .pointer (some ⟨b, 0, none⟩), .int .u8 108] w fun en w' => en = .returned (.tuple #[]) ∧ RfOn w' b S l1 e1 ∧ BlkAt w' m 34 (cs.set 27 (.int .i64 (zag v1))) ∧ RKeep w w' b m := by
  have hk : RKeep w w b m := RKeep.refl _ _ _
  have HR1 := Lib.hid hr1
  clear hr1
  go_enter Tryz.func30, Tryz.ntmps30
  go_wp2_with fail
  refine (qint_at (by exact hR) hS HR1.out).mono ?_
  rintro en w1 ⟨rfl, hR, hg⟩
  have hM := hM.grown hg hmb
  have mc := hM.cell (i := 27) (v := .int .i64 x27) (h27)
  have hf := hM.free 27
  have G := grown_setCell w1 m 27 (.int .i64 (zag v1))
  have hkn := hk.trans ((RKeep.grown hg).trans (RKeep.grownM G))
  clear hk
  have hk := hkn
  clear hkn hg
  have HM := Lib.hid (hM.set 27 (.int .i64 (zag v1)))
  have HR := Lib.hid (hR.grown G hmb.symm)
  have HK := Lib.hid hk
  clear hM hR hk G
  go_wp2_with fail
  go_end0
  exact ⟨rfl, HR.out, HM.out, HK.out⟩
set_option maxRecDepth 100000 in
set_option maxHeartbeats 2000000 in

theorem qf_fQ {w : World} {m b : Nat} {S l : List UInt8} {e : Int} {cs : List Value} (hM : BlkAt w m 34 cs) {x6 : Int} (h6 : cs[6]? = some (.int .i64 x6)) (hmb : m ≠ b) (hR : RfOn w b S l e) (hS : S.length ≤ 1000000) {v1 : Nat} {l1 : List UInt8} {e1 : Int} (hr1 : rdU l e = (v1, l1, e1)) :
    Calls Tryz.prog 30 #[.pointer (some ⟨m, 0, none⟩), .pointer (some ⟨b, 0, none⟩), .int .u8 113] w fun en w' => en = .returned (.tuple #[]) ∧ RfOn w' b S l1 e1 ∧ BlkAt w' m 34 (cs.set 6 (.int .i64 (zag v1))) ∧ RKeep w w' b m := by
  have hk : RKeep w w b m := RKeep.refl _ _ _
  have HR1 := Lib.hid hr1
  clear hr1
  go_enter Tryz.func30, Tryz.ntmps30
  go_wp2_with fail
  refine (qint_at (by exact hR) hS HR1.out).mono ?_
  rintro en w1 ⟨rfl, hR, hg⟩
  have hM := hM.grown hg hmb
  have mc := hM.cell (i := 6) (v := .int .i64 x6) (h6)
  have hf := hM.free 6
  have G := grown_setCell w1 m 6 (.int .i64 (zag v1))
  have hkn := hk.trans ((RKeep.grown hg).trans (RKeep.grownM G))
  clear hk
  have hk := hkn
  clear hkn hg
  have HM := Lib.hid (hM.set 6 (.int .i64 (zag v1)))
  have HR := Lib.hid (hR.grown G hmb.symm)
  have HK := Lib.hid hk
  clear hM hR hk G
  go_wp2_with fail
  go_end0
  exact ⟨rfl, HR.out, HM.out, HK.out⟩
set_option maxRecDepth 100000 in
set_option maxHeartbeats 2000000 in

theorem qf_fI {w : World} {m b : Nat} {S l : List UInt8} {e : Int} {cs : List Value} (hM : BlkAt w m 34 cs) {x8 : Int} (h8 : cs[8]? = some (.int .i64 x8)) (hmb : m ≠ b) (hR : RfOn w b S l e) (hS : S.length ≤ 1000000) {v1 : Nat} {l1 : List UInt8} {e1 : Int} (hr1 : rdU l e = (v1, l1, e1)) :
    Calls Tryz.prog 30 #[.pointer (some ⟨m, 0, none⟩), .pointer (some ⟨b, 0, none⟩), .int .u8 105] w fun en w' => en = .returned (.tuple #[]) ∧ RfOn w' b S l1 e1 ∧ BlkAt w' m 34 (cs.set 8 (.int .i64 (zag v1))) ∧ RKeep w w' b m := by
  have hk : RKeep w w b m := RKeep.refl _ _ _
  have HR1 := Lib.hid hr1
  clear hr1
  go_enter Tryz.func30, Tryz.ntmps30
  go_wp2_with fail
  refine (qint_at (by exact hR) hS HR1.out).mono ?_
  rintro en w1 ⟨rfl, hR, hg⟩
  have hM := hM.grown hg hmb
  have mc := hM.cell (i := 8) (v := .int .i64 x8) (h8)
  have hf := hM.free 8
  have G := grown_setCell w1 m 8 (.int .i64 (zag v1))
  have hkn := hk.trans ((RKeep.grown hg).trans (RKeep.grownM G))
  clear hk
  have hk := hkn
  clear hkn hg
  have HM := Lib.hid (hM.set 8 (.int .i64 (zag v1)))
  have HR := Lib.hid (hR.grown G hmb.symm)
  have HK := Lib.hid hk
  clear hM hR hk G
  go_wp2_with fail
  go_end0
  exact ⟨rfl, HR.out, HM.out, HK.out⟩
set_option maxRecDepth 100000 in
set_option maxHeartbeats 2000000 in

theorem qf_fT {w : World} {m b : Nat} {S l : List UInt8} {e : Int} {cs : List Value} (hM : BlkAt w m 34 cs) {x7 : Int} (h7 : cs[7]? = some (.int .i64 x7)) (hmb : m ≠ b) (hR : RfOn w b S l e) (hS : S.length ≤ 1000000) {v1 : Nat} {l1 : List UInt8} {e1 : Int} (hr1 : rdU l e = (v1, l1, e1)) :
    Calls Tryz.prog 30 #[.pointer (some ⟨m, 0, none⟩), .pointer (some ⟨b, 0, none⟩), .int .u8 116] w fun en w' => en = .returned (.tuple #[]) ∧ RfOn w' b S l1 e1 ∧ BlkAt w' m 34 (cs.set 7 (.int .i64 (zag v1))) ∧ RKeep w w' b m := by
  have hk : RKeep w w b m := RKeep.refl _ _ _
  have HR1 := Lib.hid hr1
  clear hr1
  go_enter Tryz.func30, Tryz.ntmps30
  go_wp2_with fail
  refine (qint_at (by exact hR) hS HR1.out).mono ?_
  rintro en w1 ⟨rfl, hR, hg⟩
  have hM := hM.grown hg hmb
  have mc := hM.cell (i := 7) (v := .int .i64 x7) (h7)
  have hf := hM.free 7
  have G := grown_setCell w1 m 7 (.int .i64 (zag v1))
  have hkn := hk.trans ((RKeep.grown hg).trans (RKeep.grownM G))
  clear hk
  have hk := hkn
  clear hkn hg
  have HM := Lib.hid (hM.set 7 (.int .i64 (zag v1)))
  have HR := Lib.hid (hR.grown G hmb.symm)
  have HK := Lib.hid hk
  clear hM hR hk G
  go_wp2_with fail
  go_end0
  exact ⟨rfl, HR.out, HM.out, HK.out⟩
set_option maxRecDepth 100000 in
set_option maxHeartbeats 2000000 in

theorem qf_fF {w : World} {m b : Nat} {S l : List UInt8} {e : Int} {cs : List Value} (hM : BlkAt w m 34 cs) {x2 : Int} (h2 : cs[2]? = some (.int .i64 x2)) {x3 : Int} (h3 : cs[3]? = some (.int .i64 x3)) (hmb : m ≠ b) (hR : RfOn w b S l e) (hS : S.length ≤ 1000000) {v1 : Nat} {l1 : List UInt8} {e1 : Int} (hr1 : rdU l e = (v1, l1, e1)) {v2 : Nat} {l2 : List UInt8} {e2 : Int} (hr2 : rdU l1 e1 = (v2, l2, e2)) :
    Calls Tryz.prog 30 #[.pointer (some ⟨m, 0, none⟩), .pointer (some ⟨b, 0, none⟩), .int .u8 102] w fun en w' => en = .returned (.tuple #[]) ∧ RfOn w' b S l2 e2 ∧ BlkAt w' m 34 ((cs.set 2 (.int .i64 (zag v1))).set 3 (.int .i64 (zag v2))) ∧ RKeep w w' b m := by
  have hk : RKeep w w b m := RKeep.refl _ _ _
  have HR1 := Lib.hid hr1
  have HR2 := Lib.hid hr2
  clear hr1 hr2
  go_enter Tryz.func30, Tryz.ntmps30
  go_wp2_with fail
  refine (qint_at (by exact hR) hS HR1.out).mono ?_
  rintro en w1 ⟨rfl, hR, hg⟩
  have hM := hM.grown hg hmb
  have mc := hM.cell (i := 2) (v := .int .i64 x2) (h2)
  have hf := hM.free 2
  have G := grown_setCell w1 m 2 (.int .i64 (zag v1))
  have hkn := hk.trans ((RKeep.grown hg).trans (RKeep.grownM G))
  clear hk
  have hk := hkn
  clear hkn hg
  go_upto_region 3 with (fail)
  have hM := hM.set 2 (.int .i64 (zag v1))
  have hR := hR.grown G hmb.symm
  change Code.wp _ _ _ _ (w1.setCell ⟨m, 2, none⟩ (.int .i64 (zag v1)))
  generalize w1.setCell ⟨m, 2, none⟩ (.int .i64 (zag v1)) = w2 at *
  clear G mc hf
  go_wp2_with fail
  refine (qint_at (by exact hR) hS HR2.out).mono ?_
  rintro en w3 ⟨rfl, hR, hg⟩
  have hM := hM.grown hg hmb
  have mc := hM.cell (i := 3) (v := .int .i64 x3) (by rw [List.getElem?_set_ne (by decide)]; exact h3)
  have hf := hM.free 3
  have G := grown_setCell w3 m 3 (.int .i64 (zag v2))
  have hkn := hk.trans ((RKeep.grown hg).trans (RKeep.grownM G))
  clear hk
  have hk := hkn
  clear hkn hg
  have HM := Lib.hid (hM.set 3 (.int .i64 (zag v2)))
  have HR := Lib.hid (hR.grown G hmb.symm)
  have HK := Lib.hid hk
  clear hM hR hk G
  go_wp2_with fail
  go_end0
  exact ⟨rfl, HR.out, HM.out, HK.out⟩
set_option maxRecDepth 100000 in
set_option maxHeartbeats 2000000 in

theorem qf_fR {w : World} {m b : Nat} {S l : List UInt8} {e : Int} {cs : List Value} (hM : BlkAt w m 34 cs) {x21 : Int} (h21 : cs[21]? = some (.int .i64 x21)) {x22 : Int} (h22 : cs[22]? = some (.int .i64 x22)) {x23 : Int} (h23 : cs[23]? = some (.int .i64 x23)) (hmb : m ≠ b) (hR : RfOn w b S l e) (hS : S.length ≤ 1000000) {v1 : Nat} {l1 : List UInt8} {e1 : Int} (hr1 : rdU l e = (v1, l1, e1)) {v2 : Nat} {l2 : List UInt8} {e2 : Int} (hr2 : rdU l1 e1 = (v2, l2, e2)) {v3 : Nat} {l3 : List UInt8} {e3 : Int} (hr3 : rdU l2 e2 = (v3, l3, e3)) :
    Calls Tryz.prog 30 #[.pointer (some ⟨m, 0, none⟩), .pointer (some ⟨b, 0, none⟩), .int .u8 114] w fun en w' => en = .returned (.tuple #[]) ∧ RfOn w' b S l3 e3 ∧ BlkAt w' m 34 (((cs.set 21 (.int .i64 (zag v1))).set 22 (.int .i64 (zag v2))).set 23 (.int .i64 (zag v3))) ∧ RKeep w w' b m := by
  have hk : RKeep w w b m := RKeep.refl _ _ _
  have HR1 := Lib.hid hr1
  have HR2 := Lib.hid hr2
  have HR3 := Lib.hid hr3
  clear hr1 hr2 hr3
  go_enter Tryz.func30, Tryz.ntmps30
  go_wp2_with fail
  refine (qint_at (by exact hR) hS HR1.out).mono ?_
  rintro en w1 ⟨rfl, hR, hg⟩
  have hM := hM.grown hg hmb
  have mc := hM.cell (i := 21) (v := .int .i64 x21) (h21)
  have hf := hM.free 21
  have G := grown_setCell w1 m 21 (.int .i64 (zag v1))
  have hkn := hk.trans ((RKeep.grown hg).trans (RKeep.grownM G))
  clear hk
  have hk := hkn
  clear hkn hg
  go_upto_region 22 with (fail)
  have hM := hM.set 21 (.int .i64 (zag v1))
  have hR := hR.grown G hmb.symm
  change Code.wp _ _ _ _ (w1.setCell ⟨m, 21, none⟩ (.int .i64 (zag v1)))
  generalize w1.setCell ⟨m, 21, none⟩ (.int .i64 (zag v1)) = w2 at *
  clear G mc hf
  go_wp2_with fail
  refine (qint_at (by exact hR) hS HR2.out).mono ?_
  rintro en w3 ⟨rfl, hR, hg⟩
  have hM := hM.grown hg hmb
  have mc := hM.cell (i := 22) (v := .int .i64 x22) (by rw [List.getElem?_set_ne (by decide)]; exact h22)
  have hf := hM.free 22
  have G := grown_setCell w3 m 22 (.int .i64 (zag v2))
  have hkn := hk.trans ((RKeep.grown hg).trans (RKeep.grownM G))
  clear hk
  have hk := hkn
  clear hkn hg
  go_upto_region 23 with (fail)
  have hM := hM.set 22 (.int .i64 (zag v2))
  have hR := hR.grown G hmb.symm
  change Code.wp _ _ _ _ (w3.setCell ⟨m, 22, none⟩ (.int .i64 (zag v2)))
  generalize w3.setCell ⟨m, 22, none⟩ (.int .i64 (zag v2)) = w4 at *
  clear G mc hf
  go_wp2_with fail
  refine (qint_at (by exact hR) hS HR3.out).mono ?_
  rintro en w5 ⟨rfl, hR, hg⟩
  have hM := hM.grown hg hmb
  have mc := hM.cell (i := 23) (v := .int .i64 x23) (by rw [List.getElem?_set_ne (by decide)]; rw [List.getElem?_set_ne (by decide)]; exact h23)
  have hf := hM.free 23
  have G := grown_setCell w5 m 23 (.int .i64 (zag v3))
  have hkn := hk.trans ((RKeep.grown hg).trans (RKeep.grownM G))
  clear hk
  have hk := hkn
  clear hkn hg
  have HM := Lib.hid (hM.set 23 (.int .i64 (zag v3)))
  have HR := Lib.hid (hR.grown G hmb.symm)
  have HK := Lib.hid hk
  clear hM hR hk G
  go_wp2_with fail
  go_end0
  exact ⟨rfl, HR.out, HM.out, HK.out⟩
set_option maxRecDepth 100000 in
set_option maxHeartbeats 2000000 in

theorem qf_fG {w : World} {m b : Nat} {S l : List UInt8} {e : Int} {cs : List Value} (hM : BlkAt w m 34 cs) {x10 : Bool} (h10 : cs[10]? = some (.bool x10)) (hmb : m ≠ b) (hR : RfOn w b S l e) (hS : S.length ≤ 1000000) {n : Nat} {l1 : List UInt8} {e1 : Int} (hr : rdB l e = (n, l1, e1)) :
    Calls Tryz.prog 30 #[.pointer (some ⟨m, 0, none⟩), .pointer (some ⟨b, 0, none⟩), .int .u8 103] w fun en w' => en = .returned (.tuple #[]) ∧ RfOn w' b S l1 e1 ∧ BlkAt w' m 34 (cs.set 10 (.bool (decide (0 < n)))) ∧ RKeep w w' b m := by
  have HR1 := Lib.hid hr
  clear hr
  go_enter Tryz.func30, Tryz.ntmps30
  go_wp2_with fail
  refine (qbyte_at (by exact hR) hS HR1.out).mono ?_
  rintro en w1 ⟨rfl, hR, hg⟩
  have hM := hM.grown hg hmb
  have mc := hM.cell (i := 10) (v := .bool x10) h10
  have hf := hM.free 10
  have G := grown_setCell w1 m 10 (.bool (decide (0 < n)))
  have HK := Lib.hid ((RKeep.grown hg).trans (RKeep.grownM G))
  have HM := Lib.hid (hM.set 10 (.bool (decide (0 < n))))
  have HR := Lib.hid (hR.grown G hmb.symm)
  clear hM hR G hg
  go_wp2_with fail
  go_end0
  exact ⟨rfl, HR.out, HM.out, HK.out⟩
set_option maxRecDepth 100000 in
set_option maxHeartbeats 2000000 in

theorem qf_fC {w : World} {m b : Nat} {S l : List UInt8} {e : Int} {cs : List Value} (hM : BlkAt w m 34 cs) {x24 : Int} {x25 : Value} (h24 : cs[24]? = some (.int .i64 x24)) (h25 : cs[25]? = some x25) (hmb : m ≠ b) (hR : RfOn w b S l e) (hS : S.length ≤ 1000000) {c : ConfV} {l1 : List UInt8} {e1 : Int} (hr : takeC l e = (c, l1, e1)) :
    Calls Tryz.prog 30 #[.pointer (some ⟨m, 0, none⟩), .pointer (some ⟨b, 0, none⟩), .int .u8 99] w fun en w' => en = .returned (.tuple #[]) ∧ ∃ v l2 e2, RfOn w' b S l2 e2 ∧ (e1 = 0 → l2 = l1 ∧ e2 = 0) ∧ ChainFrom w.heap.size w' v c.chain ∧ BlkAt w' m 34 ((cs.set 24 (.int .i64 c.epoch)).set 25 v) ∧ RKeep w w' b m := by
  have HR1 := Lib.hid hr
  have hml := hM.lt
  clear hr
  go_enter Tryz.func30, Tryz.ntmps30
  go_wp2_with fail
  refine (qctake_new (by exact hR) hS HR1.out).mono ?_
  rintro en w1 ⟨v, l2, e2, rfl, hcv, hR, hle, hg, hfr⟩
  have hM := hM.grown hg hmb
  obtain ⟨ep, ch⟩ := c
  obtain ⟨av, capv, rfl, hsv⟩ := hcv
  have hcv : ChainAt w1 (.slice av ch.length capv) ch := ⟨av, capv, rfl, hsv⟩
  clear hsv
  have mc := hM.cell (i := 24) (v := .int .i64 x24) h24
  have md := hM.cell (i := 25) (v := x25) h25
  have hf := hM.free
  have G1 := grown_setCell w1 m 24 (.int .i64 ep)
  have G2 := grown_setCell (w1.setCell ⟨m, 24, none⟩ (.int .i64 ep)) m 25 (.slice av ch.length capv)
  have hcf : ChainFrom w.heap.size w1 (.slice av ch.length capv) ch := ⟨hcv, hfr⟩
  have HV := Lib.hid ((hcf.grown G1 hml).grown G2 hml)
  have HM := Lib.hid ((hM.set 24 (.int .i64 ep)).set 25 (.slice av ch.length capv))
  have HR := Lib.hid ((hR.grown G1 hmb.symm).grown G2 hmb.symm)
  have HK := Lib.hid ((RKeep.grown hg).trans ((RKeep.grownM G1).trans (RKeep.grownM G2)))
  have HL := Lib.hid hle
  clear hM hR hg G1 G2 hcv hcf hfr hle
  go_wp2_with fail
  go_end0
  exact ⟨rfl, _, _, _, HR.out, HL.out, HV.out, HM.out, HK.out⟩
set_option maxRecDepth 100000 in
set_option maxHeartbeats 2000000 in

theorem qf_fO {w : World} {m b : Nat} {S l : List UInt8} {e : Int} {cs : List Value} (hM : BlkAt w m 34 cs) {x11 x12 x13 x14 x15 x16 x17 x18 x19 : Int} {x20 : ByteArray} (h11 : cs[11]? = some (.int .i64 x11)) (h12 : cs[12]? = some (.int .i64 x12)) (h13 : cs[13]? = some (.int .i64 x13)) (h14 : cs[14]? = some (.int .i64 x14)) (h15 : cs[15]? = some (.int .i64 x15)) (h16 : cs[16]? = some (.int .i64 x16)) (h17 : cs[17]? = some (.int .i64 x17)) (h18 : cs[18]? = some (.int .i64 x18)) (h19 : cs[19]? = some (.int .i64 x19)) (h20 : cs[20]? = some (.string x20)) (hmb : m ≠ b) (hR : RfOn w b S l e) (hS : S.length ≤ 1000000)
    {k a1 a2 a3 a4 a5 a6 a7 a8 : Int} {oc : List UInt8} {okb : Bool} {l1 : List UInt8} {e1 : Int} (hr : qTake l e = (⟨k, [a1, a2, a3, a4, a5, a6, a7, a8], oc⟩, okb, l1, e1)) :
    Calls Tryz.prog 30 #[.pointer (some ⟨m, 0, none⟩), .pointer (some ⟨b, 0, none⟩), .int .u8 111] w fun en w' => en = .returned (.tuple #[]) ∧ RfOn w' b S l1 e1 ∧ BlkAt w' m 34 ((((((((((cs.set 11 (.int .i64 k)).set 12 (.int .i64 a1)).set 13 (.int .i64 a2)).set 14 (.int .i64 a3)).set 15 (.int .i64 a4)).set 16 (.int .i64 a5)).set 17 (.int .i64 a6)).set 18 (.int .i64 a7)).set 19 (.int .i64 a8)).set 20 (.string ⟨oc.toArray⟩)) ∧ RKeep w w' b m := by
  have HR1 := Lib.hid hr
  clear hr
  go_enter Tryz.func30, Tryz.ntmps30
  go_wp2_with fail
  refine (qotake_at (by exact hR) hS HR1.out).mono ?_
  rintro en w1 ⟨rfl, hR, hg⟩
  have hM := hM.grown hg hmb
  obtain ⟨ops, hops⟩ : ∃ ops : List Value, ops = [.int .i64 k, .int .i64 a1, .int .i64 a2, .int .i64 a3, .int .i64 a4, .int .i64 a5, .int .i64 a6, .int .i64 a7, .int .i64 a8, .string ⟨oc.toArray⟩] := ⟨_, rfl⟩
  rw [show opCells ⟨k, [a1, a2, a3, a4, a5, a6, a7, a8], oc⟩ = ops by rw [hops]; rfl]
  have hopl : (Tryz.prog.info? 25).map (·.size) = some ops.length := by subst hops; exact op_info
  have hop1 : ops.toArray.all (·.oneCell') = true := by subst hops; simp [Value.oneCell']
  have hth : w1.there m 11 ops.toArray.size := by subst hops; exact op_there hM ⟨h11, h12, h13, h14, h15, h16, h17, h18, h19, h20⟩
  have G := grown_setCells m ops 11 w1
  have HM := Lib.hid (show BlkAt (w1.setCells m 11 ops) m 34 _ by rw [hops]; exact ((((((((((hM.set 11 (.int .i64 k)).set 12 (.int .i64 a1)).set 13 (.int .i64 a2)).set 14 (.int .i64 a3)).set 15 (.int .i64 a4)).set 16 (.int .i64 a5)).set 17 (.int .i64 a6)).set 18 (.int .i64 a7)).set 19 (.int .i64 a8)).set 20 (.string ⟨oc.toArray⟩)))
  have HR := Lib.hid (hR.grown G hmb.symm)
  have HK := Lib.hid ((RKeep.grown hg).trans (RKeep.grownM G))
  clear hM hR hg G hops
  go_wp2_with (refine wpList_store_mid rfl 25 (.tmp 76) (.tmp 73) rfl m 11 ops.toArray rfl rfl (by exact hth) (by rw [List.size_toArray]; exact hopl) hop1 ?_; rw [List.toList_toArray])
  go_end0
  exact ⟨rfl, HR.out, HM.out, HK.out⟩
set_option maxRecDepth 100000 in
set_option maxHeartbeats 2000000 in

theorem qf_fX {w : World} {m b : Nat} {S l : List UInt8} {e : Int} {cs : List Value} (hM : BlkAt w m 34 cs) {x26 : Value} (h26 : cs[26]? = some x26) (hmb : m ≠ b) (hR : RfOn w b S l e) (hS : S.length ≤ 1000000) {n : Nat} {l1 : List UInt8} {e1 : Int} (hr : rdU l e = (n, l1, e1)) :
    Calls Tryz.prog 30 #[.pointer (some ⟨m, 0, none⟩), .pointer (some ⟨b, 0, none⟩), .int .u8 120] w fun en w' => en = .returned (.tuple #[]) ∧ ∃ v k, k ≤ n ∧ k ≤ 9 ∧ (k = n ∨ k = 9 ∨ (rdFires k l1 e1).2.2 ≠ 0) ∧ FiresFrom w.heap.size w' v (rdFires k l1 e1).1 ∧ RfOn w' b S (rdFires k l1 e1).2.1 (rdFires k l1 e1).2.2 ∧ BlkAt w' m 34 (cs.set 26 v) ∧ RKeep w w' b m := by
  have HR1 := Lib.hid hr
  have hml := hM.lt
  clear hr
  go_enter Tryz.func30, Tryz.ntmps30
  go_wp2_with fail
  refine (qfires_at (by exact hR) hS HR1.out).mono ?_
  rintro en w1 ⟨v, k, rfl, hk, hk9, hkx, hfv, hR, hg⟩
  have hM := hM.grown hg hmb
  have HX := Lib.hid hkx
  have mc := hM.cell (i := 26) (v := x26) h26
  have hf := hM.free 26
  obtain ⟨L, l2, e2, hRF⟩ : ∃ L l2 e2, rdFires k l1 e1 = (L, l2, e2) := ⟨_, _, _, rfl⟩
  rw [hRF] at HX hfv hR
  simp only at HX hfv hR
  have HRF := Lib.hid hRF
  clear hRF hkx
  obtain ⟨⟨av, capv, rfl, hsv⟩, hfo⟩ := hfv
  have hfv : FiresFrom w.heap.size w1 (.slice av L.length capv) L := ⟨⟨av, capv, rfl, hsv⟩, hfo⟩
  have G := grown_setCell w1 m 26 (.slice av L.length capv)
  have HV := Lib.hid (hfv.grown G hml)
  have HM := Lib.hid (hM.set 26 (.slice av L.length capv))
  have HR := Lib.hid (hR.grown G hmb.symm)
  have HK := Lib.hid ((RKeep.grown hg).trans (RKeep.grownM G))
  clear hM hR hg G hfv hsv hfo
  go_wp2_with fail
  go_end0
  refine ⟨rfl, .slice av L.length capv, k, hk, hk9, ?_⟩
  rw [HRF.out]
  exact ⟨HX.out, HV.out, HR.out, HM.out, HK.out⟩
theorem take_q_enc {o : OpV} (ho : OpOk o) (hm : mayOp o = true) (t : List UInt8) : qTake (encOp o ++ t) 0 = (o, true, t, 0) := by
  rw [qTake, raw_enc ho hm]
  simp [hm]
theorem fire_enc {A : MsgV} (hA : MOk A) (h8 : A.fires.length ≤ 8) {t : List UInt8} {n : Nat} {l1 : List UInt8} {e1 : Int} (hr : rdU (encFld A fX ++ t) 0 = (n, l1, e1)) {k : Nat} (hk : k ≤ n) (hx : k = n ∨ k = 9 ∨ (rdFires k l1 e1).2.2 ≠ 0) :
    rdFires k l1 e1 = (A.fires, t, 0) := by
  have h1 : encFld A fX ++ t = enc A.fires.length ++ (encX A.fires ++ t) := by show (enc _ ++ encX A.fires) ++ t = _; rw [List.append_assoc]
  rw [h1, rdU_enc A.fires.length (by unfold F64; omega)] at hr
  obtain ⟨rfl, rfl, rfl⟩ : A.fires.length = n ∧ encX A.fires ++ t = l1 ∧ (0 : Int) = e1 := by simpa using hr
  have h2 := rdFires_enc A.fires hA.fires t k hk
  rw [h2] at hx
  obtain rfl : k = A.fires.length := by rcases hx with h | h | h <;> first | exact h | omega | exact absurd rfl h
  rw [h2]
  simp [encX]

set_option maxRecDepth 100000 in
set_option maxHeartbeats 4000000 in
theorem qfield_at (F : Fld) {n : Nat} {w : World} {m b : Nat} {S l : List UInt8} {e : Int} {M : MsgV} (hM : MsgR n w m M) (hR : RfOn w b S l e) (hS : S.length ≤ 1000000) (hmb : m ≠ b) (hm : m < n) (hb : b < n) (hn : n ≤ w.heap.size) (hop : M.op.v.length = 8) :
    Calls Tryz.prog 30 #[.pointer (some ⟨m, 0, none⟩), .pointer (some ⟨b, 0, none⟩), .int .u8 ((charOf F).toNat : Int)] w fun en w' => en = .returned (.tuple #[]) ∧ ∃ M' l' e', FldQ F M l e M' l' e' ∧ MsgR n w' m M' ∧ RfOn w' b S l' e' ∧ RKeep w w' b m := by
  have hl : l.length ≤ 1000000 := Nat.le_trans hR.len hS
  have FQ := fldQ_rd F M l e hl
  obtain ⟨y1, y2, hM, hc, hf⟩ := hM
  obtain ⟨k, dst, fn, fl, ep, seq, req, cl, id, un, flag, op, re, rg, rd, cf, fires, life⟩ := M
  obtain ⟨ok, ov, oc⟩ := op
  obtain ⟨a1, a2, a3, a4, a5, a6, a7, a8, rfl⟩ := list8 hop
  obtain ⟨ce, ch⟩ := cf
  simp only at hc hf
  cases F with
  | fE =>
    obtain ⟨v1, l1, e1, r1⟩ : ∃ v l' e', rdU l e = (v, l', e') := ⟨_, _, _, rfl⟩
    simp only [rdFld, rdIs_1 r1] at FQ
    refine Calls.mono (qf_fE hM rfl hmb hR hS r1) ?_
    rintro en w' ⟨rfl, h2, h3, h4⟩
    exact ⟨rfl, ⟨k, dst, fn, fl, zag v1, seq, req, cl, id, un, flag, ⟨ok, [a1, a2, a3, a4, a5, a6, a7, a8], oc⟩, re, rg, rd, ⟨ce, ch⟩, fires, life⟩, _, _, FQ, ⟨y1, y2, h3, hc.rkeep h4 hb hm, hf.rkeep h4 hb hm⟩, h2, h4⟩
  | fS =>
    obtain ⟨v1, l1, e1, r1⟩ : ∃ v l' e', rdU l e = (v, l', e') := ⟨_, _, _, rfl⟩
    simp only [rdFld, rdIs_1 r1] at FQ
    refine Calls.mono (qf_fS hM rfl hmb hR hS r1) ?_
    rintro en w' ⟨rfl, h2, h3, h4⟩
    exact ⟨rfl, ⟨k, dst, fn, fl, ep, zag v1, req, cl, id, un, flag, ⟨ok, [a1, a2, a3, a4, a5, a6, a7, a8], oc⟩, re, rg, rd, ⟨ce, ch⟩, fires, life⟩, _, _, FQ, ⟨y1, y2, h3, hc.rkeep h4 hb hm, hf.rkeep h4 hb hm⟩, h2, h4⟩
  | fU =>
    obtain ⟨v1, l1, e1, r1⟩ : ∃ v l' e', rdU l e = (v, l', e') := ⟨_, _, _, rfl⟩
    simp only [rdFld, rdIs_1 r1] at FQ
    refine Calls.mono (qf_fU hM rfl hmb hR hS r1) ?_
    rintro en w' ⟨rfl, h2, h3, h4⟩
    exact ⟨rfl, ⟨k, dst, fn, fl, ep, seq, req, cl, id, zag v1, flag, ⟨ok, [a1, a2, a3, a4, a5, a6, a7, a8], oc⟩, re, rg, rd, ⟨ce, ch⟩, fires, life⟩, _, _, FQ, ⟨y1, y2, h3, hc.rkeep h4 hb hm, hf.rkeep h4 hb hm⟩, h2, h4⟩
  | fL =>
    obtain ⟨v1, l1, e1, r1⟩ : ∃ v l' e', rdU l e = (v, l', e') := ⟨_, _, _, rfl⟩
    simp only [rdFld, rdIs_1 r1] at FQ
    refine Calls.mono (qf_fL hM rfl hmb hR hS r1) ?_
    rintro en w' ⟨rfl, h2, h3, h4⟩
    exact ⟨rfl, ⟨k, dst, fn, fl, ep, seq, req, cl, id, un, flag, ⟨ok, [a1, a2, a3, a4, a5, a6, a7, a8], oc⟩, re, rg, rd, ⟨ce, ch⟩, fires, zag v1⟩, _, _, FQ, ⟨y1, y2, h3, hc.rkeep h4 hb hm, hf.rkeep h4 hb hm⟩, h2, h4⟩
  | fQ =>
    obtain ⟨v1, l1, e1, r1⟩ : ∃ v l' e', rdU l e = (v, l', e') := ⟨_, _, _, rfl⟩
    simp only [rdFld, rdIs_1 r1] at FQ
    refine Calls.mono (qf_fQ hM rfl hmb hR hS r1) ?_
    rintro en w' ⟨rfl, h2, h3, h4⟩
    exact ⟨rfl, ⟨k, dst, fn, fl, ep, seq, zag v1, cl, id, un, flag, ⟨ok, [a1, a2, a3, a4, a5, a6, a7, a8], oc⟩, re, rg, rd, ⟨ce, ch⟩, fires, life⟩, _, _, FQ, ⟨y1, y2, h3, hc.rkeep h4 hb hm, hf.rkeep h4 hb hm⟩, h2, h4⟩
  | fI =>
    obtain ⟨v1, l1, e1, r1⟩ : ∃ v l' e', rdU l e = (v, l', e') := ⟨_, _, _, rfl⟩
    simp only [rdFld, rdIs_1 r1] at FQ
    refine Calls.mono (qf_fI hM rfl hmb hR hS r1) ?_
    rintro en w' ⟨rfl, h2, h3, h4⟩
    exact ⟨rfl, ⟨k, dst, fn, fl, ep, seq, req, cl, zag v1, un, flag, ⟨ok, [a1, a2, a3, a4, a5, a6, a7, a8], oc⟩, re, rg, rd, ⟨ce, ch⟩, fires, life⟩, _, _, FQ, ⟨y1, y2, h3, hc.rkeep h4 hb hm, hf.rkeep h4 hb hm⟩, h2, h4⟩
  | fT =>
    obtain ⟨v1, l1, e1, r1⟩ : ∃ v l' e', rdU l e = (v, l', e') := ⟨_, _, _, rfl⟩
    simp only [rdFld, rdIs_1 r1] at FQ
    refine Calls.mono (qf_fT hM rfl hmb hR hS r1) ?_
    rintro en w' ⟨rfl, h2, h3, h4⟩
    exact ⟨rfl, ⟨k, dst, fn, fl, ep, seq, req, zag v1, id, un, flag, ⟨ok, [a1, a2, a3, a4, a5, a6, a7, a8], oc⟩, re, rg, rd, ⟨ce, ch⟩, fires, life⟩, _, _, FQ, ⟨y1, y2, h3, hc.rkeep h4 hb hm, hf.rkeep h4 hb hm⟩, h2, h4⟩
  | fF =>
    obtain ⟨v1, l1, e1, r1⟩ : ∃ v l' e', rdU l e = (v, l', e') := ⟨_, _, _, rfl⟩
    obtain ⟨v2, l2, e2, r2⟩ : ∃ v l' e', rdU l1 e1 = (v, l', e') := ⟨_, _, _, rfl⟩
    simp only [rdFld, rdIs_2 r1 r2] at FQ
    refine Calls.mono (qf_fF hM rfl rfl hmb hR hS r1 r2) ?_
    rintro en w' ⟨rfl, h2, h3, h4⟩
    exact ⟨rfl, ⟨k, dst, zag v1, zag v2, ep, seq, req, cl, id, un, flag, ⟨ok, [a1, a2, a3, a4, a5, a6, a7, a8], oc⟩, re, rg, rd, ⟨ce, ch⟩, fires, life⟩, _, _, FQ, ⟨y1, y2, h3, hc.rkeep h4 hb hm, hf.rkeep h4 hb hm⟩, h2, h4⟩
  | fR =>
    obtain ⟨v1, l1, e1, r1⟩ : ∃ v l' e', rdU l e = (v, l', e') := ⟨_, _, _, rfl⟩
    obtain ⟨v2, l2, e2, r2⟩ : ∃ v l' e', rdU l1 e1 = (v, l', e') := ⟨_, _, _, rfl⟩
    obtain ⟨v3, l3, e3, r3⟩ : ∃ v l' e', rdU l2 e2 = (v, l', e') := ⟨_, _, _, rfl⟩
    simp only [rdFld, rdIs_3 r1 r2 r3] at FQ
    refine Calls.mono (qf_fR hM rfl rfl rfl hmb hR hS r1 r2 r3) ?_
    rintro en w' ⟨rfl, h2, h3, h4⟩
    exact ⟨rfl, ⟨k, dst, fn, fl, ep, seq, req, cl, id, un, flag, ⟨ok, [a1, a2, a3, a4, a5, a6, a7, a8], oc⟩, zag v1, zag v2, zag v3, ⟨ce, ch⟩, fires, life⟩, _, _, FQ, ⟨y1, y2, h3, hc.rkeep h4 hb hm, hf.rkeep h4 hb hm⟩, h2, h4⟩
  | fG =>
    obtain ⟨q, l1, e1, r1⟩ : ∃ v l' e', rdB l e = (v, l', e') := ⟨_, _, _, rfl⟩
    refine Calls.mono (qf_fG hM rfl hmb hR hS r1) ?_
    rintro en w' ⟨rfl, h2, h3, h4⟩
    refine ⟨rfl, ⟨k, dst, fn, fl, ep, seq, req, cl, id, un, decide (0 < q), ⟨ok, [a1, a2, a3, a4, a5, a6, a7, a8], oc⟩, re, rg, rd, ⟨ce, ch⟩, fires, life⟩, _, _, ⟨fun h => ⟨h.nums, h.op, h.fires⟩, rfl, ?_⟩, ⟨y1, y2, h3, hc.rkeep h4 hb hm, hf.rkeep h4 hb hm⟩, h2, h4⟩
    rintro A t hA hF rfl rfl
    have h5 : encFld A fG ++ t = flagB A.flag :: t := rfl
    rw [h5, rdB_byte] at r1
    obtain ⟨rfl, rfl, rfl⟩ : (flagB A.flag).toNat = q ∧ t = l1 ∧ (0 : Int) = e1 := by simpa using r1
    refine ⟨?_, rfl, rfl⟩
    simp only [setF]
    rw [show decide (0 < (flagB A.flag).toNat) = A.flag by cases A.flag <;> rfl]
  | fC =>
    obtain ⟨c, l1, e1, r1⟩ : ∃ c l' e', takeC l e = (c, l', e') := ⟨_, _, _, rfl⟩
    simp only [rdFld, r1] at FQ
    refine Calls.mono (qf_fC hM rfl rfl hmb hR hS r1) ?_
    rintro en w' ⟨rfl, v, l2, e2, h2, hle, hv, h3, h4⟩
    obtain ⟨f1, f2, f3⟩ := FQ
    refine ⟨rfl, ⟨k, dst, fn, fl, ep, seq, req, cl, id, un, flag, ⟨ok, [a1, a2, a3, a4, a5, a6, a7, a8], oc⟩, re, rg, rd, c, fires, life⟩, l2, e2, ⟨f1, f2, ?_⟩, ⟨v, y2, h3, hv.mono hn, hf.rkeep h4 hb hm⟩, h2, h4⟩
    intro A t hA hF he hle2
    obtain ⟨g1, g2, g3⟩ := f3 A t hA hF he hle2
    obtain ⟨g4, g5⟩ := hle g3
    exact ⟨g1, g4.trans g2, g5⟩
  | fO =>
    obtain ⟨o, okb, l1, e1, r1⟩ : ∃ o okb l' e', qTake l e = (o, okb, l', e') := ⟨_, _, _, _, rfl⟩
    have hok := (qTake_ok l e hl).1
    rw [r1] at hok
    obtain ⟨pk, pv, pc⟩ := o
    obtain ⟨b1, b2, b3, b4, b5, b6, b7, b8, rfl⟩ := list8 hok.1
    refine Calls.mono (qf_fO hM rfl rfl rfl rfl rfl rfl rfl rfl rfl rfl hmb hR hS r1) ?_
    rintro en w' ⟨rfl, h2, h3, h4⟩
    refine ⟨rfl, ⟨k, dst, fn, fl, ep, seq, req, cl, id, un, flag, ⟨pk, [b1, b2, b3, b4, b5, b6, b7, b8], pc⟩, re, rg, rd, ⟨ce, ch⟩, fires, life⟩, _, _, ⟨fun h => ⟨h.nums, hok, h.fires⟩, rfl, ?_⟩, ⟨y1, y2, h3, hc.rkeep h4 hb hm, hf.rkeep h4 hb hm⟩, h2, h4⟩
    rintro A t hA hF rfl rfl
    have h5 : encFld A fO ++ t = encOp A.op ++ t := rfl
    rw [h5, take_q_enc hA.op hF] at r1
    obtain ⟨r2, rfl, rfl, rfl⟩ : A.op = ⟨pk, [b1, b2, b3, b4, b5, b6, b7, b8], pc⟩ ∧ true = okb ∧ t = l1 ∧ (0 : Int) = e1 := by simpa using r1
    exact ⟨by simp only [setF, r2], rfl, rfl⟩
  | fX =>
    obtain ⟨c, l1, e1, r1⟩ : ∃ c l' e', rdU l e = (c, l', e') := ⟨_, _, _, rfl⟩
    refine Calls.mono (qf_fX hM rfl hmb hR hS r1) ?_
    rintro en w' ⟨rfl, v, k', hk, hk9, hx, hv, h2, h3, h4⟩
    refine ⟨rfl, ⟨k, dst, fn, fl, ep, seq, req, cl, id, un, flag, ⟨ok, [a1, a2, a3, a4, a5, a6, a7, a8], oc⟩, re, rg, rd, ⟨ce, ch⟩, (rdFires k' l1 e1).1, life⟩, _, _, ⟨fun h => ⟨h.nums, h.op, rdFires_fit k' l1 e1⟩, rfl, ?_⟩, ⟨y1, v, h3, hc.rkeep h4 hb hm, hv.mono hn⟩, h2, h4⟩
    rintro A t hA hF rfl rfl
    rw [fire_enc hA hF r1 hk hx]
    exact ⟨rfl, rfl, rfl⟩
end Go.Proofs.YtagmlgeoefemfaaGreat
