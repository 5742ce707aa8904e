/- The document's 'only': a message with the fields of its kind alone. -/
import Derived.Test.YtnaabaahfjklhaaGreatWireRefRow
import Derived.Deep.DeepCutAuto
namespace Go.Proofs.YtnaabaahfjklhaaGreat
open Go.RowKit Go.ChangeShapes Go.WideShapes Go.Joins Go.Deep Fld
set_option linter.unusedVariables false

/-- A message in a block, what it leads to there in w0. -/
def OutAt (w0 w : World) (o : Nat) (A : MsgV) : Prop := ∃ u1 u2, BlkAt w o 40 (msgCells A u1 u2) ∧ ChainAt w0 u1 A.cf.chain ∧ FiresAt w0 u2 A.fires ∧ A.op.v.length = 8
theorem setF_op {F : Fld} {M A : MsgV} (h : M.op.v.length = 8) (h2 : A.op.v.length = 8) : (setF F M A).op.v.length = 8 := by cases F <;> first | exact h | exact h2
theorem char_at {R : List Fld} {j : Nat} {F : Fld} (h : R[j]? = some F) : (R.map charOf)[j]? = some (charOf F) := by rw [List.getElem?_map, h]; rfl
theorem putF_snoc {R : List Fld} {j : Nat} {F : Fld} (h : R[j]? = some F) (M A : MsgV) : putF (R.take (j + 1)) M A = setF F M (putF (R.take j) M A) := by
  rw [List.take_add_one, h, Option.toList_some]
  simp [putF]

set_option maxRecDepth 100000 in
set_option maxHeartbeats 20000000 in

theorem qonly_lit {w : World} {k dst fn fl ep seq req cl id un : Int} {flag : Bool} {ok a1 a2 a3 a4 a5 a6 a7 a8 : Int} {oc : List UInt8} {re rg rd ce life : Int} {ch : List SeatV} {fires : List FireV} {va ua : Option Addr} {vc uc : Nat} (hv1 : ChainAt w (.slice va ch.length vc) ch) (hv2 : FiresAt w (.slice ua fires.length uc) fires) (hk : 1 ≤ k ∧ k ≤ 15) {M : MsgV} (hMM : (⟨k, dst, fn, fl, ep, seq, req, cl, id, un, flag, ⟨ok, [a1, a2, a3, a4, a5, a6, a7, a8], oc⟩, re, rg, rd, ⟨ce, ch⟩, fires, life⟩ : MsgV) = M) :
    Calls Tryz.prog 44 #[.agg #[.int .i64 k, .int .i64 dst, .int .i64 fn, .int .i64 fl, .int .i64 ep, .int .i64 seq, .int .i64 req, .int .i64 cl, .int .i64 id, .int .i64 un, .bool flag, .int .i64 ok, .int .i64 a1, .int .i64 a2, .int .i64 a3, .int .i64 a4, .int .i64 a5, .int .i64 a6, .int .i64 a7, .int .i64 a8, .string ⟨oc.toArray⟩, .int .i64 re, .int .i64 rg, .int .i64 rd, .int .i64 ce, .slice va ch.length vc, .slice ua fires.length uc, .int .i64 life]] w fun en w' => ∃ v, en = .returned v ∧ (onlyM M).At w' v ∧ Below w.heap.size w w' := by
  have hone0 : ([.int .i64 k, .int .i64 dst, .int .i64 0, .int .i64 0, .int .i64 0, .int .i64 0, .int .i64 0, .int .i64 0, .int .i64 0, .int .i64 0, .bool false, .int .i64 0, .int .i64 0, .int .i64 0, .int .i64 0, .int .i64 0, .int .i64 0, .int .i64 0, .int .i64 0, .int .i64 0, .string ⟨#[]⟩, .int .i64 0, .int .i64 0, .int .i64 0, .int .i64 0, .slice none 0 0, .slice none 0 0, .int .i64 0] : List Value).toArray.all (·.oneCell') = true := by simp [Value.oneCell']
  have HRL := Lib.hid (rowLen k)
  have hMk : M.kind = k := by rw [← hMM]
  have hMd : M.dst = dst := by rw [← hMM]
  have hMo : M.op.v.length = 8 := by rw [← hMM]; rfl
  have HON := Lib.hid (show onlyM M = putF (fieldsOf k) M { msgZero with kind := k, dst := dst } by rw [onlyM_put, hMk, hMd])
  go_enter Tryz.func44, Tryz.ntmps44
  go_upto_region 1 with (fail)
  have hA : BlkAt ((w.alloc (.cells #[.int .i64 k, .int .i64 dst, .int .i64 fn, .int .i64 fl, .int .i64 ep, .int .i64 seq, .int .i64 req, .int .i64 cl, .int .i64 id, .int .i64 un, .bool flag, .int .i64 ok, .int .i64 a1, .int .i64 a2, .int .i64 a3, .int .i64 a4, .int .i64 a5, .int .i64 a6, .int .i64 a7, .int .i64 a8, .string ⟨oc.toArray⟩, .int .i64 re, .int .i64 rg, .int .i64 rd, .int .i64 ce, .slice va ch.length vc, .slice ua fires.length uc, .int .i64 life] 40)).alloc (.cells #[.int .i64 0, .int .i64 0, .int .i64 0, .int .i64 0, .int .i64 0, .int .i64 0, .int .i64 0, .int .i64 0, .int .i64 0, .int .i64 0, .bool false, .int .i64 0, .int .i64 0, .int .i64 0, .int .i64 0, .int .i64 0, .int .i64 0, .int .i64 0, .int .i64 0, .int .i64 0, .string ⟨#[]⟩, .int .i64 0, .int .i64 0, .int .i64 0, .int .i64 0, .slice none 0 0, .slice none 0 0, .int .i64 0] 40)) w.heap.size 40 [.int .i64 k, .int .i64 dst, .int .i64 fn, .int .i64 fl, .int .i64 ep, .int .i64 seq, .int .i64 req, .int .i64 cl, .int .i64 id, .int .i64 un, .bool flag, .int .i64 ok, .int .i64 a1, .int .i64 a2, .int .i64 a3, .int .i64 a4, .int .i64 a5, .int .i64 a6, .int .i64 a7, .int .i64 a8, .string ⟨oc.toArray⟩, .int .i64 re, .int .i64 rg, .int .i64 rd, .int .i64 ce, .slice va ch.length vc, .slice ua fires.length uc, .int .i64 life] := (BlkAt.new w 40 [.int .i64 k, .int .i64 dst, .int .i64 fn, .int .i64 fl, .int .i64 ep, .int .i64 seq, .int .i64 req, .int .i64 cl, .int .i64 id, .int .i64 un, .bool flag, .int .i64 ok, .int .i64 a1, .int .i64 a2, .int .i64 a3, .int .i64 a4, .int .i64 a5, .int .i64 a6, .int .i64 a7, .int .i64 a8, .string ⟨oc.toArray⟩, .int .i64 re, .int .i64 rg, .int .i64 rd, .int .i64 ce, .slice va ch.length vc, .slice ua fires.length uc, .int .i64 life]).alloc _
  have hDz : BlkAt ((w.alloc (.cells #[.int .i64 k, .int .i64 dst, .int .i64 fn, .int .i64 fl, .int .i64 ep, .int .i64 seq, .int .i64 req, .int .i64 cl, .int .i64 id, .int .i64 un, .bool flag, .int .i64 ok, .int .i64 a1, .int .i64 a2, .int .i64 a3, .int .i64 a4, .int .i64 a5, .int .i64 a6, .int .i64 a7, .int .i64 a8, .string ⟨oc.toArray⟩, .int .i64 re, .int .i64 rg, .int .i64 rd, .int .i64 ce, .slice va ch.length vc, .slice ua fires.length uc, .int .i64 life] 40)).alloc (.cells #[.int .i64 0, .int .i64 0, .int .i64 0, .int .i64 0, .int .i64 0, .int .i64 0, .int .i64 0, .int .i64 0, .int .i64 0, .int .i64 0, .bool false, .int .i64 0, .int .i64 0, .int .i64 0, .int .i64 0, .int .i64 0, .int .i64 0, .int .i64 0, .int .i64 0, .int .i64 0, .string ⟨#[]⟩, .int .i64 0, .int .i64 0, .int .i64 0, .int .i64 0, .slice none 0 0, .slice none 0 0, .int .i64 0] 40)) (w.heap.size + 1) 40 [.int .i64 0, .int .i64 0, .int .i64 0, .int .i64 0, .int .i64 0, .int .i64 0, .int .i64 0, .int .i64 0, .int .i64 0, .int .i64 0, .bool false, .int .i64 0, .int .i64 0, .int .i64 0, .int .i64 0, .int .i64 0, .int .i64 0, .int .i64 0, .int .i64 0, .int .i64 0, .string ⟨#[]⟩, .int .i64 0, .int .i64 0, .int .i64 0, .int .i64 0, .slice none 0 0, .slice none 0 0, .int .i64 0] := BlkAt.newAt (by simp) 40 [.int .i64 0, .int .i64 0, .int .i64 0, .int .i64 0, .int .i64 0, .int .i64 0, .int .i64 0, .int .i64 0, .int .i64 0, .int .i64 0, .bool false, .int .i64 0, .int .i64 0, .int .i64 0, .int .i64 0, .int .i64 0, .int .i64 0, .int .i64 0, .int .i64 0, .int .i64 0, .string ⟨#[]⟩, .int .i64 0, .int .i64 0, .int .i64 0, .int .i64 0, .slice none 0 0, .slice none 0 0, .int .i64 0]
  have hb : Below w.heap.size w ((w.alloc (.cells #[.int .i64 k, .int .i64 dst, .int .i64 fn, .int .i64 fl, .int .i64 ep, .int .i64 seq, .int .i64 req, .int .i64 cl, .int .i64 id, .int .i64 un, .bool flag, .int .i64 ok, .int .i64 a1, .int .i64 a2, .int .i64 a3, .int .i64 a4, .int .i64 a5, .int .i64 a6, .int .i64 a7, .int .i64 a8, .string ⟨oc.toArray⟩, .int .i64 re, .int .i64 rg, .int .i64 rd, .int .i64 ce, .slice va ch.length vc, .slice ua fires.length uc, .int .i64 life] 40)).alloc (.cells #[.int .i64 0, .int .i64 0, .int .i64 0, .int .i64 0, .int .i64 0, .int .i64 0, .int .i64 0, .int .i64 0, .int .i64 0, .int .i64 0, .bool false, .int .i64 0, .int .i64 0, .int .i64 0, .int .i64 0, .int .i64 0, .int .i64 0, .int .i64 0, .int .i64 0, .int .i64 0, .string ⟨#[]⟩, .int .i64 0, .int .i64 0, .int .i64 0, .int .i64 0, .slice none 0 0, .slice none 0 0, .int .i64 0] 40)) := ((Below.refl w.heap.size w).alloc (Nat.le_refl _) _).alloc (by simp) _
  have hWs : w.heap.size + 2 ≤ ((w.alloc (.cells #[.int .i64 k, .int .i64 dst, .int .i64 fn, .int .i64 fl, .int .i64 ep, .int .i64 seq, .int .i64 req, .int .i64 cl, .int .i64 id, .int .i64 un, .bool flag, .int .i64 ok, .int .i64 a1, .int .i64 a2, .int .i64 a3, .int .i64 a4, .int .i64 a5, .int .i64 a6, .int .i64 a7, .int .i64 a8, .string ⟨oc.toArray⟩, .int .i64 re, .int .i64 rg, .int .i64 rd, .int .i64 ce, .slice va ch.length vc, .slice ua fires.length uc, .int .i64 life] 40)).alloc (.cells #[.int .i64 0, .int .i64 0, .int .i64 0, .int .i64 0, .int .i64 0, .int .i64 0, .int .i64 0, .int .i64 0, .int .i64 0, .int .i64 0, .bool false, .int .i64 0, .int .i64 0, .int .i64 0, .int .i64 0, .int .i64 0, .int .i64 0, .int .i64 0, .int .i64 0, .int .i64 0, .string ⟨#[]⟩, .int .i64 0, .int .i64 0, .int .i64 0, .int .i64 0, .slice none 0 0, .slice none 0 0, .int .i64 0] 40)).heap.size := by simp
  change Code.wp _ _ _ _ ((w.alloc (.cells #[.int .i64 k, .int .i64 dst, .int .i64 fn, .int .i64 fl, .int .i64 ep, .int .i64 seq, .int .i64 req, .int .i64 cl, .int .i64 id, .int .i64 un, .bool flag, .int .i64 ok, .int .i64 a1, .int .i64 a2, .int .i64 a3, .int .i64 a4, .int .i64 a5, .int .i64 a6, .int .i64 a7, .int .i64 a8, .string ⟨oc.toArray⟩, .int .i64 re, .int .i64 rg, .int .i64 rd, .int .i64 ce, .slice va ch.length vc, .slice ua fires.length uc, .int .i64 life] 40)).alloc (.cells #[.int .i64 0, .int .i64 0, .int .i64 0, .int .i64 0, .int .i64 0, .int .i64 0, .int .i64 0, .int .i64 0, .int .i64 0, .int .i64 0, .bool false, .int .i64 0, .int .i64 0, .int .i64 0, .int .i64 0, .int .i64 0, .int .i64 0, .int .i64 0, .int .i64 0, .int .i64 0, .string ⟨#[]⟩, .int .i64 0, .int .i64 0, .int .i64 0, .int .i64 0, .slice none 0 0, .slice none 0 0, .int .i64 0] 40))
  generalize (w.alloc (.cells #[.int .i64 k, .int .i64 dst, .int .i64 fn, .int .i64 fl, .int .i64 ep, .int .i64 seq, .int .i64 req, .int .i64 cl, .int .i64 id, .int .i64 un, .bool flag, .int .i64 ok, .int .i64 a1, .int .i64 a2, .int .i64 a3, .int .i64 a4, .int .i64 a5, .int .i64 a6, .int .i64 a7, .int .i64 a8, .string ⟨oc.toArray⟩, .int .i64 re, .int .i64 rg, .int .i64 rd, .int .i64 ce, .slice va ch.length vc, .slice ua fires.length uc, .int .i64 life] 40)).alloc (.cells #[.int .i64 0, .int .i64 0, .int .i64 0, .int .i64 0, .int .i64 0, .int .i64 0, .int .i64 0, .int .i64 0, .int .i64 0, .int .i64 0, .bool false, .int .i64 0, .int .i64 0, .int .i64 0, .int .i64 0, .int .i64 0, .int .i64 0, .int .i64 0, .int .i64 0, .int .i64 0, .string ⟨#[]⟩, .int .i64 0, .int .i64 0, .int .i64 0, .int .i64 0, .slice none 0 0, .slice none 0 0, .int .i64 0] 40) = W at *
  have hDn : w.heap.size ≤ w.heap.size + 1 := by omega
  have hDb : w.heap.size + 1 < w.heap.size + 2 := by omega
  have hD0 : w.heap.size + 1 ≠ w.heap.size := by omega
  generalize hDd : w.heap.size + 1 = D at *
  have c0 : W.cell? ⟨w.heap.size, 0, none⟩ = some (.int .i64 k) := hA.cell rfl
  have c1 : W.cell? ⟨w.heap.size, 1, none⟩ = some (.int .i64 dst) := hA.cell rfl
  have hlen0 : ([.int .i64 k, .int .i64 dst, .int .i64 0, .int .i64 0, .int .i64 0, .int .i64 0, .int .i64 0, .int .i64 0, .int .i64 0, .int .i64 0, .bool false, .int .i64 0, .int .i64 0, .int .i64 0, .int .i64 0, .int .i64 0, .int .i64 0, .int .i64 0, .int .i64 0, .int .i64 0, .string ⟨#[]⟩, .int .i64 0, .int .i64 0, .int .i64 0, .int .i64 0, .slice none 0 0, .slice none 0 0, .int .i64 0] : List Value).length = 28 := rfl
  have hX := BlkAt.new W 40 [.int .i64 0, .int .i64 0, .int .i64 0, .int .i64 0, .int .i64 0, .int .i64 0, .int .i64 0, .int .i64 0, .int .i64 0, .int .i64 0, .bool false, .int .i64 0, .int .i64 0, .int .i64 0, .int .i64 0, .int .i64 0, .int .i64 0, .int .i64 0, .int .i64 0, .int .i64 0, .string ⟨#[]⟩, .int .i64 0, .int .i64 0, .int .i64 0, .int .i64 0, .slice none 0 0, .slice none 0 0, .int .i64 0]
  have HL1 := Lib.hid (show ([.int .i64 k, .int .i64 dst, .int .i64 0, .int .i64 0, .int .i64 0, .int .i64 0, .int .i64 0, .int .i64 0, .int .i64 0, .int .i64 0, .bool false, .int .i64 0, .int .i64 0, .int .i64 0, .int .i64 0, .int .i64 0, .int .i64 0, .int .i64 0, .int .i64 0, .int .i64 0, .string ⟨#[]⟩, .int .i64 0, .int .i64 0, .int .i64 0, .int .i64 0, .slice none 0 0, .slice none 0 0, .int .i64 0] : List Value).length = ([.int .i64 0, .int .i64 0, .int .i64 0, .int .i64 0, .int .i64 0, .int .i64 0, .int .i64 0, .int .i64 0, .int .i64 0, .int .i64 0, .bool false, .int .i64 0, .int .i64 0, .int .i64 0, .int .i64 0, .int .i64 0, .int .i64 0, .int .i64 0, .int .i64 0, .int .i64 0, .string ⟨#[]⟩, .int .i64 0, .int .i64 0, .int .i64 0, .int .i64 0, .slice none 0 0, .slice none 0 0, .int .i64 0] : List Value).length by rw [hlen0]; rfl)
  have b4 := (Below.refl W.heap.size W).alloc (Nat.le_refl _) (.cells #[.int .i64 0, .int .i64 0, .int .i64 0, .int .i64 0, .int .i64 0, .int .i64 0, .int .i64 0, .int .i64 0, .int .i64 0, .int .i64 0, .bool false, .int .i64 0, .int .i64 0, .int .i64 0, .int .i64 0, .int .i64 0, .int .i64 0, .int .i64 0, .int .i64 0, .int .i64 0, .string ⟨#[]⟩, .int .i64 0, .int .i64 0, .int .i64 0, .int .i64 0, .slice none 0 0, .slice none 0 0, .int .i64 0] 40)
  have G4 := grown_setCells W.heap.size ([.int .i64 k, .int .i64 dst, .int .i64 0, .int .i64 0, .int .i64 0, .int .i64 0, .int .i64 0, .int .i64 0, .int .i64 0, .int .i64 0, .bool false, .int .i64 0, .int .i64 0, .int .i64 0, .int .i64 0, .int .i64 0, .int .i64 0, .int .i64 0, .int .i64 0, .int .i64 0, .string ⟨#[]⟩, .int .i64 0, .int .i64 0, .int .i64 0, .int .i64 0, .slice none 0 0, .slice none 0 0, .int .i64 0] : List Value) 0 (W.alloc (.cells #[.int .i64 0, .int .i64 0, .int .i64 0, .int .i64 0, .int .i64 0, .int .i64 0, .int .i64 0, .int .i64 0, .int .i64 0, .int .i64 0, .bool false, .int .i64 0, .int .i64 0, .int .i64 0, .int .i64 0, .int .i64 0, .int .i64 0, .int .i64 0, .int .i64 0, .int .i64 0, .string ⟨#[]⟩, .int .i64 0, .int .i64 0, .int .i64 0, .int .i64 0, .slice none 0 0, .slice none 0 0, .int .i64 0] 40))
  have b5 := b4.grown G4 b4.size (by intro j hj; cases hj; exact Nat.le_refl _)
  have hOn := hX.stored (vs := ([.int .i64 k, .int .i64 dst, .int .i64 0, .int .i64 0, .int .i64 0, .int .i64 0, .int .i64 0, .int .i64 0, .int .i64 0, .int .i64 0, .bool false, .int .i64 0, .int .i64 0, .int .i64 0, .int .i64 0, .int .i64 0, .int .i64 0, .int .i64 0, .int .i64 0, .int .i64 0, .string ⟨#[]⟩, .int .i64 0, .int .i64 0, .int .i64 0, .int .i64 0, .slice none 0 0, .slice none 0 0, .int .i64 0] : List Value)) HL1.out
  have HT := Lib.hid (blk_there2 hX HL1.out)
  have hAn := hA.below b5
  clear hA
  have hA := hAn
  clear hAn
  have hDzn := hDz.below b5
  clear hDz
  have hDz := hDzn
  clear hDzn
  have hbn := below_step hb b5
  clear hb
  have hb := hbn
  clear hbn
  clear hX b4 G4 b5 HL1
  go_upto_region 2 with (first | (refine wpList_store_mid rfl 40 (.tmp 3) (.tmp 10) rfl W.heap.size 0 ([.int .i64 k, .int .i64 dst, .int .i64 0, .int .i64 0, .int .i64 0, .int .i64 0, .int .i64 0, .int .i64 0, .int .i64 0, .int .i64 0, .bool false, .int .i64 0, .int .i64 0, .int .i64 0, .int .i64 0, .int .i64 0, .int .i64 0, .int .i64 0, .int .i64 0, .int .i64 0, .string ⟨#[]⟩, .int .i64 0, .int .i64 0, .int .i64 0, .int .i64 0, .slice none 0 0, .slice none 0 0, .int .i64 0] : List Value).toArray rfl rfl (by exact HT.out) (by rw [List.size_toArray, hlen0]; exact msg_info) hone0 ?_; rw [List.toList_toArray]))
  change Code.wp _ _ _ _ ((W.alloc (.cells #[.int .i64 0, .int .i64 0, .int .i64 0, .int .i64 0, .int .i64 0, .int .i64 0, .int .i64 0, .int .i64 0, .int .i64 0, .int .i64 0, .bool false, .int .i64 0, .int .i64 0, .int .i64 0, .int .i64 0, .int .i64 0, .int .i64 0, .int .i64 0, .int .i64 0, .int .i64 0, .string ⟨#[]⟩, .int .i64 0, .int .i64 0, .int .i64 0, .int .i64 0, .slice none 0 0, .slice none 0 0, .int .i64 0] 40)).setCells W.heap.size 0 ([.int .i64 k, .int .i64 dst, .int .i64 0, .int .i64 0, .int .i64 0, .int .i64 0, .int .i64 0, .int .i64 0, .int .i64 0, .int .i64 0, .bool false, .int .i64 0, .int .i64 0, .int .i64 0, .int .i64 0, .int .i64 0, .int .i64 0, .int .i64 0, .int .i64 0, .int .i64 0, .string ⟨#[]⟩, .int .i64 0, .int .i64 0, .int .i64 0, .int .i64 0, .slice none 0 0, .slice none 0 0, .int .i64 0] : List Value))
  generalize (W.alloc (.cells #[.int .i64 0, .int .i64 0, .int .i64 0, .int .i64 0, .int .i64 0, .int .i64 0, .int .i64 0, .int .i64 0, .int .i64 0, .int .i64 0, .bool false, .int .i64 0, .int .i64 0, .int .i64 0, .int .i64 0, .int .i64 0, .int .i64 0, .int .i64 0, .int .i64 0, .int .i64 0, .string ⟨#[]⟩, .int .i64 0, .int .i64 0, .int .i64 0, .int .i64 0, .slice none 0 0, .slice none 0 0, .int .i64 0] 40)).setCells W.heap.size 0 ([.int .i64 k, .int .i64 dst, .int .i64 0, .int .i64 0, .int .i64 0, .int .i64 0, .int .i64 0, .int .i64 0, .int .i64 0, .int .i64 0, .bool false, .int .i64 0, .int .i64 0, .int .i64 0, .int .i64 0, .int .i64 0, .int .i64 0, .int .i64 0, .int .i64 0, .int .i64 0, .string ⟨#[]⟩, .int .i64 0, .int .i64 0, .int .i64 0, .int .i64 0, .slice none 0 0, .slice none 0 0, .int .i64 0] : List Value) = W1 at *
  have hO := hOn
  clear hOn HT
  obtain ⟨o, hLL⟩ : ∃ q, q = W.heap.size := ⟨_, rfl⟩
  rw [← hLL] at hO ⊢
  have HEo := Lib.hid hLL
  clear hLL
  have hom : w.heap.size + 2 ≤ o := by rw [HEo.out]; exact hWs
  have hDm := hD0
  have hDo : D ≠ o := by omega
  clear c0 c1 HEo hone0 hlen0 hWs
  have hO : BlkAt W1 o 40 (msgCells { msgZero with kind := k, dst := dst } (.slice none 0 0) (.slice none 0 0)) := hO
  obtain ⟨m, hm⟩ : ∃ m, m = w.heap.size := ⟨_, rfl⟩
  have how : w.heap.size ≤ o := by omega
  have hmo : m ≠ o := by omega
  have hmw : w.heap.size ≤ m := Nat.le_of_eq hm.symm
  have hDw : w.heap.size ≤ D := hDn
  rw [← hm] at hA ⊢
  clear hm
  have hOA : OutAt w W1 o (putF ((fieldsOf k).take 0) M { msgZero with kind := k, dst := dst }) := ⟨_, _, hO, ChainAt.nil _, FiresAt.nil _, rfl⟩
  clear hO
  have c0 : W1.cell? ⟨m, 0, none⟩ = some (.int .i64 k) := hA.cell rfl
  go_wp2_with fail
  refine (qrow_any hk _).mono ?_
  rintro en w2 ⟨rfl, b2⟩
  have hA2 := hA.below b2
  have hD2 := hDz.below b2
  have hO2 : OutAt w w2 o (putF ((fieldsOf k).take 0) M { msgZero with kind := k, dst := dst }) := by
    obtain ⟨u1, u2, h1, h2, h3, h4⟩ := hOA
    exact ⟨u1, u2, h1.below b2, h2, h3, h4⟩
  have hb2 := below_step hb b2
  clear c0 hA hDz hOA hb b2
  obtain ⟨A0, hA0⟩ : ∃ A0 : MsgV, A0 = { msgZero with kind := k, dst := dst } := ⟨_, rfl⟩
  rw [← hA0] at hO2
  have HON2 := Lib.hid (show onlyM M = putF (fieldsOf k) M A0 by rw [HON.out, hA0])
  clear hA0 HON
  have hrt : rowText k = (fieldsOf k).map charOf := rfl
  rw [hrt]
  generalize fieldsOf k = Fs at *
  clear hrt
  have hrl := HRL.out
  go_wp2_with fail
  go_loopw [5] (fun i wr => ∃ j : Nat, j ≤ Fs.length ∧ i = .int .i64 j ∧ BlkAt wr m 40 [.int .i64 k, .int .i64 dst, .int .i64 fn, .int .i64 fl, .int .i64 ep, .int .i64 seq, .int .i64 req, .int .i64 cl, .int .i64 id, .int .i64 un, .bool flag, .int .i64 ok, .int .i64 a1, .int .i64 a2, .int .i64 a3, .int .i64 a4, .int .i64 a5, .int .i64 a6, .int .i64 a7, .int .i64 a8, .string ⟨oc.toArray⟩, .int .i64 re, .int .i64 rg, .int .i64 rd, .int .i64 ce, .slice va ch.length vc, .slice ua fires.length uc, .int .i64 life] ∧ BlkAt wr D 40 [.int .i64 0, .int .i64 0, .int .i64 0, .int .i64 0, .int .i64 0, .int .i64 0, .int .i64 0, .int .i64 0, .int .i64 0, .int .i64 0, .bool false, .int .i64 0, .int .i64 0, .int .i64 0, .int .i64 0, .int .i64 0, .int .i64 0, .int .i64 0, .int .i64 0, .int .i64 0, .string ⟨#[]⟩, .int .i64 0, .int .i64 0, .int .i64 0, .int .i64 0, .slice none 0 0, .slice none 0 0, .int .i64 0] ∧ OutAt w wr o (putF (Fs.take j) M A0) ∧ Below w.heap.size w wr) (fun i _ => Fs.length - (intOf i).toNat)
  case atStart => exact ⟨0, Nat.zero_le _, rfl, hA2, hD2, hO2, hb2⟩
  case round =>
    obtain ⟨j, hj, rfl, hMr, hDr, hOr, hbr⟩ := hrel
    clear hA2 hD2 hO2 hb2
    by_cases hlt : j < Fs.length
    · obtain ⟨F, hF⟩ : ∃ F, Fs[j]? = some F := ⟨_, List.getElem?_eq_getElem hlt⟩
      have HS := Lib.hid (putF_snoc hF M A0)
      have hix := fun w => index_at (Fs.map charOf) j (charOf F) (char_at hF) w
      clear hF
      generalize hZ : putF (Fs.take j) M A0 = Z at *
      clear hZ
      obtain ⟨u1, u2, hO, hz1, hz2, hzo⟩ := hOr
      obtain ⟨zk, zdst, zfn, zfl, zep, zseq, zreq, zcl, zid, zun, zflag, zop, zre, zrg, zrd, zcf, zfires, zlife⟩ := Z
      obtain ⟨zok, zov, zoc⟩ := zop
      obtain ⟨za1, za2, za3, za4, za5, za6, za7, za8, rfl⟩ := list8 hzo
      obtain ⟨zce, zch⟩ := zcf
      simp only at hz1 hz2
      obtain ⟨Z, hZZ⟩ : ∃ Z : MsgV, Z = ⟨zk, zdst, zfn, zfl, zep, zseq, zreq, zcl, zid, zun, zflag, ⟨zok, [za1, za2, za3, za4, za5, za6, za7, za8], zoc⟩, zre, zrg, zrd, ⟨zce, zch⟩, zfires, zlife⟩ := ⟨_, rfl⟩
      rw [← hZZ] at HS
      have hO : BlkAt wr o 40 [.int .i64 zk, .int .i64 zdst, .int .i64 zfn, .int .i64 zfl, .int .i64 zep, .int .i64 zseq, .int .i64 zreq, .int .i64 zcl, .int .i64 zid, .int .i64 zun, .bool zflag, .int .i64 zok, .int .i64 za1, .int .i64 za2, .int .i64 za3, .int .i64 za4, .int .i64 za5, .int .i64 za6, .int .i64 za7, .int .i64 za8, .string ⟨zoc.toArray⟩, .int .i64 zre, .int .i64 zrg, .int .i64 zrd, .int .i64 zce, u1, u2, .int .i64 zlife] := hO
      cases F with
      | fF =>
        have ma2 : wr.cell? ⟨m, 2, none⟩ = some (.int .i64 fn) := hMr.cell rfl
        have mb2 : wr.cell? ⟨o, 2, none⟩ = some (.int .i64 zfn) := hO.cell rfl
        have ma3 : wr.cell? ⟨m, 3, none⟩ = some (.int .i64 fl) := hMr.cell rfl
        have mb3 : wr.cell? ⟨o, 3, none⟩ = some (.int .i64 zfl) := hO.cell rfl
        have hf := hO.free
        have G := grown_setCells o [.int .i64 fn, .int .i64 fl] 2 wr
        have HO : Hid (BlkAt ((wr.setCell ⟨o, 2, none⟩ (.int .i64 fn)).setCell ⟨o, 3, none⟩ (.int .i64 fl)) o 40 (msgCells (setF fF M Z) u1 u2)) := Lib.hid (by rw [← hMM, hZZ]; exact ((hO.set 2 (.int .i64 fn)).set 3 (.int .i64 fl)))
        have HMr := Lib.hid (show BlkAt ((wr.setCell ⟨o, 2, none⟩ (.int .i64 fn)).setCell ⟨o, 3, none⟩ (.int .i64 fl)) m 40 _ from hMr.grown G hmo)
        have HDr := Lib.hid (show BlkAt ((wr.setCell ⟨o, 2, none⟩ (.int .i64 fn)).setCell ⟨o, 3, none⟩ (.int .i64 fl)) D 40 _ from hDr.grown G hDo)
        have HBr := Lib.hid (show Below w.heap.size w ((wr.setCell ⟨o, 2, none⟩ (.int .i64 fn)).setCell ⟨o, 3, none⟩ (.int .i64 fl)) from grown_below hbr G how)
        have HOA := Lib.hid (show OutAt w ((wr.setCell ⟨o, 2, none⟩ (.int .i64 fn)).setCell ⟨o, 3, none⟩ (.int .i64 fl)) o (setF fF M Z) from ⟨u1, u2, HO.out, by rw [← hMM, hZZ]; exact hz1, by rw [← hMM, hZZ]; exact hz2, setF_op (by rw [← hMM]; rfl) (by rw [hZZ]; rfl)⟩)
        clear G hO hMr hDr hbr HO hMM hZZ
        go_wp2_with fail
        go_roundw
        case rel => exact ⟨j + 1, by omega, by go_num, HMr.out, HDr.out, by rw [HS.out]; exact HOA.out, HBr.out⟩
        case measure => simp [intOf]; omega
      | fE =>
        have ma4 : wr.cell? ⟨m, 4, none⟩ = some (.int .i64 ep) := hMr.cell rfl
        have mb4 : wr.cell? ⟨o, 4, none⟩ = some (.int .i64 zep) := hO.cell rfl
        have hf := hO.free
        have G := grown_setCells o [.int .i64 ep] 4 wr
        have HO : Hid (BlkAt (wr.setCell ⟨o, 4, none⟩ (.int .i64 ep)) o 40 (msgCells (setF fE M Z) u1 u2)) := Lib.hid (by rw [← hMM, hZZ]; exact (hO.set 4 (.int .i64 ep)))
        have HMr := Lib.hid (show BlkAt (wr.setCell ⟨o, 4, none⟩ (.int .i64 ep)) m 40 _ from hMr.grown G hmo)
        have HDr := Lib.hid (show BlkAt (wr.setCell ⟨o, 4, none⟩ (.int .i64 ep)) D 40 _ from hDr.grown G hDo)
        have HBr := Lib.hid (show Below w.heap.size w (wr.setCell ⟨o, 4, none⟩ (.int .i64 ep)) from grown_below hbr G how)
        have HOA := Lib.hid (show OutAt w (wr.setCell ⟨o, 4, none⟩ (.int .i64 ep)) o (setF fE M Z) from ⟨u1, u2, HO.out, by rw [← hMM, hZZ]; exact hz1, by rw [← hMM, hZZ]; exact hz2, setF_op (by rw [← hMM]; rfl) (by rw [hZZ]; rfl)⟩)
        clear G hO hMr hDr hbr HO hMM hZZ
        go_wp2_with fail
        go_roundw
        case rel => exact ⟨j + 1, by omega, by go_num, HMr.out, HDr.out, by rw [HS.out]; exact HOA.out, HBr.out⟩
        case measure => simp [intOf]; omega
      | fG =>
        have ma10 : wr.cell? ⟨m, 10, none⟩ = some (.bool flag) := hMr.cell rfl
        have mb10 : wr.cell? ⟨o, 10, none⟩ = some (.bool zflag) := hO.cell rfl
        have hf := hO.free
        have G := grown_setCells o [.bool flag] 10 wr
        have HO : Hid (BlkAt (wr.setCell ⟨o, 10, none⟩ (.bool flag)) o 40 (msgCells (setF fG M Z) u1 u2)) := Lib.hid (by rw [← hMM, hZZ]; exact (hO.set 10 (.bool flag)))
        have HMr := Lib.hid (show BlkAt (wr.setCell ⟨o, 10, none⟩ (.bool flag)) m 40 _ from hMr.grown G hmo)
        have HDr := Lib.hid (show BlkAt (wr.setCell ⟨o, 10, none⟩ (.bool flag)) D 40 _ from hDr.grown G hDo)
        have HBr := Lib.hid (show Below w.heap.size w (wr.setCell ⟨o, 10, none⟩ (.bool flag)) from grown_below hbr G how)
        have HOA := Lib.hid (show OutAt w (wr.setCell ⟨o, 10, none⟩ (.bool flag)) o (setF fG M Z) from ⟨u1, u2, HO.out, by rw [← hMM, hZZ]; exact hz1, by rw [← hMM, hZZ]; exact hz2, setF_op (by rw [← hMM]; rfl) (by rw [hZZ]; rfl)⟩)
        clear G hO hMr hDr hbr HO hMM hZZ
        go_wp2_with fail
        go_roundw
        case rel => exact ⟨j + 1, by omega, by go_num, HMr.out, HDr.out, by rw [HS.out]; exact HOA.out, HBr.out⟩
        case measure => simp [intOf]; omega
      | fS =>
        have ma5 : wr.cell? ⟨m, 5, none⟩ = some (.int .i64 seq) := hMr.cell rfl
        have mb5 : wr.cell? ⟨o, 5, none⟩ = some (.int .i64 zseq) := hO.cell rfl
        have hf := hO.free
        have G := grown_setCells o [.int .i64 seq] 5 wr
        have HO : Hid (BlkAt (wr.setCell ⟨o, 5, none⟩ (.int .i64 seq)) o 40 (msgCells (setF fS M Z) u1 u2)) := Lib.hid (by rw [← hMM, hZZ]; exact (hO.set 5 (.int .i64 seq)))
        have HMr := Lib.hid (show BlkAt (wr.setCell ⟨o, 5, none⟩ (.int .i64 seq)) m 40 _ from hMr.grown G hmo)
        have HDr := Lib.hid (show BlkAt (wr.setCell ⟨o, 5, none⟩ (.int .i64 seq)) D 40 _ from hDr.grown G hDo)
        have HBr := Lib.hid (show Below w.heap.size w (wr.setCell ⟨o, 5, none⟩ (.int .i64 seq)) from grown_below hbr G how)
        have HOA := Lib.hid (show OutAt w (wr.setCell ⟨o, 5, none⟩ (.int .i64 seq)) o (setF fS M Z) from ⟨u1, u2, HO.out, by rw [← hMM, hZZ]; exact hz1, by rw [← hMM, hZZ]; exact hz2, setF_op (by rw [← hMM]; rfl) (by rw [hZZ]; rfl)⟩)
        clear G hO hMr hDr hbr HO hMM hZZ
        go_wp2_with fail
        go_roundw
        case rel => exact ⟨j + 1, by omega, by go_num, HMr.out, HDr.out, by rw [HS.out]; exact HOA.out, HBr.out⟩
        case measure => simp [intOf]; omega
      | fC =>
        have ma24 : wr.cell? ⟨m, 24, none⟩ = some (.int .i64 ce) := hMr.cell rfl
        have mb24 : wr.cell? ⟨o, 24, none⟩ = some (.int .i64 zce) := hO.cell rfl
        have ma25 : wr.cell? ⟨m, 25, none⟩ = some (.slice va ch.length vc) := hMr.cell rfl
        have mb25 : wr.cell? ⟨o, 25, none⟩ = some (u1) := hO.cell rfl
        have hf := hO.free
        have G := grown_setCells o [.int .i64 ce, .slice va ch.length vc] 24 wr
        have HO : Hid (BlkAt ((wr.setCell ⟨o, 24, none⟩ (.int .i64 ce)).setCell ⟨o, 25, none⟩ (.slice va ch.length vc)) o 40 (msgCells (setF fC M Z) (.slice va ch.length vc) u2)) := Lib.hid (by rw [← hMM, hZZ]; exact ((hO.set 24 (.int .i64 ce)).set 25 (.slice va ch.length vc)))
        have HMr := Lib.hid (show BlkAt ((wr.setCell ⟨o, 24, none⟩ (.int .i64 ce)).setCell ⟨o, 25, none⟩ (.slice va ch.length vc)) m 40 _ from hMr.grown G hmo)
        have HDr := Lib.hid (show BlkAt ((wr.setCell ⟨o, 24, none⟩ (.int .i64 ce)).setCell ⟨o, 25, none⟩ (.slice va ch.length vc)) D 40 _ from hDr.grown G hDo)
        have HBr := Lib.hid (show Below w.heap.size w ((wr.setCell ⟨o, 24, none⟩ (.int .i64 ce)).setCell ⟨o, 25, none⟩ (.slice va ch.length vc)) from grown_below hbr G how)
        have HOA := Lib.hid (show OutAt w ((wr.setCell ⟨o, 24, none⟩ (.int .i64 ce)).setCell ⟨o, 25, none⟩ (.slice va ch.length vc)) o (setF fC M Z) from ⟨(.slice va ch.length vc), u2, HO.out, by rw [← hMM, hZZ]; exact hv1, by rw [← hMM, hZZ]; exact hz2, setF_op (by rw [← hMM]; rfl) (by rw [hZZ]; rfl)⟩)
        clear G hO hMr hDr hbr HO hMM hZZ
        go_wp2_with fail
        go_roundw
        case rel => exact ⟨j + 1, by omega, by go_num, HMr.out, HDr.out, by rw [HS.out]; exact HOA.out, HBr.out⟩
        case measure => simp [intOf]; omega
      | fU =>
        have ma9 : wr.cell? ⟨m, 9, none⟩ = some (.int .i64 un) := hMr.cell rfl
        have mb9 : wr.cell? ⟨o, 9, none⟩ = some (.int .i64 zun) := hO.cell rfl
        have hf := hO.free
        have G := grown_setCells o [.int .i64 un] 9 wr
        have HO : Hid (BlkAt (wr.setCell ⟨o, 9, none⟩ (.int .i64 un)) o 40 (msgCells (setF fU M Z) u1 u2)) := Lib.hid (by rw [← hMM, hZZ]; exact (hO.set 9 (.int .i64 un)))
        have HMr := Lib.hid (show BlkAt (wr.setCell ⟨o, 9, none⟩ (.int .i64 un)) m 40 _ from hMr.grown G hmo)
        have HDr := Lib.hid (show BlkAt (wr.setCell ⟨o, 9, none⟩ (.int .i64 un)) D 40 _ from hDr.grown G hDo)
        have HBr := Lib.hid (show Below w.heap.size w (wr.setCell ⟨o, 9, none⟩ (.int .i64 un)) from grown_below hbr G how)
        have HOA := Lib.hid (show OutAt w (wr.setCell ⟨o, 9, none⟩ (.int .i64 un)) o (setF fU M Z) from ⟨u1, u2, HO.out, by rw [← hMM, hZZ]; exact hz1, by rw [← hMM, hZZ]; exact hz2, setF_op (by rw [← hMM]; rfl) (by rw [hZZ]; rfl)⟩)
        clear G hO hMr hDr hbr HO hMM hZZ
        go_wp2_with fail
        go_roundw
        case rel => exact ⟨j + 1, by omega, by go_num, HMr.out, HDr.out, by rw [HS.out]; exact HOA.out, HBr.out⟩
        case measure => simp [intOf]; omega
      | fL =>
        have ma27 : wr.cell? ⟨m, 27, none⟩ = some (.int .i64 life) := hMr.cell rfl
        have mb27 : wr.cell? ⟨o, 27, none⟩ = some (.int .i64 zlife) := hO.cell rfl
        have hf := hO.free
        have G := grown_setCells o [.int .i64 life] 27 wr
        have HO : Hid (BlkAt (wr.setCell ⟨o, 27, none⟩ (.int .i64 life)) o 40 (msgCells (setF fL M Z) u1 u2)) := Lib.hid (by rw [← hMM, hZZ]; exact (hO.set 27 (.int .i64 life)))
        have HMr := Lib.hid (show BlkAt (wr.setCell ⟨o, 27, none⟩ (.int .i64 life)) m 40 _ from hMr.grown G hmo)
        have HDr := Lib.hid (show BlkAt (wr.setCell ⟨o, 27, none⟩ (.int .i64 life)) D 40 _ from hDr.grown G hDo)
        have HBr := Lib.hid (show Below w.heap.size w (wr.setCell ⟨o, 27, none⟩ (.int .i64 life)) from grown_below hbr G how)
        have HOA := Lib.hid (show OutAt w (wr.setCell ⟨o, 27, none⟩ (.int .i64 life)) o (setF fL M Z) from ⟨u1, u2, HO.out, by rw [← hMM, hZZ]; exact hz1, by rw [← hMM, hZZ]; exact hz2, setF_op (by rw [← hMM]; rfl) (by rw [hZZ]; rfl)⟩)
        clear G hO hMr hDr hbr HO hMM hZZ
        go_wp2_with fail
        go_roundw
        case rel => exact ⟨j + 1, by omega, by go_num, HMr.out, HDr.out, by rw [HS.out]; exact HOA.out, HBr.out⟩
        case measure => simp [intOf]; omega
      | fO =>
        obtain ⟨ops, hops⟩ : ∃ ops : List Value, ops = [.int .i64 ok, .int .i64 a1, .int .i64 a2, .int .i64 a3, .int .i64 a4, .int .i64 a5, .int .i64 a6, .int .i64 a7, .int .i64 a8, .string ⟨oc.toArray⟩] := ⟨_, rfl⟩
        have hrg : wr.rangeAt m 11 ops := by
          subst hops
          intro j v hj
          have hj10 : j < 10 := by simpa using (List.getElem?_eq_some_iff.1 hj).1
          refine hMr.cell (i := 11 + j) ?_
          have h10 : j = 0 ∨ j = 1 ∨ j = 2 ∨ j = 3 ∨ j = 4 ∨ j = 5 ∨ j = 6 ∨ j = 7 ∨ j = 8 ∨ j = 9 := by omega
          rcases h10 with rfl | rfl | rfl | rfl | rfl | rfl | rfl | rfl | rfl | rfl <;> exact hj
        have hopl : (Tryz.prog.info? 31).map (·.size) = some ops.length := by subst hops; exact op_info
        have hop1 : ops.toArray.all (·.oneCell') = true := by subst hops; simp [Value.oneCell']
        have hth : wr.there o 11 ops.toArray.size := by subst hops; exact op_there hO ⟨rfl, rfl, rfl, rfl, rfl, rfl, rfl, rfl, rfl, rfl⟩
        have hf := hO.free
        have HOS := Lib.hid (show BlkAt (wr.setCells o 11 ops) o 40 _ by rw [hops]; exact ((((((((((hO.set 11 (.int .i64 ok)).set 12 (.int .i64 a1)).set 13 (.int .i64 a2)).set 14 (.int .i64 a3)).set 15 (.int .i64 a4)).set 16 (.int .i64 a5)).set 17 (.int .i64 a6)).set 18 (.int .i64 a7)).set 19 (.int .i64 a8)).set 20 (.string ⟨oc.toArray⟩)))
        have G := grown_setCells o ops 11 wr
        have HO : Hid (BlkAt (wr.setCells o 11 ops) o 40 (msgCells (setF fO M Z) u1 u2)) := Lib.hid (by rw [← hMM, hZZ]; exact HOS.out)
        have HMr := Lib.hid (show BlkAt (wr.setCells o 11 ops) m 40 _ from hMr.grown G hmo)
        have HDr := Lib.hid (show BlkAt (wr.setCells o 11 ops) D 40 _ from hDr.grown G hDo)
        have HBr := Lib.hid (show Below w.heap.size w (wr.setCells o 11 ops) from grown_below hbr G how)
        have HOA := Lib.hid (show OutAt w (wr.setCells o 11 ops) o (setF fO M Z) from ⟨u1, u2, HO.out, by rw [← hMM, hZZ]; exact hz1, by rw [← hMM, hZZ]; exact hz2, setF_op (by rw [← hMM]; rfl) (by rw [hZZ]; rfl)⟩)
        clear G hO hMr hDr hbr HO hMM hZZ hops HOS
        go_wp2_with (first | (refine wpList_load_mid rfl 31 (.tmp 60) rfl m 11 rfl ops _ hrg Tryz.underlying31 rfl hopl ?_; simp only [Act.put, List.setIfInBounds_toArray, List.set_cons_zero, List.set_cons_succ]) | (refine wpList_store_mid rfl 31 (.tmp 62) (.tmp 61) rfl o 11 ops.toArray rfl rfl (by exact hth) (by rw [List.size_toArray]; exact hopl) hop1 ?_; rw [List.toList_toArray]))
        go_roundw
        case rel => exact ⟨j + 1, by omega, by go_num, HMr.out, HDr.out, by rw [HS.out]; exact HOA.out, HBr.out⟩
        case measure => simp [intOf]; omega
      | fQ =>
        have ma6 : wr.cell? ⟨m, 6, none⟩ = some (.int .i64 req) := hMr.cell rfl
        have mb6 : wr.cell? ⟨o, 6, none⟩ = some (.int .i64 zreq) := hO.cell rfl
        have hf := hO.free
        have G := grown_setCells o [.int .i64 req] 6 wr
        have HO : Hid (BlkAt (wr.setCell ⟨o, 6, none⟩ (.int .i64 req)) o 40 (msgCells (setF fQ M Z) u1 u2)) := Lib.hid (by rw [← hMM, hZZ]; exact (hO.set 6 (.int .i64 req)))
        have HMr := Lib.hid (show BlkAt (wr.setCell ⟨o, 6, none⟩ (.int .i64 req)) m 40 _ from hMr.grown G hmo)
        have HDr := Lib.hid (show BlkAt (wr.setCell ⟨o, 6, none⟩ (.int .i64 req)) D 40 _ from hDr.grown G hDo)
        have HBr := Lib.hid (show Below w.heap.size w (wr.setCell ⟨o, 6, none⟩ (.int .i64 req)) from grown_below hbr G how)
        have HOA := Lib.hid (show OutAt w (wr.setCell ⟨o, 6, none⟩ (.int .i64 req)) o (setF fQ M Z) from ⟨u1, u2, HO.out, by rw [← hMM, hZZ]; exact hz1, by rw [← hMM, hZZ]; exact hz2, setF_op (by rw [← hMM]; rfl) (by rw [hZZ]; rfl)⟩)
        clear G hO hMr hDr hbr HO hMM hZZ
        go_wp2_with fail
        go_roundw
        case rel => exact ⟨j + 1, by omega, by go_num, HMr.out, HDr.out, by rw [HS.out]; exact HOA.out, HBr.out⟩
        case measure => simp [intOf]; omega
      | fR =>
        have ma21 : wr.cell? ⟨m, 21, none⟩ = some (.int .i64 re) := hMr.cell rfl
        have mb21 : wr.cell? ⟨o, 21, none⟩ = some (.int .i64 zre) := hO.cell rfl
        have ma22 : wr.cell? ⟨m, 22, none⟩ = some (.int .i64 rg) := hMr.cell rfl
        have mb22 : wr.cell? ⟨o, 22, none⟩ = some (.int .i64 zrg) := hO.cell rfl
        have ma23 : wr.cell? ⟨m, 23, none⟩ = some (.int .i64 rd) := hMr.cell rfl
        have mb23 : wr.cell? ⟨o, 23, none⟩ = some (.int .i64 zrd) := hO.cell rfl
        have hf := hO.free
        have G := grown_setCells o [.int .i64 re, .int .i64 rg, .int .i64 rd] 21 wr
        have HO : Hid (BlkAt (((wr.setCell ⟨o, 21, none⟩ (.int .i64 re)).setCell ⟨o, 22, none⟩ (.int .i64 rg)).setCell ⟨o, 23, none⟩ (.int .i64 rd)) o 40 (msgCells (setF fR M Z) u1 u2)) := Lib.hid (by rw [← hMM, hZZ]; exact (((hO.set 21 (.int .i64 re)).set 22 (.int .i64 rg)).set 23 (.int .i64 rd)))
        have HMr := Lib.hid (show BlkAt (((wr.setCell ⟨o, 21, none⟩ (.int .i64 re)).setCell ⟨o, 22, none⟩ (.int .i64 rg)).setCell ⟨o, 23, none⟩ (.int .i64 rd)) m 40 _ from hMr.grown G hmo)
        have HDr := Lib.hid (show BlkAt (((wr.setCell ⟨o, 21, none⟩ (.int .i64 re)).setCell ⟨o, 22, none⟩ (.int .i64 rg)).setCell ⟨o, 23, none⟩ (.int .i64 rd)) D 40 _ from hDr.grown G hDo)
        have HBr := Lib.hid (show Below w.heap.size w (((wr.setCell ⟨o, 21, none⟩ (.int .i64 re)).setCell ⟨o, 22, none⟩ (.int .i64 rg)).setCell ⟨o, 23, none⟩ (.int .i64 rd)) from grown_below hbr G how)
        have HOA := Lib.hid (show OutAt w (((wr.setCell ⟨o, 21, none⟩ (.int .i64 re)).setCell ⟨o, 22, none⟩ (.int .i64 rg)).setCell ⟨o, 23, none⟩ (.int .i64 rd)) o (setF fR M Z) from ⟨u1, u2, HO.out, by rw [← hMM, hZZ]; exact hz1, by rw [← hMM, hZZ]; exact hz2, setF_op (by rw [← hMM]; rfl) (by rw [hZZ]; rfl)⟩)
        clear G hO hMr hDr hbr HO hMM hZZ
        go_wp2_with fail
        go_roundw
        case rel => exact ⟨j + 1, by omega, by go_num, HMr.out, HDr.out, by rw [HS.out]; exact HOA.out, HBr.out⟩
        case measure => simp [intOf]; omega
      | fI =>
        have ma8 : wr.cell? ⟨m, 8, none⟩ = some (.int .i64 id) := hMr.cell rfl
        have mb8 : wr.cell? ⟨o, 8, none⟩ = some (.int .i64 zid) := hO.cell rfl
        have hf := hO.free
        have G := grown_setCells o [.int .i64 id] 8 wr
        have HO : Hid (BlkAt (wr.setCell ⟨o, 8, none⟩ (.int .i64 id)) o 40 (msgCells (setF fI M Z) u1 u2)) := Lib.hid (by rw [← hMM, hZZ]; exact (hO.set 8 (.int .i64 id)))
        have HMr := Lib.hid (show BlkAt (wr.setCell ⟨o, 8, none⟩ (.int .i64 id)) m 40 _ from hMr.grown G hmo)
        have HDr := Lib.hid (show BlkAt (wr.setCell ⟨o, 8, none⟩ (.int .i64 id)) D 40 _ from hDr.grown G hDo)
        have HBr := Lib.hid (show Below w.heap.size w (wr.setCell ⟨o, 8, none⟩ (.int .i64 id)) from grown_below hbr G how)
        have HOA := Lib.hid (show OutAt w (wr.setCell ⟨o, 8, none⟩ (.int .i64 id)) o (setF fI M Z) from ⟨u1, u2, HO.out, by rw [← hMM, hZZ]; exact hz1, by rw [← hMM, hZZ]; exact hz2, setF_op (by rw [← hMM]; rfl) (by rw [hZZ]; rfl)⟩)
        clear G hO hMr hDr hbr HO hMM hZZ
        go_wp2_with fail
        go_roundw
        case rel => exact ⟨j + 1, by omega, by go_num, HMr.out, HDr.out, by rw [HS.out]; exact HOA.out, HBr.out⟩
        case measure => simp [intOf]; omega
      | fT =>
        have ma7 : wr.cell? ⟨m, 7, none⟩ = some (.int .i64 cl) := hMr.cell rfl
        have mb7 : wr.cell? ⟨o, 7, none⟩ = some (.int .i64 zcl) := hO.cell rfl
        have hf := hO.free
        have G := grown_setCells o [.int .i64 cl] 7 wr
        have HO : Hid (BlkAt (wr.setCell ⟨o, 7, none⟩ (.int .i64 cl)) o 40 (msgCells (setF fT M Z) u1 u2)) := Lib.hid (by rw [← hMM, hZZ]; exact (hO.set 7 (.int .i64 cl)))
        have HMr := Lib.hid (show BlkAt (wr.setCell ⟨o, 7, none⟩ (.int .i64 cl)) m 40 _ from hMr.grown G hmo)
        have HDr := Lib.hid (show BlkAt (wr.setCell ⟨o, 7, none⟩ (.int .i64 cl)) D 40 _ from hDr.grown G hDo)
        have HBr := Lib.hid (show Below w.heap.size w (wr.setCell ⟨o, 7, none⟩ (.int .i64 cl)) from grown_below hbr G how)
        have HOA := Lib.hid (show OutAt w (wr.setCell ⟨o, 7, none⟩ (.int .i64 cl)) o (setF fT M Z) from ⟨u1, u2, HO.out, by rw [← hMM, hZZ]; exact hz1, by rw [← hMM, hZZ]; exact hz2, setF_op (by rw [← hMM]; rfl) (by rw [hZZ]; rfl)⟩)
        clear G hO hMr hDr hbr HO hMM hZZ
        go_wp2_with fail
        go_roundw
        case rel => exact ⟨j + 1, by omega, by go_num, HMr.out, HDr.out, by rw [HS.out]; exact HOA.out, HBr.out⟩
        case measure => simp [intOf]; omega
      | fX =>
        have ma26 : wr.cell? ⟨m, 26, none⟩ = some (.slice ua fires.length uc) := hMr.cell rfl
        have mb26 : wr.cell? ⟨o, 26, none⟩ = some (u2) := hO.cell rfl
        have hf := hO.free
        have G := grown_setCells o [.slice ua fires.length uc] 26 wr
        have HO : Hid (BlkAt (wr.setCell ⟨o, 26, none⟩ (.slice ua fires.length uc)) o 40 (msgCells (setF fX M Z) u1 (.slice ua fires.length uc))) := Lib.hid (by rw [← hMM, hZZ]; exact (hO.set 26 (.slice ua fires.length uc)))
        have HMr := Lib.hid (show BlkAt (wr.setCell ⟨o, 26, none⟩ (.slice ua fires.length uc)) m 40 _ from hMr.grown G hmo)
        have HDr := Lib.hid (show BlkAt (wr.setCell ⟨o, 26, none⟩ (.slice ua fires.length uc)) D 40 _ from hDr.grown G hDo)
        have HBr := Lib.hid (show Below w.heap.size w (wr.setCell ⟨o, 26, none⟩ (.slice ua fires.length uc)) from grown_below hbr G how)
        have HOA := Lib.hid (show OutAt w (wr.setCell ⟨o, 26, none⟩ (.slice ua fires.length uc)) o (setF fX M Z) from ⟨u1, (.slice ua fires.length uc), HO.out, by rw [← hMM, hZZ]; exact hz1, by rw [← hMM, hZZ]; exact hv2, setF_op (by rw [← hMM]; rfl) (by rw [hZZ]; rfl)⟩)
        clear G hO hMr hDr hbr HO hMM hZZ
        go_wp2_with fail
        go_roundw
        case rel => exact ⟨j + 1, by omega, by go_num, HMr.out, HDr.out, by rw [HS.out]; exact HOA.out, HBr.out⟩
        case measure => simp [intOf]; omega

    · obtain rfl : j = Fs.length := by omega
      rw [List.take_length] at hOr
      rw [← HON2.out] at hOr
      obtain ⟨R, hRR⟩ : ∃ R, R = onlyM M := ⟨_, rfl⟩
      rw [← hRR] at hOr
      have HRR := Lib.hid hRR
      clear hRR
      obtain ⟨u1, u2, hO, hz1, hz2, hzo⟩ := hOr
      have hlen : (msgCells R u1 u2).length = 28 := msgCells_len hzo _ _
      have hone : (msgCells R u1 u2).toArray.all (·.oneCell') = true := by
        rw [Array.all_eq_true_iff_forall_mem]
        intro x hx
        exact msgCells_one (chain_one hz1) (fires_one hz2) x (by simpa using hx)
      have HAT : Hid (∀ w9, Below w.heap.size w w9 → R.At w9 (.agg (msgCells R u1 u2).toArray)) := Lib.hid fun w9 hg => ⟨u1, u2, rfl, hz1.below hg, hz2.below hg⟩
      clear hz1 hz2
      generalize msgCells R u1 u2 = cs at *
      have hl2 : cs.length = ([.int .i64 0, .int .i64 0, .int .i64 0, .int .i64 0, .int .i64 0, .int .i64 0, .int .i64 0, .int .i64 0, .int .i64 0, .int .i64 0, .bool false, .int .i64 0, .int .i64 0, .int .i64 0, .int .i64 0, .int .i64 0, .int .i64 0, .int .i64 0, .int .i64 0, .int .i64 0, .string ⟨#[]⟩, .int .i64 0, .int .i64 0, .int .i64 0, .int .i64 0, .slice none 0 0, .slice none 0 0, .int .i64 0] : List Value).length := by rw [hlen]; rfl
      have HT := Lib.hid (blk_there2 hDr hl2)
      have HD := Lib.hid (hDr.stored (vs := cs) hl2)
      have G := grown_setCells D cs 0 wr
      have HB := Lib.hid (grown_below hbr G hDw)
      have HLN := Lib.hid hlen
      clear hl2 hDr G hbr hMr
      go_wp2_with (first | (refine wpList_load_mid rfl 40 (.tmp 3) rfl o 0 rfl cs _ hO.range Tryz.underlying40 rfl (by rw [hlen]; exact msg_info) ?_; simp only [Act.put, List.setIfInBounds_toArray, List.set_cons_zero, List.set_cons_succ]) | (refine wpList_store_mid rfl 40 (.tmp 2) (.tmp 88) rfl D 0 cs.toArray rfl rfl (by exact HT.out) (by rw [List.size_toArray, hlen]; exact msg_info) hone ?_; rw [List.toList_toArray]))
      exact bodyPost_ret (v := .agg cs.toArray) (results_cell_row rfl _ _ D 40 cs.toArray (0, 0) _ rfl HD.out Tryz.underlying40 rfl (by rw [List.size_toArray, HLN.out]; exact msg_info)) rfl ⟨_, rfl, by rw [← HRR.out]; exact HAT.out _ HB.out, HB.out⟩
theorem qonly_any {w : World} {M : MsgV} {v : Value} (hv : M.At w v) (hop : M.op.v.length = 8) (hk : 1 ≤ M.kind ∧ M.kind ≤ 15) :
    Calls Tryz.prog 44 #[v] w fun en w' => ∃ v, en = .returned v ∧ (onlyM M).At w' v ∧ Below w.heap.size w w' := by
  obtain ⟨v1, v2, rfl, ⟨va, vc, rfl, hc⟩, ⟨ua, uc, rfl, hf⟩⟩ := hv
  obtain ⟨k, dst, fn, fl, ep, seq, req, cl, id, un, flag, op, re, rg, rd, cf, fires, life⟩ := M
  obtain ⟨ok, ov, oc⟩ := op
  obtain ⟨a1, a2, a3, a4, a5, a6, a7, a8, rfl⟩ := list8 hop
  obtain ⟨ce, ch⟩ := cf
  exact qonly_lit ⟨va, vc, rfl, hc⟩ ⟨ua, uc, rfl, hf⟩ hk rfl
end Go.Proofs.YtnaabaahfjklhaaGreat
