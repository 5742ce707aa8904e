/- A message is written: every field, and all of it. -/
import Derived.Test.YtnaabaahfjklhaaGreatWireRow
namespace Go.Proofs.YtnaabaahfjklhaaGreat
open Go.RowKit Go.ChangeShapes Go.WideShapes Go.Joins Go.Deep Fld
set_option linter.unusedVariables false

/-- A message, and what it leads to, that was there in w0. -/
def MsgIn (w0 w : World) (m : Nat) (M : MsgV) : Prop := ∃ v1 v2, BlkAt w m 40 (msgCells M v1 v2) ∧ ChainAt w0 v1 M.cf.chain ∧ FiresAt w0 v2 M.fires
theorem MsgIn.tkeep {w0 w w' : World} {m : Nat} {M : MsgV} (h : MsgIn w0 w m M) (hk : TKeep w w') : MsgIn w0 w' m M := by
  obtain ⟨v1, v2, h1, h2, h3⟩ := h
  exact ⟨v1, v2, h1.tkeep hk (by decide) (by decide), h2, h3⟩
/-- A message that is small enough. -/
structure MSmall (M : MsgV) : Prop where
  chain : M.cf.chain.length ≤ 1000
  cron : M.op.cron.length ≤ 10000
  fires : M.fires.length ≤ 8
theorem encFld_len {M : MsgV} (hM : MOk M) (hs : MSmall M) (F : Fld) : (encFld M F).length ≤ 100000 := by
  have e1 := encConf_len M.cf
  have e2 := encOp_len hM.op.1
  have e3 := (enc_len M.fires.length).2
  have e4 : (M.fires.flatMap fun f => encI f.nums).length ≤ 60 * M.fires.length := encX_len M.fires
  have h1 := hs.chain
  have h2 := hs.cron
  have h3 := hs.fires
  have ei : ∀ l : List Int, l.length ≤ 3 → (encI l).length ≤ 100000 := fun l hl => by have := encI_len l; omega
  cases F with
  | fC => show (encConf M.cf).length ≤ 100000; omega
  | fO => show (encOp M.op).length ≤ 100000; omega
  | fX => show (enc M.fires.length ++ M.fires.flatMap fun f => encI f.nums).length ≤ 100000; rw [List.length_append]; omega
  | fG => show 1 ≤ 100000; decide
  | _ => exact ei _ (by simp)

theorem fld_w (F : Fld) {w w0 : World} {B b d m : Nat} {l : List UInt8} {rv : Value} {M : MsgV} (hD : BlkAt w d 118 [.pointer (some ⟨m, 0, none⟩), .pointer (some ⟨b, 0, none⟩), rv]) (hM : MsgIn w0 w m M)
    (hbw : Below w0.heap.size w0 w) (hwB : w0.heap.size ≤ B) (hok : MOk M) (hs : MSmall M) (hB : BldAt B b l w) (hBw : B ≤ w.heap.size) (hl : l.length ≤ 1000000) :
    Calls Tryz.prog (fnOf F) #[.pointer (some ⟨d, 0, none⟩)] w fun e w' => e = .returned (.tuple #[]) ∧ BldAt B b (l ++ encFld M F) w' ∧ Below B w w' ∧ TKeep w w' := by
  obtain ⟨v1, v2, hM, hc, hf⟩ := hM
  have hn := hok.nums
  simp only [List.mem_cons, List.not_mem_nil, or_false, forall_eq_or_imp, forall_eq] at hn
  obtain ⟨h0, h1, h2, h3, h4, h5, h6, h7, h8, h9, h10, h11, h12, h13, h14⟩ := hn
  have ho := hok.op
  have hsc := hs.chain
  have hso := hs.cron
  have hfx := hok.fires
  have hsf := hs.fires
  obtain ⟨k, dst, fn, fl, ep, seq, req, cl, id, un, flag, op, re, rg, rd, cf, fires, life⟩ := M
  obtain ⟨ok, ov, oc⟩ := op
  obtain ⟨a1, a2, a3, a4, a5, a6, a7, a8, rfl⟩ := list8 ho.1
  obtain ⟨ce, ch⟩ := cf
  simp only at *
  cases F with
  | fF => exact dfrom_w hD hM rfl rfl h2 h3 hB hBw (by omega)
  | fE => exact depoch_w hD hM rfl h4 hB hBw (by omega)
  | fG => exact dflag_w hD hM rfl hB hBw (by omega)
  | fS => exact dseq_w hD hM rfl h5 hB hBw (by omega)
  | fC => exact dconf_w hD hM rfl rfl (hc.below hbw) (by omega) hB hBw (by omega)
  | fU => exact duntil_w hD hM rfl h9 hB hBw (by omega)
  | fL => exact dlife_w hD hM rfl h13 hB hBw (by omega)
  | fO => exact dop_w hD hM rfl rfl rfl rfl rfl rfl rfl rfl rfl rfl ho (by omega) hB hBw (by omega)
  | fQ => exact dreq_w hD hM rfl h6 hB hBw (by omega)
  | fR => exact dreply_w hD hM rfl rfl rfl h10 h11 h12 hB hBw (by omega)
  | fI => exact did_w hD hM rfl h8 hB hBw (by omega)
  | fT => exact dclient_w hD hM rfl h7 hB hBw (by omega)
  | fX => exact dfires_w hD hM rfl hf hbw hwB hsf hfx hB hBw hl

theorem kindB_wrap (k : Int) : IntKind.u8.wrap k = ((kindB k).toNat : Int) := by
  unfold kindB
  rw [IntKind.wrap_u8']
  simp only [UInt8.toNat_ofNat']
  omega
theorem rowLen (k : Int) : (fieldsOf k).length ≤ 7 := by
  unfold fieldsOf
  repeat' split
  all_goals decide
theorem fldsLen {M : MsgV} (hM : MOk M) (hs : MSmall M) (R : List Fld) : (R.flatMap (encFld M)).length ≤ 100000 * R.length := by
  induction R with
  | nil => simp
  | cons F R ih =>
    have := encFld_len hM hs F
    rw [List.flatMap_cons, List.length_append, List.length_cons]
    omega
theorem flds_snoc {R : List Fld} {k : Nat} {F : Fld} (h : R[k]? = some F) (M : MsgV) : (R.take (k + 1)).flatMap (encFld M) = (R.take k).flatMap (encFld M) ++ encFld M F := by
  rw [List.take_add_one, h, Option.toList_some]
  simp
theorem calls_fn {Q : Ending → World → Prop} {F : Fld} {args : Array Value} {w : World} (h : Calls Tryz.prog (fnOf F) args w Q) : Calls Tryz.prog (fnOf F) args w Q := h

set_option maxRecDepth 100000 in
set_option maxHeartbeats 4000000 in

theorem wwrite_lit {w : World} {k dst fn fl ep seq req cl id un : Int} {flag : Bool} {ok a1 a2 a3 a4 a5 a6 a7 a8 : Int} {oc : List UInt8} {re rg rd ce life : Int} {ch : List SeatV} {fires : List FireV} {v1 v2 : Value}
    (hok : MOk ⟨k, dst, fn, fl, ep, seq, req, cl, id, un, flag, ⟨ok, [a1, a2, a3, a4, a5, a6, a7, a8], oc⟩, re, rg, rd, ⟨ce, ch⟩, fires, life⟩) (hs : MSmall ⟨k, dst, fn, fl, ep, seq, req, cl, id, un, flag, ⟨ok, [a1, a2, a3, a4, a5, a6, a7, a8], oc⟩, re, rg, rd, ⟨ce, ch⟩, fires, life⟩) (hv1 : ChainAt w v1 ch) (hv2 : FiresAt w v2 fires) (hk : 1 ≤ k ∧ k ≤ 15) :
    Calls Tryz.prog 40 #[.agg #[.int .i64 k, .int .i64 dst, .int .i64 fn, .int .i64 fl, .int .i64 ep, .int .i64 seq, .int .i64 req, .int .i64 cl, .int .i64 id, .int .i64 un, .bool flag, .int .i64 ok, .int .i64 a1, .int .i64 a2, .int .i64 a3, .int .i64 a4, .int .i64 a5, .int .i64 a6, .int .i64 a7, .int .i64 a8, .string ⟨oc.toArray⟩, .int .i64 re, .int .i64 rg, .int .i64 rd, .int .i64 ce, v1, v2, .int .i64 life]] w fun en w' => en = .returned (.string ⟨(frame (textOf ⟨k, dst, fn, fl, ep, seq, req, cl, id, un, flag, ⟨ok, [a1, a2, a3, a4, a5, a6, a7, a8], oc⟩, re, rg, rd, ⟨ce, ch⟩, fires, life⟩)).toArray⟩) ∧ Below w.heap.size w w' := by
  have hne := fieldsOf_some hk.1 hk.2
  have HRL := Lib.hid (rowLen k)
  have HFL := Lib.hid (fldsLen hok hs)
  go_enter Tryz.func40, Tryz.ntmps40
  go_upto_region 3 with (fail)
  have hMb : BlkAt (((w.alloc (.cells #[.int .i64 k, .int .i64 dst, .int .i64 fn, .int .i64 fl, .int .i64 ep, .int .i64 seq, .int .i64 req, .int .i64 cl, .int .i64 id, .int .i64 un, .bool flag, .int .i64 ok, .int .i64 a1, .int .i64 a2, .int .i64 a3, .int .i64 a4, .int .i64 a5, .int .i64 a6, .int .i64 a7, .int .i64 a8, .string ⟨oc.toArray⟩, .int .i64 re, .int .i64 rg, .int .i64 rd, .int .i64 ce, v1, v2, .int .i64 life] 40)).alloc (.cells #[.pointer none, .slice none 0 0] 113)).alloc (.cells #[.pointer (some ⟨w.heap.size, 0, none⟩), .pointer (some ⟨w.heap.size + 1, 0, none⟩), .pointer none] 118)) w.heap.size 40 [.int .i64 k, .int .i64 dst, .int .i64 fn, .int .i64 fl, .int .i64 ep, .int .i64 seq, .int .i64 req, .int .i64 cl, .int .i64 id, .int .i64 un, .bool flag, .int .i64 ok, .int .i64 a1, .int .i64 a2, .int .i64 a3, .int .i64 a4, .int .i64 a5, .int .i64 a6, .int .i64 a7, .int .i64 a8, .string ⟨oc.toArray⟩, .int .i64 re, .int .i64 rg, .int .i64 rd, .int .i64 ce, v1, v2, .int .i64 life] := ((BlkAt.new w 40 [.int .i64 k, .int .i64 dst, .int .i64 fn, .int .i64 fl, .int .i64 ep, .int .i64 seq, .int .i64 req, .int .i64 cl, .int .i64 id, .int .i64 un, .bool flag, .int .i64 ok, .int .i64 a1, .int .i64 a2, .int .i64 a3, .int .i64 a4, .int .i64 a5, .int .i64 a6, .int .i64 a7, .int .i64 a8, .string ⟨oc.toArray⟩, .int .i64 re, .int .i64 rg, .int .i64 rd, .int .i64 ce, v1, v2, .int .i64 life]).alloc _).alloc _
  have hE : BlkAt (((w.alloc (.cells #[.int .i64 k, .int .i64 dst, .int .i64 fn, .int .i64 fl, .int .i64 ep, .int .i64 seq, .int .i64 req, .int .i64 cl, .int .i64 id, .int .i64 un, .bool flag, .int .i64 ok, .int .i64 a1, .int .i64 a2, .int .i64 a3, .int .i64 a4, .int .i64 a5, .int .i64 a6, .int .i64 a7, .int .i64 a8, .string ⟨oc.toArray⟩, .int .i64 re, .int .i64 rg, .int .i64 rd, .int .i64 ce, v1, v2, .int .i64 life] 40)).alloc (.cells #[.pointer none, .slice none 0 0] 113)).alloc (.cells #[.pointer (some ⟨w.heap.size, 0, none⟩), .pointer (some ⟨w.heap.size + 1, 0, none⟩), .pointer none] 118)) (w.heap.size + 1) 113 [.pointer none, .slice none 0 0] := (BlkAt.newAt (by simp) 113 [.pointer none, .slice none 0 0]).alloc _
  have hD : BlkAt (((w.alloc (.cells #[.int .i64 k, .int .i64 dst, .int .i64 fn, .int .i64 fl, .int .i64 ep, .int .i64 seq, .int .i64 req, .int .i64 cl, .int .i64 id, .int .i64 un, .bool flag, .int .i64 ok, .int .i64 a1, .int .i64 a2, .int .i64 a3, .int .i64 a4, .int .i64 a5, .int .i64 a6, .int .i64 a7, .int .i64 a8, .string ⟨oc.toArray⟩, .int .i64 re, .int .i64 rg, .int .i64 rd, .int .i64 ce, v1, v2, .int .i64 life] 40)).alloc (.cells #[.pointer none, .slice none 0 0] 113)).alloc (.cells #[.pointer (some ⟨w.heap.size, 0, none⟩), .pointer (some ⟨w.heap.size + 1, 0, none⟩), .pointer none] 118)) (w.heap.size + 2) 118 [.pointer (some ⟨w.heap.size, 0, none⟩), .pointer (some ⟨w.heap.size + 1, 0, none⟩), .pointer none] := BlkAt.newAt (by simp) 118 [.pointer (some ⟨w.heap.size, 0, none⟩), .pointer (some ⟨w.heap.size + 1, 0, none⟩), .pointer none]
  have hb : Below w.heap.size w (((w.alloc (.cells #[.int .i64 k, .int .i64 dst, .int .i64 fn, .int .i64 fl, .int .i64 ep, .int .i64 seq, .int .i64 req, .int .i64 cl, .int .i64 id, .int .i64 un, .bool flag, .int .i64 ok, .int .i64 a1, .int .i64 a2, .int .i64 a3, .int .i64 a4, .int .i64 a5, .int .i64 a6, .int .i64 a7, .int .i64 a8, .string ⟨oc.toArray⟩, .int .i64 re, .int .i64 rg, .int .i64 rd, .int .i64 ce, v1, v2, .int .i64 life] 40)).alloc (.cells #[.pointer none, .slice none 0 0] 113)).alloc (.cells #[.pointer (some ⟨w.heap.size, 0, none⟩), .pointer (some ⟨w.heap.size + 1, 0, none⟩), .pointer none] 118)) := (((Below.refl w.heap.size w).alloc (Nat.le_refl _) _).alloc (by simp) _).alloc (by simp; omega) _
  have hWs : w.heap.size + 3 ≤ (((w.alloc (.cells #[.int .i64 k, .int .i64 dst, .int .i64 fn, .int .i64 fl, .int .i64 ep, .int .i64 seq, .int .i64 req, .int .i64 cl, .int .i64 id, .int .i64 un, .bool flag, .int .i64 ok, .int .i64 a1, .int .i64 a2, .int .i64 a3, .int .i64 a4, .int .i64 a5, .int .i64 a6, .int .i64 a7, .int .i64 a8, .string ⟨oc.toArray⟩, .int .i64 re, .int .i64 rg, .int .i64 rd, .int .i64 ce, v1, v2, .int .i64 life] 40)).alloc (.cells #[.pointer none, .slice none 0 0] 113)).alloc (.cells #[.pointer (some ⟨w.heap.size, 0, none⟩), .pointer (some ⟨w.heap.size + 1, 0, none⟩), .pointer none] 118)).heap.size := by simp
  change Code.wp _ _ _ _ (((w.alloc (.cells #[.int .i64 k, .int .i64 dst, .int .i64 fn, .int .i64 fl, .int .i64 ep, .int .i64 seq, .int .i64 req, .int .i64 cl, .int .i64 id, .int .i64 un, .bool flag, .int .i64 ok, .int .i64 a1, .int .i64 a2, .int .i64 a3, .int .i64 a4, .int .i64 a5, .int .i64 a6, .int .i64 a7, .int .i64 a8, .string ⟨oc.toArray⟩, .int .i64 re, .int .i64 rg, .int .i64 rd, .int .i64 ce, v1, v2, .int .i64 life] 40)).alloc (.cells #[.pointer none, .slice none 0 0] 113)).alloc (.cells #[.pointer (some ⟨w.heap.size, 0, none⟩), .pointer (some ⟨w.heap.size + 1, 0, none⟩), .pointer none] 118))
  generalize ((w.alloc (.cells #[.int .i64 k, .int .i64 dst, .int .i64 fn, .int .i64 fl, .int .i64 ep, .int .i64 seq, .int .i64 req, .int .i64 cl, .int .i64 id, .int .i64 un, .bool flag, .int .i64 ok, .int .i64 a1, .int .i64 a2, .int .i64 a3, .int .i64 a4, .int .i64 a5, .int .i64 a6, .int .i64 a7, .int .i64 a8, .string ⟨oc.toArray⟩, .int .i64 re, .int .i64 rg, .int .i64 rd, .int .i64 ce, v1, v2, .int .i64 life] 40)).alloc (.cells #[.pointer none, .slice none 0 0] 113)).alloc (.cells #[.pointer (some ⟨w.heap.size, 0, none⟩), .pointer (some ⟨w.heap.size + 1, 0, none⟩), .pointer none] 118) = W at *
  have hbn : w.heap.size ≤ w.heap.size + 1 := by omega
  have hbb : w.heap.size + 1 < w.heap.size + 3 := by omega
  have hb0 : w.heap.size + 1 ≠ w.heap.size := by omega
  have hdn : w.heap.size ≤ w.heap.size + 2 := by omega
  have hdb : w.heap.size + 2 < w.heap.size + 3 := by omega
  have hd0 : w.heap.size + 2 ≠ w.heap.size := by omega
  have hd1 : w.heap.size + 2 ≠ w.heap.size + 1 := by omega
  generalize hdd : w.heap.size + 2 = d at *
  generalize hbd : w.heap.size + 1 = b at *
  have hB := bld_new hE
  have hM : MsgIn w W w.heap.size ⟨k, dst, fn, fl, ep, seq, req, cl, id, un, flag, ⟨ok, [a1, a2, a3, a4, a5, a6, a7, a8], oc⟩, re, rg, rd, ⟨ce, ch⟩, fires, life⟩ := ⟨v1, v2, hMb, hv1, hv2⟩
  have HT := Lib.hid (show textOf ⟨k, dst, fn, fl, ep, seq, req, cl, id, un, flag, ⟨ok, [a1, a2, a3, a4, a5, a6, a7, a8], oc⟩, re, rg, rd, ⟨ce, ch⟩, fires, life⟩ = kindB k :: (encI [dst] ++ (fieldsOf k).flatMap (encFld ⟨k, dst, fn, fl, ep, seq, req, cl, id, un, flag, ⟨ok, [a1, a2, a3, a4, a5, a6, a7, a8], oc⟩, re, rg, rd, ⟨ce, ch⟩, fires, life⟩)) from rfl)
  have hkw := hok.nums k (by simp)
  have hdw := hok.nums dst (by simp)
  generalize hMM : (⟨k, dst, fn, fl, ep, seq, req, cl, id, un, flag, ⟨ok, [a1, a2, a3, a4, a5, a6, a7, a8], oc⟩, re, rg, rd, ⟨ce, ch⟩, fires, life⟩ : MsgV) = M at *
  have hMk : M.kind = k := by rw [← hMM]
  have hMd : M.dst = dst := by rw [← hMM]
  have HME := Lib.hid hMM
  clear hMM hE
  have c0 : W.cell? ⟨w.heap.size, 0, none⟩ = some (.int .i64 k) := hMb.cell rfl
  clear hMb hv1 hv2
  obtain ⟨m, hm⟩ : ∃ m, m = w.heap.size := ⟨_, rfl⟩
  have hb2 : Below m w W := by rw [hm]; exact hb
  rw [← hm] at hM hD c0 hWs hbn ⊢
  have hwm : w.heap.size ≤ m := Nat.le_of_eq hm.symm
  have HMM := Lib.hid hm
  clear hb
  have hb : Below w.heap.size w W := by rw [← HMM.out]; exact hb2
  have HB0 := Lib.hid hb2
  clear hm hb2
  go_wp2_with fail
  have hkb : k = ((kindB k).toNat : Int) := (kindB_nat (by omega) (by omega)).symm
  have HKB := Lib.hid hkb
  clear hkb
  refine (wbyte_k (kindB k) HKB.out (by exact hB) (by simp) (by omega)).mono ?_
  rintro en w1 ⟨rfl, hB1, b1, k1⟩
  have hD := hD.tkeep k1 (by decide) (by decide)
  have hM := hM.tkeep k1
  have hb1 : Below w.heap.size w w1 := below_low hb b1 (by omega)
  have hbs : b ≤ w1.heap.size := by have := b1.size; omega
  rw [List.nil_append] at hB1
  clear c0 b1 k1 hb hB
  obtain ⟨u1, u2, hMb, hu1, hu2⟩ := hM
  have hP : PtrsAt b (w1.alloc (.cells #[.pointer (some ⟨m, 1, none⟩)] 123)) w1.heap.size [(m, 1)] [dst] := by
    refine ⟨BlkAt.new w1 123 [.pointer (some ⟨m, 1, none⟩)], rfl, fun i A x g1 g2 => ?_⟩
    match i, g1, g2 with
    | 0, g1, g2 => simp at g1 g2; obtain rfl := g1; obtain rfl := g2; exact .inl ⟨_, _, _, hMb.alloc (.cells #[.pointer (some ⟨m, 1, none⟩)] 123), by decide, by decide, by simp [msgCells, hMd]⟩
  have hM : MsgIn w w1 m M := ⟨u1, u2, hMb, hu1, hu2⟩
  clear hMb hu1 hu2
  have b0 := (Below.refl w1.heap.size w1).alloc (Nat.le_refl _) (.cells #[.pointer (some ⟨m, 1, none⟩)] 123)
  have hD := hD.alloc (.cells #[.pointer (some ⟨m, 1, none⟩)] 123)
  have hM := hM.tkeep (TKeep.below b0)
  have hB2 := hB1.alloc (.cells #[.pointer (some ⟨m, 1, none⟩)] 123)
  have hb2 := below_step hb1 b0
  have hbs2 : b ≤ (w1.alloc (.cells #[.pointer (some ⟨m, 1, none⟩)] 123)).heap.size := by have := b0.size; omega
  go_wp2_with fail
  refine (ints_write (As := [(m, 1)]) (xs := [dst]) (by exact hD) (by exact hP) (by simpa using hdw) (by exact hB2) hbs2 (by simp) (by simp)).mono ?_
  rintro en w2 ⟨rfl, hB3, b3, k3⟩
  have hD := hD.tkeep k3 (by decide) (by decide)
  have hM := hM.tkeep k3
  have hb3 : Below w.heap.size w w2 := below_low hb2 b3 (by omega)
  have hbs3 : b ≤ w2.heap.size := by have := b3.size; omega
  clear hB2 hP b0 b3 k3 hb2 hb1 hB1 hbs hbs2
  obtain ⟨u1, u2, hMb, hu1, hu2⟩ := hM
  go_wp2_with fail
  refine (drow_any (k := k) (by exact hD) (by exact hMb) (by simp [msgCells, hMk])).mono ?_
  rintro en w3 ⟨rv, rfl, hR, b4⟩
  have hM : MsgIn w w2 m M := ⟨u1, u2, hMb, hu1, hu2⟩
  clear hMb hu1 hu2
  have hD := hD.below b4
  have hM := hM.tkeep (TKeep.below b4)
  have hB := hB3.below b4
  have hb4 := below_step hb3 b4
  have hbs4 : b ≤ w3.heap.size := by have := b4.size; omega
  clear hB3 hb3 hbs3 b4
  rcases hR with ⟨h, _⟩ | ⟨_, R, rfl, hRb⟩
  · exact absurd h hne
  obtain ⟨Fs, hFs⟩ : ∃ Fs, Fs = fieldsOf k := ⟨_, rfl⟩
  rw [← hFs] at hRb HT HRL hne ⊢
  have HFS := Lib.hid hFs
  clear hFs hne
  go_wp2_with fail
  go_loopw [26] (fun i wr => ∃ j : Nat, j ≤ Fs.length ∧ i = .int .i64 j ∧ BldAt b b ([kindB k] ++ encI [dst] ++ (Fs.take j).flatMap (encFld M)) wr ∧ Below w.heap.size w wr ∧ b ≤ wr.heap.size ∧ TKeep w3 wr) (fun i _ => Fs.length - (intOf i).toNat)
  case atStart => exact ⟨0, Nat.zero_le _, rfl, by simpa using hB, hb4, hbs4, TKeep.refl _⟩
  case round =>
    obtain ⟨j, hj, rfl, hBr, hbr, hbsr, hkr⟩ := hrel
    have hDr := hD.tkeep hkr (by decide) (by decide)
    have hMr := hM.tkeep hkr
    have hRr : BlkAt wr R 1 _ := hRb.tkeep hkr (by decide) (by decide)
    have hlen : ([kindB k] ++ encI [dst] ++ (Fs.take j).flatMap (encFld M)).length ≤ 1000000 := by
      have h1 := HFL.out (Fs.take j)
      have hrl := HRL.out
      have h2 := encI_len [dst]
      rw [List.length_take] at h1
      simp only [List.length_append, List.length_cons, List.length_nil] at *
      omega
    clear hB hb4 hbs4
    by_cases hlt : j < Fs.length
    · have hrl := HRL.out
      obtain ⟨F, hF⟩ : ∃ F, Fs[j]? = some F := ⟨_, List.getElem?_eq_getElem hlt⟩
      have HS := Lib.hid (flds_snoc hF M)
      have r0 : wr.cell? ⟨R, j, none⟩ = some (.func (.func (fnOf F)) #[.pointer (some ⟨d, 0, none⟩)] #[]) := hRr.cell (by rw [List.getElem?_map, hF]; rfl)
      generalize hq : [kindB k] ++ encI [dst] ++ (Fs.take j).flatMap (encFld M) = q at *
      have HQ := Lib.hid hq
      clear hq hF hRr
      have HC := Lib.hid (fld_w F (by exact hDr) (by exact hMr) hbr (by omega) hok hs (by exact hBr) hbsr hlen)
      clear hDr hMr hBr
      cases F
      all_goals
        dsimp only [fnOf] at r0 HC
        go_wp2_with fail
        refine HC.out.mono ?_
        rintro en w4 ⟨rfl, hB4, b4, k4⟩
        have HBB := Lib.hid hB4
        have HBL := Lib.hid (below_low hbr b4 (by omega))
        have HK := Lib.hid (hkr.trans k4)
        have hbs4 : b ≤ w4.heap.size := by have := b4.size; omega
        clear r0 hB4 b4 k4 hbr hkr
        go_wp2_with fail
        go_roundw
        case rel => exact ⟨j + 1, by omega, by go_num, by rw [HS.out, ← List.append_assoc, HQ.out]; exact HBB.out, HBL.out, hbs4, HK.out⟩
        case measure => simp [intOf]; omega
    · obtain rfl : j = Fs.length := by omega
      rw [List.take_length] at hBr hlen
      have hq : [kindB k] ++ encI [dst] ++ Fs.flatMap (encFld M) = textOf M := by rw [HT.out]; simp
      rw [hq] at hBr hlen
      clear hDr hMr hRr hq hkr
      go_wp2_with fail
      refine (bstr_any (by exact hBr) hbsr).mono ?_
      rintro en w4 ⟨rfl, b4⟩
      have hb4 := below_low hbr b4 (by omega)
      clear hBr hbr b4
      go_wp2_with fail
      refine (frame_any (textOf M) hlen _).mono ?_
      rintro en w5 ⟨rfl, b5⟩
      have hb5 := below_step hb4 b5
      go_wp2_with fail
      go_ret
      exact ⟨by rw [HME.out]; rfl, hb5⟩

/-- What a message is as a value: the cells, and what they lead to. -/
def MsgV.At (M : MsgV) (w : World) (v : Value) : Prop := ∃ v1 v2, v = .agg (msgCells M v1 v2).toArray ∧ ChainAt w v1 M.cf.chain ∧ FiresAt w v2 M.fires
theorem MsgV.At.below {M : MsgV} {w w' : World} {v : Value} (h : M.At w v) (hb : Below w.heap.size w w') : M.At w' v := by
  obtain ⟨v1, v2, h1, h2, h3⟩ := h
  exact ⟨v1, v2, h1, h2.below hb, h3.below hb⟩
theorem wwrite_any {w : World} {M : MsgV} {v : Value} (hv : M.At w v) (hok : MOk M) (hs : MSmall M) (hk : 1 ≤ M.kind ∧ M.kind ≤ 15) :
    Calls Tryz.prog 40 #[v] w fun en w' => en = .returned (.string ⟨(frame (textOf M)).toArray⟩) ∧ Below w.heap.size w w' := by
  obtain ⟨v1, v2, rfl, hc, hf⟩ := hv
  have ho := hok.op.1
  obtain ⟨k, dst, fn, fl, ep, seq, req, cl, id, un, flag, op, re, rg, rd, cf, fires, life⟩ := M
  obtain ⟨ok, ov, oc⟩ := op
  obtain ⟨a1, a2, a3, a4, a5, a6, a7, a8, rfl⟩ := list8 ho
  obtain ⟨ce, ch⟩ := cf
  exact wwrite_lit hok hs hc hf hk
end Go.Proofs.YtnaabaahfjklhaaGreat
