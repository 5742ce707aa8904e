/- The code's Print and Read of messages. -/
import Derived.Test.YtnaabaahfjklhaaGreatWireRead0
import Derived.Test.YtnaabaahfjklhaaGreatWireSameC
namespace Go.Proofs.YtnaabaahfjklhaaGreat
open Go.RowKit Go.ChangeShapes Go.WideShapes Go.Joins Go.Deep Fld
set_option linter.unusedVariables false

theorem rawM_op {s : List UInt8} (hs : s.length ≤ 1000000) : (rawM s).1.op.v.length = 8 := by
  have htl : (wholeOf s).length ≤ 1000000 := by rw [wholeOf]; split <;> simp <;> omega
  unfold rawM
  split
  · unfold rdText
    refine (rdFlds_facts _ _ _ _ ?_ rfl).1
    exact Nat.le_trans (Nat.le_trans (rdIs_short _ _ _) (rdB_len _ _)) htl
  · rfl
/-- What is handed back of a read message. -/
def msgErr (e : Int) : Value := .int .i64 e
theorem textOf_len {M : MsgV} (hM : MOk M) (hs : MSmall M) : (textOf M).length ≤ 700011 := by
  have h1 := fldsLen hM hs (fieldsOf M.kind)
  have h2 := rowLen M.kind
  have h3 := encI_len [M.dst]
  simp only [textOf, List.length_cons, List.length_append, List.length_nil] at *
  omega
/-- What is read of what is written: the message, just if it may be. -/
theorem raw_same {M : MsgV} (hM : MOk M) : (rawM (frame (textOf M))).2 = true ∧ (rawM (frame (textOf M))).1 = M ↔ mayW M = true := by
  constructor
  · rintro ⟨h1, h2⟩
    exact (msg_back (Prod.ext h2 h1)).1
  · intro h
    rw [msg_print hM h]
    exact ⟨rfl, rfl⟩

/-- A value that is a message's, its parts by name. -/
theorem at_parts {M : MsgV} {w : World} {v : Value} (h : M.At w v) (ho : M.op.v.length = 8) : ∃ (k dst fn fl ep seq req cl id un : Int) (flag : Bool) (ok a1 a2 a3 a4 a5 a6 a7 a8 : Int) (oc : List UInt8) (re rg rd ce : Int) (ch : List SeatV) (fires : List FireV) (life : Int) (v1 v2 : Value),
    M = ⟨k, dst, fn, fl, ep, seq, req, cl, id, un, flag, ⟨ok, [a1, a2, a3, a4, a5, a6, a7, a8], oc⟩, re, rg, rd, ⟨ce, ch⟩, fires, life⟩ ∧ v = .agg #[.int .i64 k, .int .i64 dst, .int .i64 fn, .int .i64 fl, .int .i64 ep, .int .i64 seq, .int .i64 req, .int .i64 cl, .int .i64 id, .int .i64 un, .bool flag, .int .i64 ok, .int .i64 a1, .int .i64 a2, .int .i64 a3, .int .i64 a4, .int .i64 a5, .int .i64 a6, .int .i64 a7, .int .i64 a8, .string ⟨oc.toArray⟩, .int .i64 re, .int .i64 rg, .int .i64 rd, .int .i64 ce, v1, v2, .int .i64 life] ∧ ChainAt w v1 ch ∧ FiresAt w v2 fires := by
  obtain ⟨v1, v2, rfl, hc, hf⟩ := h
  obtain ⟨k, dst, fn, fl, ep, seq, req, cl, id, un, flag, op, re, rg, rd, cf, fires, life⟩ := M
  obtain ⟨ok, ov, oc⟩ := op
  obtain ⟨a1, a2, a3, a4, a5, a6, a7, a8, rfl⟩ := list8 ho
  obtain ⟨ce, ch⟩ := cf
  exact ⟨k, dst, fn, fl, ep, seq, req, cl, id, un, flag, ok, a1, a2, a3, a4, a5, a6, a7, a8, oc, re, rg, rd, ce, ch, fires, life, v1, v2, rfl, rfl, hc, hf⟩
set_option maxRecDepth 100000 in
set_option maxHeartbeats 2000000 in

theorem wread_long {w : World} {s : List UInt8} (hs : 1024 < s.length) :
    Calls Tryz.prog 33 #[.string ⟨s.toArray⟩] w fun en w' => ∃ v, en = .returned (.tuple #[v, .int .i64 15]) ∧ msgZero.From w.heap.size w' v ∧ Below w.heap.size w w' := by
  have h' : (1024 : Int) < (s.length : Int) := by omega
  have hM := BlkAt.new w 40 [.int .i64 0, .int .i64 0, .int .i64 0, .int .i64 0, .int .i64 0, .int .i64 0, .int .i64 0, .int .i64 0, .int .i64 0, .int .i64 0, .bool false, .int .i64 0, .int .i64 0, .int .i64 0, .int .i64 0, .int .i64 0, .int .i64 0, .int .i64 0, .int .i64 0, .int .i64 0, .string ⟨#[]⟩, .int .i64 0, .int .i64 0, .int .i64 0, .int .i64 0, .slice none 0 0, .slice none 0 0, .int .i64 0]
  have hb := (Below.refl w.heap.size w).alloc (Nat.le_refl _) (.cells #[.int .i64 0, .int .i64 0, .int .i64 0, .int .i64 0, .int .i64 0, .int .i64 0, .int .i64 0, .int .i64 0, .int .i64 0, .int .i64 0, .bool false, .int .i64 0, .int .i64 0, .int .i64 0, .int .i64 0, .int .i64 0, .int .i64 0, .int .i64 0, .int .i64 0, .int .i64 0, .string ⟨#[]⟩, .int .i64 0, .int .i64 0, .int .i64 0, .int .i64 0, .slice none 0 0, .slice none 0 0, .int .i64 0] 40)
  go_enter Tryz.func33, Tryz.ntmps33
  go_upto_region 1 with (fail)
  change Code.wp _ _ _ _ (w.alloc (.cells #[.int .i64 0, .int .i64 0, .int .i64 0, .int .i64 0, .int .i64 0, .int .i64 0, .int .i64 0, .int .i64 0, .int .i64 0, .int .i64 0, .bool false, .int .i64 0, .int .i64 0, .int .i64 0, .int .i64 0, .int .i64 0, .int .i64 0, .int .i64 0, .int .i64 0, .int .i64 0, .string ⟨#[]⟩, .int .i64 0, .int .i64 0, .int .i64 0, .int .i64 0, .slice none 0 0, .slice none 0 0, .int .i64 0] 40))
  change BlkAt (w.alloc (.cells #[.int .i64 0, .int .i64 0, .int .i64 0, .int .i64 0, .int .i64 0, .int .i64 0, .int .i64 0, .int .i64 0, .int .i64 0, .int .i64 0, .bool false, .int .i64 0, .int .i64 0, .int .i64 0, .int .i64 0, .int .i64 0, .int .i64 0, .int .i64 0, .int .i64 0, .int .i64 0, .string ⟨#[]⟩, .int .i64 0, .int .i64 0, .int .i64 0, .int .i64 0, .slice none 0 0, .slice none 0 0, .int .i64 0] 40)) _ _ _ at hM
  generalize w.alloc (.cells #[.int .i64 0, .int .i64 0, .int .i64 0, .int .i64 0, .int .i64 0, .int .i64 0, .int .i64 0, .int .i64 0, .int .i64 0, .int .i64 0, .bool false, .int .i64 0, .int .i64 0, .int .i64 0, .int .i64 0, .int .i64 0, .int .i64 0, .int .i64 0, .int .i64 0, .int .i64 0, .string ⟨#[]⟩, .int .i64 0, .int .i64 0, .int .i64 0, .int .i64 0, .slice none 0 0, .slice none 0 0, .int .i64 0] 40) = W at *
  obtain ⟨m, hm⟩ : ∃ m, m = w.heap.size := ⟨_, rfl⟩
  have hmw : w.heap.size ≤ m := Nat.le_of_eq hm.symm
  rw [← hm] at hM ⊢
  clear hm
  obtain ⟨cs, hcs⟩ : ∃ cs : List Value, cs = [.int .i64 0, .int .i64 0, .int .i64 0, .int .i64 0, .int .i64 0, .int .i64 0, .int .i64 0, .int .i64 0, .int .i64 0, .int .i64 0, .bool false, .int .i64 0, .int .i64 0, .int .i64 0, .int .i64 0, .int .i64 0, .int .i64 0, .int .i64 0, .int .i64 0, .int .i64 0, .string ⟨#[]⟩, .int .i64 0, .int .i64 0, .int .i64 0, .int .i64 0, .slice none 0 0, .slice none 0 0, .int .i64 0] := ⟨_, rfl⟩
  rw [← hcs] at hM
  have hlen : cs.length = 28 := by rw [hcs]; rfl
  have hone : cs.toArray.all (·.oneCell') = true := by rw [hcs]; simp [Value.oneCell']
  have HCS := Lib.hid hcs
  have hi : (Tryz.prog.info? 40).map (·.size) = some cs.length := by rw [hlen]; exact msg_info
  have hz : ∀ w, (zeroValue 40).run Tryz.prog w = .ok (.agg cs.toArray) w := fun w => by rw [hcs]; kernel_rfl
  have G := grown_setCells m cs 0 W
  have HB := Lib.hid (hb.grown G hb.size (by intro j hj; cases hj; exact hmw))
  have HM2 := Lib.hid (hM.stored (vs := cs) rfl)
  have HLN := Lib.hid hlen
  clear hcs hlen
  go_wp2_with (refine wpList_store_mid rfl 40 (.tmp 2) (.tmp 9) rfl m 0 cs.toArray rfl rfl (blk_there hM) (by rw [List.size_toArray]; exact hi) hone ?_; rw [List.toList_toArray])
  exact bodyPost_ret (v := .tuple #[.agg cs.toArray, .int .i64 15]) (results_msg rfl rfl rfl HM2.out HLN.out) rfl ⟨_, rfl, ⟨.slice none 0 0, .slice none 0 0, by rw [HCS.out]; rfl, ChainFrom.nil _ _, FiresFrom.nil _ _⟩, HB.out⟩

theorem blk_there2 {w : World} {b : Nat} {T : TypeId} {ds cs : List Value} (h : BlkAt w b T ds) (hl : cs.length = ds.length) : w.there b 0 cs.toArray.size := by
  have := blk_there h
  rw [List.size_toArray] at this ⊢
  rw [hl]
  exact this
set_option maxRecDepth 100000 in
set_option maxHeartbeats 2000000 in

theorem wread_short {w : World} {s : List UInt8} (hs : ¬ 1024 < s.length) {M : MsgV} {ok : Bool} (hr : rawM s = (M, ok)) {x : Int} (hx : x = if ok = true then 0 else 3) {R : MsgV} (hR : R = if ok = true then M else msgZero) :
    Calls Tryz.prog 33 #[.string ⟨s.toArray⟩] w fun en w' => ∃ v, en = .returned (.tuple #[v, .int .i64 x]) ∧ R.From w.heap.size w' v ∧ Below w.heap.size w w' := by
  have h' : ¬ (1024 : Int) < (s.length : Int) := by omega
  have hop := rawM_op (s := s) (by omega)
  rw [hr] at hop
  have HR := Lib.hid hr
  clear hr
  have hM := BlkAt.new w 40 [.int .i64 0, .int .i64 0, .int .i64 0, .int .i64 0, .int .i64 0, .int .i64 0, .int .i64 0, .int .i64 0, .int .i64 0, .int .i64 0, .bool false, .int .i64 0, .int .i64 0, .int .i64 0, .int .i64 0, .int .i64 0, .int .i64 0, .int .i64 0, .int .i64 0, .int .i64 0, .string ⟨#[]⟩, .int .i64 0, .int .i64 0, .int .i64 0, .int .i64 0, .slice none 0 0, .slice none 0 0, .int .i64 0]
  have hb := (Below.refl w.heap.size w).alloc (Nat.le_refl _) (.cells #[.int .i64 0, .int .i64 0, .int .i64 0, .int .i64 0, .int .i64 0, .int .i64 0, .int .i64 0, .int .i64 0, .int .i64 0, .int .i64 0, .bool false, .int .i64 0, .int .i64 0, .int .i64 0, .int .i64 0, .int .i64 0, .int .i64 0, .int .i64 0, .int .i64 0, .int .i64 0, .string ⟨#[]⟩, .int .i64 0, .int .i64 0, .int .i64 0, .int .i64 0, .slice none 0 0, .slice none 0 0, .int .i64 0] 40)
  go_enter Tryz.func33, Tryz.ntmps33
  go_upto_region 1 with (fail)
  change Code.wp _ _ _ _ (w.alloc (.cells #[.int .i64 0, .int .i64 0, .int .i64 0, .int .i64 0, .int .i64 0, .int .i64 0, .int .i64 0, .int .i64 0, .int .i64 0, .int .i64 0, .bool false, .int .i64 0, .int .i64 0, .int .i64 0, .int .i64 0, .int .i64 0, .int .i64 0, .int .i64 0, .int .i64 0, .int .i64 0, .string ⟨#[]⟩, .int .i64 0, .int .i64 0, .int .i64 0, .int .i64 0, .slice none 0 0, .slice none 0 0, .int .i64 0] 40))
  change BlkAt (w.alloc (.cells #[.int .i64 0, .int .i64 0, .int .i64 0, .int .i64 0, .int .i64 0, .int .i64 0, .int .i64 0, .int .i64 0, .int .i64 0, .int .i64 0, .bool false, .int .i64 0, .int .i64 0, .int .i64 0, .int .i64 0, .int .i64 0, .int .i64 0, .int .i64 0, .int .i64 0, .int .i64 0, .string ⟨#[]⟩, .int .i64 0, .int .i64 0, .int .i64 0, .int .i64 0, .slice none 0 0, .slice none 0 0, .int .i64 0] 40)) _ _ _ at hM
  generalize w.alloc (.cells #[.int .i64 0, .int .i64 0, .int .i64 0, .int .i64 0, .int .i64 0, .int .i64 0, .int .i64 0, .int .i64 0, .int .i64 0, .int .i64 0, .bool false, .int .i64 0, .int .i64 0, .int .i64 0, .int .i64 0, .int .i64 0, .int .i64 0, .int .i64 0, .int .i64 0, .int .i64 0, .string ⟨#[]⟩, .int .i64 0, .int .i64 0, .int .i64 0, .int .i64 0, .slice none 0 0, .slice none 0 0, .int .i64 0] 40) = W at *
  obtain ⟨m, hm⟩ : ∃ m, m = w.heap.size := ⟨_, rfl⟩
  have hmw : w.heap.size ≤ m := Nat.le_of_eq hm.symm
  rw [← hm] at hM ⊢
  clear hm
  go_wp2_with fail
  have hmW := hM.lt
  refine (wread0_any (s := s) (by omega)).mono ?_
  rintro en w3 ⟨v, rfl, ⟨v1, v2, rfl, hc, hf⟩, b3⟩
  rw [HR.out] at hc hf ⊢
  have hM3 := hM.below b3
  have hb3 := below_step hb b3
  have hml := hM3.lt
  clear hM b3 hb
  have hlen : (msgCells M v1 v2).length = 28 := msgCells_len hop _ _
  have hone : (msgCells M v1 v2).toArray.all (·.oneCell') = true := by
    rw [Array.all_eq_true_iff_forall_mem]
    intro u hu
    exact msgCells_one (chain_one hc.1) (fires_one hf.1) u (by simpa using hu)
  have HAT : Hid (∀ w9, Below w3.heap.size w3 w9 → M.From (m + 1) w9 (.agg (msgCells M v1 v2).toArray)) := Lib.hid fun w9 hg => MsgV.From.below ⟨v1, v2, rfl, hc.mono (by omega), hf.mono (by omega)⟩ hg
  clear hc hf
  generalize msgCells M v1 v2 = cs at *
  have hi : (Tryz.prog.info? 40).map (·.size) = some cs.length := by rw [hlen]; exact msg_info
  have hX := BlkAt.new w3 40 [.int .i64 0, .int .i64 0, .int .i64 0, .int .i64 0, .int .i64 0, .int .i64 0, .int .i64 0, .int .i64 0, .int .i64 0, .int .i64 0, .bool false, .int .i64 0, .int .i64 0, .int .i64 0, .int .i64 0, .int .i64 0, .int .i64 0, .int .i64 0, .int .i64 0, .int .i64 0, .string ⟨#[]⟩, .int .i64 0, .int .i64 0, .int .i64 0, .int .i64 0, .slice none 0 0, .slice none 0 0, .int .i64 0]
  have hl1 : cs.length = ([.int .i64 0, .int .i64 0, .int .i64 0, .int .i64 0, .int .i64 0, .int .i64 0, .int .i64 0, .int .i64 0, .int .i64 0, .int .i64 0, .bool false, .int .i64 0, .int .i64 0, .int .i64 0, .int .i64 0, .int .i64 0, .int .i64 0, .int .i64 0, .int .i64 0, .int .i64 0, .string ⟨#[]⟩, .int .i64 0, .int .i64 0, .int .i64 0, .int .i64 0, .slice none 0 0, .slice none 0 0, .int .i64 0] : List Value).length := by rw [hlen]; rfl
  have HL1 := Lib.hid hl1
  clear hl1
  have b4 := (Below.refl w3.heap.size w3).alloc (Nat.le_refl _) (.cells #[.int .i64 0, .int .i64 0, .int .i64 0, .int .i64 0, .int .i64 0, .int .i64 0, .int .i64 0, .int .i64 0, .int .i64 0, .int .i64 0, .bool false, .int .i64 0, .int .i64 0, .int .i64 0, .int .i64 0, .int .i64 0, .int .i64 0, .int .i64 0, .int .i64 0, .int .i64 0, .string ⟨#[]⟩, .int .i64 0, .int .i64 0, .int .i64 0, .int .i64 0, .slice none 0 0, .slice none 0 0, .int .i64 0] 40)
  have G4 := grown_setCells w3.heap.size cs 0 (w3.alloc (.cells #[.int .i64 0, .int .i64 0, .int .i64 0, .int .i64 0, .int .i64 0, .int .i64 0, .int .i64 0, .int .i64 0, .int .i64 0, .int .i64 0, .bool false, .int .i64 0, .int .i64 0, .int .i64 0, .int .i64 0, .int .i64 0, .int .i64 0, .int .i64 0, .int .i64 0, .int .i64 0, .string ⟨#[]⟩, .int .i64 0, .int .i64 0, .int .i64 0, .int .i64 0, .slice none 0 0, .slice none 0 0, .int .i64 0] 40))
  have b5 := b4.grown G4 b4.size (by intro j hj; cases hj; exact Nat.le_refl _)
  have HX2 := Lib.hid (hX.stored (vs := cs) HL1.out)
  have HM4 := Lib.hid (hM3.below b5)
  have HB4 := Lib.hid (below_step hb3 b5)
  have HA4 := Lib.hid (HAT.out _ b5)
  have HT := Lib.hid (blk_there2 hX HL1.out)
  clear hX b4 G4 hM3 hb3 HAT b5
  go_upto_region 4 with (refine wpList_store_mid rfl 40 (.tmp 4) (.tmp 13) rfl w3.heap.size 0 cs.toArray rfl rfl (by exact HT.out) (by rw [List.size_toArray]; exact hi) hone ?_; rw [List.toList_toArray])
  change Code.wp _ _ _ _ ((w3.alloc (.cells #[.int .i64 0, .int .i64 0, .int .i64 0, .int .i64 0, .int .i64 0, .int .i64 0, .int .i64 0, .int .i64 0, .int .i64 0, .int .i64 0, .bool false, .int .i64 0, .int .i64 0, .int .i64 0, .int .i64 0, .int .i64 0, .int .i64 0, .int .i64 0, .int .i64 0, .int .i64 0, .string ⟨#[]⟩, .int .i64 0, .int .i64 0, .int .i64 0, .int .i64 0, .slice none 0 0, .slice none 0 0, .int .i64 0] 40)).setCells w3.heap.size 0 cs)
  generalize (w3.alloc (.cells #[.int .i64 0, .int .i64 0, .int .i64 0, .int .i64 0, .int .i64 0, .int .i64 0, .int .i64 0, .int .i64 0, .int .i64 0, .int .i64 0, .bool false, .int .i64 0, .int .i64 0, .int .i64 0, .int .i64 0, .int .i64 0, .int .i64 0, .int .i64 0, .int .i64 0, .int .i64 0, .string ⟨#[]⟩, .int .i64 0, .int .i64 0, .int .i64 0, .int .i64 0, .slice none 0 0, .slice none 0 0, .int .i64 0] 40)).setCells w3.heap.size 0 cs = w4 at *
  have hX := HX2.out
  have hM := HM4.out
  have hb := HB4.out
  have hA := HA4.out
  clear HX2 HM4 HB4 HA4 HT
  generalize w3.heap.size = X at *
  cases ok with
  | true =>
    rw [if_pos rfl] at hx hR
    subst hx hR
    have hl2 : cs.length = ([.int .i64 0, .int .i64 0, .int .i64 0, .int .i64 0, .int .i64 0, .int .i64 0, .int .i64 0, .int .i64 0, .int .i64 0, .int .i64 0, .bool false, .int .i64 0, .int .i64 0, .int .i64 0, .int .i64 0, .int .i64 0, .int .i64 0, .int .i64 0, .int .i64 0, .int .i64 0, .string ⟨#[]⟩, .int .i64 0, .int .i64 0, .int .i64 0, .int .i64 0, .slice none 0 0, .slice none 0 0, .int .i64 0] : List Value).length := HL1.out
    have HT2 := Lib.hid (blk_there2 hM hl2)
    have HM2 := Lib.hid (hM.stored (vs := cs) hl2)
    have G := grown_setCells m cs 0 w4
    have HB2 := Lib.hid (grown_below hb G hmw)
    have HA2 := Lib.hid ((hA.grown G (by omega)).mono (show w.heap.size ≤ m + 1 by omega))
    have HLN := Lib.hid hlen
    clear hlen hM hb hA G hl2
    go_wp2_with (first | (refine wpList_load_mid rfl 40 (.tmp 4) rfl X 0 rfl cs _ hX.range Tryz.underlying40 rfl hi ?_; simp only [Act.put, List.setIfInBounds_toArray, List.set_cons_zero, List.set_cons_succ]) | (refine wpList_store_mid rfl 40 (.tmp 2) (.tmp 18) rfl m 0 cs.toArray rfl rfl (by exact HT2.out) (by rw [List.size_toArray]; exact hi) hone ?_; rw [List.toList_toArray]))
    exact bodyPost_ret (v := .tuple #[.agg cs.toArray, .int .i64 0]) (results_msg rfl rfl rfl HM2.out HLN.out) rfl ⟨_, rfl, HA2.out, HB2.out⟩
  | false =>
    rw [if_neg (by simp)] at hx hR
    subst hx hR
    clear hX hA
    obtain ⟨zs, hzs⟩ : ∃ zs : List Value, zs = [.int .i64 0, .int .i64 0, .int .i64 0, .int .i64 0, .int .i64 0, .int .i64 0, .int .i64 0, .int .i64 0, .int .i64 0, .int .i64 0, .bool false, .int .i64 0, .int .i64 0, .int .i64 0, .int .i64 0, .int .i64 0, .int .i64 0, .int .i64 0, .int .i64 0, .int .i64 0, .string ⟨#[]⟩, .int .i64 0, .int .i64 0, .int .i64 0, .int .i64 0, .slice none 0 0, .slice none 0 0, .int .i64 0] := ⟨_, rfl⟩
    have hl2 : zs.length = ([.int .i64 0, .int .i64 0, .int .i64 0, .int .i64 0, .int .i64 0, .int .i64 0, .int .i64 0, .int .i64 0, .int .i64 0, .int .i64 0, .bool false, .int .i64 0, .int .i64 0, .int .i64 0, .int .i64 0, .int .i64 0, .int .i64 0, .int .i64 0, .int .i64 0, .int .i64 0, .string ⟨#[]⟩, .int .i64 0, .int .i64 0, .int .i64 0, .int .i64 0, .slice none 0 0, .slice none 0 0, .int .i64 0] : List Value).length := by rw [hzs]
    have hl3 : zs.length = 28 := by rw [hzs]; rfl
    have hone2 : zs.toArray.all (·.oneCell') = true := by rw [hzs]; simp [Value.oneCell']
    have HZS := Lib.hid hzs
    have hi2 : (Tryz.prog.info? 40).map (·.size) = some zs.length := by rw [hl3]; exact msg_info
    have hz : ∀ w, (zeroValue 40).run Tryz.prog w = .ok (.agg zs.toArray) w := fun w => by rw [hzs]; kernel_rfl
    have HT2 := Lib.hid (blk_there2 hM hl2)
    have HM2 := Lib.hid (hM.stored (vs := zs) hl2)
    have G := grown_setCells m zs 0 w4
    have HB2 := Lib.hid (grown_below hb G hmw)
    have HLN := Lib.hid hl3
    clear hlen hM hb G hl2 hl3 hzs
    go_wp2_with (refine wpList_store_mid rfl 40 (.tmp 2) (.tmp 17) rfl m 0 zs.toArray rfl rfl (by exact HT2.out) (by rw [List.size_toArray]; exact hi2) hone2 ?_; rw [List.toList_toArray])
    exact bodyPost_ret (v := .tuple #[.agg zs.toArray, .int .i64 3]) (results_msg rfl rfl rfl HM2.out HLN.out) rfl ⟨_, rfl, ⟨.slice none 0 0, .slice none 0 0, by rw [HZS.out]; rfl, ChainFrom.nil _ _, FiresFrom.nil _ _⟩, HB2.out⟩
theorem wread_any {w : World} {s : List UInt8} {R : MsgV} {x : Int} (h : readM s = (R, x)) :
    Calls Tryz.prog 33 #[.string ⟨s.toArray⟩] w fun en w' => ∃ v, en = .returned (.tuple #[v, .int .i64 x]) ∧ R.From w.heap.size w' v ∧ Below w.heap.size w w' := by
  unfold readM at h
  by_cases hs : 1024 < s.length
  · rw [if_pos hs] at h
    obtain ⟨rfl, rfl⟩ := Prod.mk.inj h
    exact wread_long hs
  · rw [if_neg hs] at h
    obtain ⟨M, ok, hr⟩ : ∃ M ok, rawM s = (M, ok) := ⟨_, _, rfl⟩
    rw [hr] at h
    refine wread_short hs hr ?_ ?_
    · cases ok <;> simp at h <;> simp [h.2]
    · cases ok <;> simp at h <;> simp [h.1]
end Go.Proofs.YtnaabaahfjklhaaGreat
