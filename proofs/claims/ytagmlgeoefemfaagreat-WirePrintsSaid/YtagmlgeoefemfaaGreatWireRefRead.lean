/- The document's Read of messages. -/
import Derived.Test.YtagmlgeoefemfaaGreatWireRefField
import Derived.Test.YtagmlgeoefemfaaGreatWireRefMay
import Derived.Test.YtagmlgeoefemfaaGreatWireRefPrint
namespace Go.Proofs.YtagmlgeoefemfaaGreat
open Go.RowKit Go.ChangeShapes Go.WideShapes Go.Joins Go.Deep Fld
set_option linter.unusedVariables false

/-- A text that is no message. -/
theorem readM_not {s : List UInt8} {R : MsgV} {x : Int} (h : readM s = (R, x)) (hs : ¬ 1024 < s.length) (hx : x ≠ 0) : R = msgZero ∧ x = 3 := by
  unfold readM at h
  rw [if_neg hs] at h
  split at h
  · obtain ⟨rfl, rfl⟩ := Prod.mk.inj h
    exact absurd rfl hx
  · obtain ⟨rfl, rfl⟩ := Prod.mk.inj h
    exact ⟨rfl, rfl⟩
theorem putF_cf {R : List Fld} {M A : MsgV} (h : fC ∉ R) : (putF R M A).cf = A.cf := by
  induction R generalizing A with
  | nil => rfl
  | cons G R ih =>
    rw [List.mem_cons, not_or] at h
    show (putF R M (setF G M A)).cf = A.cf
    rw [ih h.2]
    cases G <;> first | rfl | exact absurd rfl h.1
theorem putF_op {R : List Fld} {M A : MsgV} (h : fO ∉ R) : (putF R M A).op = A.op := by
  induction R generalizing A with
  | nil => rfl
  | cons G R ih =>
    rw [List.mem_cons, not_or] at h
    show (putF R M (setF G M A)).op = A.op
    rw [ih h.2]
    cases G <;> first | rfl | exact absurd rfl h.1
theorem mayW_msmall {M : MsgV} (h : mayW M = true) : MSmall M := by
  obtain ⟨h1, h2, h3, h4, h5, h6⟩ := mayW_iff.1 h
  rw [onlyM_put] at h3
  refine ⟨?_, ?_, by omega⟩
  · by_cases hC : fC ∈ fieldsOf M.kind
    · have := (rightC_iff.1 (h6 (fieldsOf_fC' hC))).2.2.2.1
      omega
    · rw [h3, putF_cf hC]; exact Nat.zero_le _
  · by_cases hO : fO ∈ fieldsOf M.kind
    · have := (mayOp_iff.1 (h5 (fieldsOf_fO' hO))).2.2
      omega
    · rw [h3, putF_op hO]; exact Nat.zero_le _
theorem rkeep_below {w wr wz : World} {b m : Nat} (hb : Below w.heap.size w wr) (hk : RKeep wr wz b m) (hbw : w.heap.size ≤ b) (hmw : w.heap.size ≤ m) : Below w.heap.size w wz :=
  ⟨hk.os.trans hb.os, hk.tape.trans hb.tape, hk.output.trans hb.output, Nat.le_trans hb.size hk.size, fun j hj => (hk.block j (by have := hb.size; omega) (by omega) (by omega)).trans (hb.block j hj)⟩
theorem mayW_small {M : MsgV} (h : mayW M = true) : MSmall M ∧ M.fires.length ≤ 8 := by
  obtain ⟨h1, h2, h3, h4, h5, h6⟩ := mayW_iff.1 h
  refine ⟨mayW_msmall h, h4⟩
/-- Where the document's reader is, should the text be that of A. -/
def GoodAt (T : List UInt8) (Fs : List Fld) (n : Int) (j : Nat) (M' : MsgV) (l' : List UInt8) (e' : Int) : Prop :=
  ∀ A, MOk A → mayW A = true → T = textOf A → A.kind = n ∧ fieldsOf A.kind = Fs ∧ M' = putF (Fs.take j) A { msgZero with kind := A.kind, dst := A.dst } ∧ l' = (Fs.drop j).flatMap (encFld A) ∧ e' = 0
theorem good_start {T l1 l2 : List UInt8} {n v : Nat} {e1 e2 : Int} (h1 : rdB T 0 = (n, l1, e1)) (h2 : rdU l1 e1 = (v, l2, e2)) : GoodAt T (fieldsOf n) n 0 { msgZero with kind := n, dst := zag v } l2 e2 := by
  rintro A hA hm rfl
  obtain ⟨k1, k2, _⟩ := mayW_iff.1 hm
  have hk := kindB_nat (k := A.kind) (by omega) (by omega)
  have hd : W64 A.dst := hA.nums A.dst (by simp)
  rw [textOf, rdB_byte] at h1
  simp only [Prod.mk.injEq] at h1
  obtain ⟨h3, rfl, rfl⟩ := h1
  rw [← h3, hk]
  have h4 := rdIs_enc [A.dst] (by simpa using hd) ((fieldsOf A.kind).flatMap (encFld A)) 1 (by simp)
  rw [rdIs_1 h2] at h4
  simp only [Prod.mk.injEq] at h4
  obtain ⟨h5, h6, h7⟩ := h4
  have h5 : zag v = A.dst := by simpa using h5
  exact ⟨rfl, rfl, by rw [h5]; rfl, by rw [h6]; simp [encI], h7⟩
theorem good_step {T l' l2 : List UInt8} {Fs : List Fld} {n : Int} {j : Nat} {F : Fld} {M' M2 : MsgV} {e' e2 : Int} (h : GoodAt T Fs n j M' l' e') (hF : Fs[j]? = some F) (hq : FldQ F M' l' e' M2 l2 e2) : GoodAt T Fs n (j + 1) M2 l2 e2 := by
  intro A hA hm hT
  obtain ⟨h1, h2, h3, h4, h5⟩ := h A hA hm hT
  have hdr : Fs.drop j = F :: Fs.drop (j + 1) := by
    obtain ⟨hj, e⟩ := List.getElem?_eq_some_iff.1 hF
    rw [List.drop_eq_getElem_cons hj, e]
  rw [hdr, List.flatMap_cons] at h4
  obtain ⟨h6, h7, h8⟩ := hq.enc A _ hA (mayW_ok hm F (by rw [h2]; exact List.mem_of_getElem? hF)) h5 h4
  refine ⟨h1, h2, ?_, h7, h8⟩
  rw [h6, h3, List.take_add_one, hF, Option.toList_some]
  simp [putF]
theorem good_end {T : List UInt8} {Fs : List Fld} {n : Int} {M' : MsgV} {l' : List UInt8} {e' : Int} (h : GoodAt T Fs n Fs.length M' l' e') : ∀ A, MOk A → mayW A = true → T = textOf A → M' = A ∧ e' = 0 := by
  intro A hA hm hT
  obtain ⟨h1, h2, h3, h4, h5⟩ := h A hA hm hT
  refine ⟨?_, h5⟩
  rw [h3, List.take_length, ← h2, ← onlyM_put]
  exact ((mayW_iff.1 hm).2.2.1).symm

set_option maxRecDepth 100000 in
set_option maxHeartbeats 8000000 in

theorem qwread_any {w : World} {s : List UInt8} {R : MsgV} {x : Int} (h : readM s = (R, x)) (hs : s.length ≤ 1000000) :
    Calls Tryz.prog 12 #[.string ⟨s.toArray⟩] w fun en w' => ∃ v, en = .returned (.tuple #[v, .int .i64 x]) ∧ R.At w' v ∧ Below w.heap.size w w' := by
  have hwh := readM_what h
  have HROK := Lib.hid (readM_ok h)
  have HH := Lib.hid h
  have HW := Lib.hid hwh
  clear h hwh
  obtain ⟨zs, hzs⟩ : ∃ zs : List Value, zs = [.int .i64 0, .int .i64 0, .int .i64 0, .int .i64 0, .int .i64 0, .int .i64 0, .int .i64 0, .int .i64 0, .int .i64 0, .int .i64 0, .bool false, .int .i64 0, .int .i64 0, .int .i64 0, .int .i64 0, .int .i64 0, .int .i64 0, .int .i64 0, .int .i64 0, .int .i64 0, .string ⟨#[]⟩, .int .i64 0, .int .i64 0, .int .i64 0, .int .i64 0, .slice none 0 0, .slice none 0 0, .int .i64 0] := ⟨_, rfl⟩
  have hzl : zs.length = 28 := by rw [hzs]; rfl
  have hz1 : zs.toArray.all (·.oneCell') = true := by rw [hzs]; simp [Value.oneCell']
  go_enter Tryz.func12, Tryz.ntmps12
  go_upto_region 1 with (fail)
  have hD : BlkAt (w.alloc (.cells #[.int .i64 0, .int .i64 0, .int .i64 0, .int .i64 0, .int .i64 0, .int .i64 0, .int .i64 0, .int .i64 0, .int .i64 0, .int .i64 0, .bool false, .int .i64 0, .int .i64 0, .int .i64 0, .int .i64 0, .int .i64 0, .int .i64 0, .int .i64 0, .int .i64 0, .int .i64 0, .string ⟨#[]⟩, .int .i64 0, .int .i64 0, .int .i64 0, .int .i64 0, .slice none 0 0, .slice none 0 0, .int .i64 0] 34)) w.heap.size 34 [.int .i64 0, .int .i64 0, .int .i64 0, .int .i64 0, .int .i64 0, .int .i64 0, .int .i64 0, .int .i64 0, .int .i64 0, .int .i64 0, .bool false, .int .i64 0, .int .i64 0, .int .i64 0, .int .i64 0, .int .i64 0, .int .i64 0, .int .i64 0, .int .i64 0, .int .i64 0, .string ⟨#[]⟩, .int .i64 0, .int .i64 0, .int .i64 0, .int .i64 0, .slice none 0 0, .slice none 0 0, .int .i64 0] := BlkAt.new w 34 [.int .i64 0, .int .i64 0, .int .i64 0, .int .i64 0, .int .i64 0, .int .i64 0, .int .i64 0, .int .i64 0, .int .i64 0, .int .i64 0, .bool false, .int .i64 0, .int .i64 0, .int .i64 0, .int .i64 0, .int .i64 0, .int .i64 0, .int .i64 0, .int .i64 0, .int .i64 0, .string ⟨#[]⟩, .int .i64 0, .int .i64 0, .int .i64 0, .int .i64 0, .slice none 0 0, .slice none 0 0, .int .i64 0]
  have hb : Below w.heap.size w (w.alloc (.cells #[.int .i64 0, .int .i64 0, .int .i64 0, .int .i64 0, .int .i64 0, .int .i64 0, .int .i64 0, .int .i64 0, .int .i64 0, .int .i64 0, .bool false, .int .i64 0, .int .i64 0, .int .i64 0, .int .i64 0, .int .i64 0, .int .i64 0, .int .i64 0, .int .i64 0, .int .i64 0, .string ⟨#[]⟩, .int .i64 0, .int .i64 0, .int .i64 0, .int .i64 0, .slice none 0 0, .slice none 0 0, .int .i64 0] 34)) := (Below.refl w.heap.size w).alloc (Nat.le_refl _) _
  have hWs : w.heap.size + 1 ≤ (w.alloc (.cells #[.int .i64 0, .int .i64 0, .int .i64 0, .int .i64 0, .int .i64 0, .int .i64 0, .int .i64 0, .int .i64 0, .int .i64 0, .int .i64 0, .bool false, .int .i64 0, .int .i64 0, .int .i64 0, .int .i64 0, .int .i64 0, .int .i64 0, .int .i64 0, .int .i64 0, .int .i64 0, .string ⟨#[]⟩, .int .i64 0, .int .i64 0, .int .i64 0, .int .i64 0, .slice none 0 0, .slice none 0 0, .int .i64 0] 34)).heap.size := by simp
  change Code.wp _ _ _ _ (w.alloc (.cells #[.int .i64 0, .int .i64 0, .int .i64 0, .int .i64 0, .int .i64 0, .int .i64 0, .int .i64 0, .int .i64 0, .int .i64 0, .int .i64 0, .bool false, .int .i64 0, .int .i64 0, .int .i64 0, .int .i64 0, .int .i64 0, .int .i64 0, .int .i64 0, .int .i64 0, .int .i64 0, .string ⟨#[]⟩, .int .i64 0, .int .i64 0, .int .i64 0, .int .i64 0, .slice none 0 0, .slice none 0 0, .int .i64 0] 34))
  generalize w.alloc (.cells #[.int .i64 0, .int .i64 0, .int .i64 0, .int .i64 0, .int .i64 0, .int .i64 0, .int .i64 0, .int .i64 0, .int .i64 0, .int .i64 0, .bool false, .int .i64 0, .int .i64 0, .int .i64 0, .int .i64 0, .int .i64 0, .int .i64 0, .int .i64 0, .int .i64 0, .int .i64 0, .string ⟨#[]⟩, .int .i64 0, .int .i64 0, .int .i64 0, .int .i64 0, .slice none 0 0, .slice none 0 0, .int .i64 0] 34) = W at *
  obtain ⟨D, hDD⟩ : ∃ D, D = w.heap.size := ⟨_, rfl⟩
  have hDw : w.heap.size ≤ D := Nat.le_of_eq hDD.symm
  have hDs : D + 1 ≤ W.heap.size := by omega
  rw [← hzs] at hD
  rw [← hDD] at hD ⊢
  have hDw2 : D ≤ w.heap.size := Nat.le_of_eq hDD
  clear hDD hWs
  have hz : ∀ w, (zeroValue 34).run Tryz.prog w = .ok (.agg zs.toArray) w := fun w => by rw [hzs]; kernel_rfl
  by_cases hlen : 1024 < s.length
  · have j1 : (1024 : Int) < (s.length : Int) := by omega
    have HR9 : Hid (R = msgZero ∧ x = 15) := Lib.hid (by
      have := HH.out; unfold readM at this; rw [if_pos hlen] at this; obtain ⟨h1, h2⟩ := Prod.mk.inj this; exact ⟨h1.symm, h2.symm⟩)
    have HM2 := Lib.hid (hD.stored (vs := zs) rfl)
    have HT2 := Lib.hid (blk_there hD)
    have G := grown_setCells D zs 0 W
    have HB2 := Lib.hid (grown_below hb G hDw)
    have HLN := Lib.hid hzl
    have HZS := Lib.hid hzs
    clear hD hb G
    clear hzs
    go_wp2_with (refine wpList_store_mid rfl 34 (.tmp 2) (.tmp 13) rfl D 0 zs.toArray rfl rfl (by exact HT2.out) (by rw [List.size_toArray, hzl]; exact msg_info) hz1 ?_; rw [List.toList_toArray])
    exact bodyPost_ret (v := .tuple #[.agg zs.toArray, .int .i64 15]) (results_msg rfl rfl rfl HM2.out HLN.out) rfl ⟨_, by rw [HR9.out.2], ⟨.slice none 0 0, .slice none 0 0, by rw [HZS.out, HR9.out.1]; rfl, by rw [HR9.out.1]; exact ChainAt.nil _, by rw [HR9.out.1]; exact FiresAt.nil _⟩, HB2.out⟩
  · have j1 : ¬ (1024 : Int) < (s.length : Int) := by omega
    obtain ⟨q, hq⟩ : ∃ q, q = whole s := ⟨_, rfl⟩
    have hol : (wholeOf s).length ≤ 1000000 := by
      unfold wholeOf
      split
      · rw [List.length_take]; omega
      · simp
    have HQ := Lib.hid hq
    clear hq
    go_wp2_with fail
    refine (qwhole_any s (by omega) _).mono ?_
    rintro en w1 ⟨rfl, b1⟩
    rw [← HQ.out]
    have hD := hD.below b1
    have hb := below_step hb b1
    have hDs1 : D + 1 ≤ w1.heap.size := by have := b1.size; omega
    clear b1 hDs
    go_upto_region 5 with (fail)
    have hR : RfOn (w1.alloc (.cells #[.string ⟨(wholeOf s).toArray⟩, .int .i64 0, .int .i64 0] 66)) w1.heap.size (wholeOf s) (wholeOf s) 0 := ⟨0, Nat.zero_le _, rfl, heap_alloc_new w1 (.cells #[.string ⟨(wholeOf s).toArray⟩, .int .i64 0, .int .i64 0] 66)⟩
    have hD := hD.alloc (.cells #[.string ⟨(wholeOf s).toArray⟩, .int .i64 0, .int .i64 0] 66)
    have hb := hb.alloc hb.size (.cells #[.string ⟨(wholeOf s).toArray⟩, .int .i64 0, .int .i64 0] 66)
    have hbD : w1.heap.size ≠ D := by omega
    have hbw : w.heap.size ≤ w1.heap.size := by omega
    change Code.wp _ _ _ _ (w1.alloc (.cells #[.string ⟨(wholeOf s).toArray⟩, .int .i64 0, .int .i64 0] 66))
    change RfOn (w1.alloc (.cells #[.string ⟨(wholeOf s).toArray⟩, .int .i64 0, .int .i64 0] 66)) _ _ _ _ at hR
    generalize w1.alloc (.cells #[.string ⟨(wholeOf s).toArray⟩, .int .i64 0, .int .i64 0] 66) = W2 at *
    generalize w1.heap.size = b at *
    generalize hTT : wholeOf s = T at *
    have HTT := Lib.hid hTT
    clear hTT
    obtain ⟨n, l1, e1, hB⟩ : ∃ n l1 e1, rdB T 0 = (n, l1, e1) := ⟨_, _, _, rfl⟩
    have hn256 := rdB_fit T 0
    rw [hB] at hn256
    simp only at hn256
    have HB := Lib.hid hB
    clear hB
    go_wp2_with fail
    refine (qbyte_at (by exact hR) hol HB.out).mono ?_
    rintro en w2 ⟨rfl, hR, hg⟩
    have hD := hD.grown hg hbD.symm
    have hb := grown_below hb hg hbw
    clear hg hDs1
    have hlen0 : ([.int .i64 n, .int .i64 0, .int .i64 0, .int .i64 0, .int .i64 0, .int .i64 0, .int .i64 0, .int .i64 0, .int .i64 0, .int .i64 0, .bool false, .int .i64 0, .int .i64 0, .int .i64 0, .int .i64 0, .int .i64 0, .int .i64 0, .int .i64 0, .int .i64 0, .int .i64 0, .string ⟨#[]⟩, .int .i64 0, .int .i64 0, .int .i64 0, .int .i64 0, .slice none 0 0, .slice none 0 0, .int .i64 0] : List Value).length = 28 := rfl
    have hone0 : ([.int .i64 n, .int .i64 0, .int .i64 0, .int .i64 0, .int .i64 0, .int .i64 0, .int .i64 0, .int .i64 0, .int .i64 0, .int .i64 0, .bool false, .int .i64 0, .int .i64 0, .int .i64 0, .int .i64 0, .int .i64 0, .int .i64 0, .int .i64 0, .int .i64 0, .int .i64 0, .string ⟨#[]⟩, .int .i64 0, .int .i64 0, .int .i64 0, .int .i64 0, .slice none 0 0, .slice none 0 0, .int .i64 0] : List Value).toArray.all (·.oneCell') = true := by simp [Value.oneCell']
    have hDl2 := hD.lt
    have hbl2 := hR.lt
    have hwl2 := hb.size
    have hX := BlkAt.new w2 34 [.int .i64 0, .int .i64 0, .int .i64 0, .int .i64 0, .int .i64 0, .int .i64 0, .int .i64 0, .int .i64 0, .int .i64 0, .int .i64 0, .bool false, .int .i64 0, .int .i64 0, .int .i64 0, .int .i64 0, .int .i64 0, .int .i64 0, .int .i64 0, .int .i64 0, .int .i64 0, .string ⟨#[]⟩, .int .i64 0, .int .i64 0, .int .i64 0, .int .i64 0, .slice none 0 0, .slice none 0 0, .int .i64 0]
    have HL1 := Lib.hid (show ([.int .i64 n, .int .i64 0, .int .i64 0, .int .i64 0, .int .i64 0, .int .i64 0, .int .i64 0, .int .i64 0, .int .i64 0, .int .i64 0, .bool false, .int .i64 0, .int .i64 0, .int .i64 0, .int .i64 0, .int .i64 0, .int .i64 0, .int .i64 0, .int .i64 0, .int .i64 0, .string ⟨#[]⟩, .int .i64 0, .int .i64 0, .int .i64 0, .int .i64 0, .slice none 0 0, .slice none 0 0, .int .i64 0] : List Value).length = ([.int .i64 0, .int .i64 0, .int .i64 0, .int .i64 0, .int .i64 0, .int .i64 0, .int .i64 0, .int .i64 0, .int .i64 0, .int .i64 0, .bool false, .int .i64 0, .int .i64 0, .int .i64 0, .int .i64 0, .int .i64 0, .int .i64 0, .int .i64 0, .int .i64 0, .int .i64 0, .string ⟨#[]⟩, .int .i64 0, .int .i64 0, .int .i64 0, .int .i64 0, .slice none 0 0, .slice none 0 0, .int .i64 0] : List Value).length by rw [hlen0]; rfl)
    have b4 := (Below.refl w2.heap.size w2).alloc (Nat.le_refl _) (.cells #[.int .i64 0, .int .i64 0, .int .i64 0, .int .i64 0, .int .i64 0, .int .i64 0, .int .i64 0, .int .i64 0, .int .i64 0, .int .i64 0, .bool false, .int .i64 0, .int .i64 0, .int .i64 0, .int .i64 0, .int .i64 0, .int .i64 0, .int .i64 0, .int .i64 0, .int .i64 0, .string ⟨#[]⟩, .int .i64 0, .int .i64 0, .int .i64 0, .int .i64 0, .slice none 0 0, .slice none 0 0, .int .i64 0] 34)
    have G4 := grown_setCells w2.heap.size ([.int .i64 n, .int .i64 0, .int .i64 0, .int .i64 0, .int .i64 0, .int .i64 0, .int .i64 0, .int .i64 0, .int .i64 0, .int .i64 0, .bool false, .int .i64 0, .int .i64 0, .int .i64 0, .int .i64 0, .int .i64 0, .int .i64 0, .int .i64 0, .int .i64 0, .int .i64 0, .string ⟨#[]⟩, .int .i64 0, .int .i64 0, .int .i64 0, .int .i64 0, .slice none 0 0, .slice none 0 0, .int .i64 0] : List Value) 0 (w2.alloc (.cells #[.int .i64 0, .int .i64 0, .int .i64 0, .int .i64 0, .int .i64 0, .int .i64 0, .int .i64 0, .int .i64 0, .int .i64 0, .int .i64 0, .bool false, .int .i64 0, .int .i64 0, .int .i64 0, .int .i64 0, .int .i64 0, .int .i64 0, .int .i64 0, .int .i64 0, .int .i64 0, .string ⟨#[]⟩, .int .i64 0, .int .i64 0, .int .i64 0, .int .i64 0, .slice none 0 0, .slice none 0 0, .int .i64 0] 34))
    have b5 := b4.grown G4 b4.size (by intro j hj; cases hj; exact Nat.le_refl _)
    have hMn := hX.stored (vs := ([.int .i64 n, .int .i64 0, .int .i64 0, .int .i64 0, .int .i64 0, .int .i64 0, .int .i64 0, .int .i64 0, .int .i64 0, .int .i64 0, .bool false, .int .i64 0, .int .i64 0, .int .i64 0, .int .i64 0, .int .i64 0, .int .i64 0, .int .i64 0, .int .i64 0, .int .i64 0, .string ⟨#[]⟩, .int .i64 0, .int .i64 0, .int .i64 0, .int .i64 0, .slice none 0 0, .slice none 0 0, .int .i64 0] : List Value)) HL1.out
    have HT := Lib.hid (blk_there2 hX HL1.out)
    have hDn := hD.below b5
    clear hD
    have hD := hDn
    clear hDn
    have hRn := hR.below b5
    clear hR
    have hR := hRn
    clear hRn
    have hbn := below_step hb b5
    clear hb
    have hb := hbn
    clear hbn
    clear hX b4 G4 b5 HL1
    go_upto_region 6 with (first | (refine wpList_store_mid rfl 34 (.tmp 7) (.tmp 25) rfl w2.heap.size 0 ([.int .i64 n, .int .i64 0, .int .i64 0, .int .i64 0, .int .i64 0, .int .i64 0, .int .i64 0, .int .i64 0, .int .i64 0, .int .i64 0, .bool false, .int .i64 0, .int .i64 0, .int .i64 0, .int .i64 0, .int .i64 0, .int .i64 0, .int .i64 0, .int .i64 0, .int .i64 0, .string ⟨#[]⟩, .int .i64 0, .int .i64 0, .int .i64 0, .int .i64 0, .slice none 0 0, .slice none 0 0, .int .i64 0] : List Value).toArray rfl rfl (by exact HT.out) (by rw [List.size_toArray, hlen0]; exact msg_info) hone0 ?_; rw [List.toList_toArray]))
    change Code.wp _ _ _ _ ((w2.alloc (.cells #[.int .i64 0, .int .i64 0, .int .i64 0, .int .i64 0, .int .i64 0, .int .i64 0, .int .i64 0, .int .i64 0, .int .i64 0, .int .i64 0, .bool false, .int .i64 0, .int .i64 0, .int .i64 0, .int .i64 0, .int .i64 0, .int .i64 0, .int .i64 0, .int .i64 0, .int .i64 0, .string ⟨#[]⟩, .int .i64 0, .int .i64 0, .int .i64 0, .int .i64 0, .slice none 0 0, .slice none 0 0, .int .i64 0] 34)).setCells w2.heap.size 0 ([.int .i64 n, .int .i64 0, .int .i64 0, .int .i64 0, .int .i64 0, .int .i64 0, .int .i64 0, .int .i64 0, .int .i64 0, .int .i64 0, .bool false, .int .i64 0, .int .i64 0, .int .i64 0, .int .i64 0, .int .i64 0, .int .i64 0, .int .i64 0, .int .i64 0, .int .i64 0, .string ⟨#[]⟩, .int .i64 0, .int .i64 0, .int .i64 0, .int .i64 0, .slice none 0 0, .slice none 0 0, .int .i64 0] : List Value))
    generalize (w2.alloc (.cells #[.int .i64 0, .int .i64 0, .int .i64 0, .int .i64 0, .int .i64 0, .int .i64 0, .int .i64 0, .int .i64 0, .int .i64 0, .int .i64 0, .bool false, .int .i64 0, .int .i64 0, .int .i64 0, .int .i64 0, .int .i64 0, .int .i64 0, .int .i64 0, .int .i64 0, .int .i64 0, .string ⟨#[]⟩, .int .i64 0, .int .i64 0, .int .i64 0, .int .i64 0, .slice none 0 0, .slice none 0 0, .int .i64 0] 34)).setCells w2.heap.size 0 ([.int .i64 n, .int .i64 0, .int .i64 0, .int .i64 0, .int .i64 0, .int .i64 0, .int .i64 0, .int .i64 0, .int .i64 0, .int .i64 0, .bool false, .int .i64 0, .int .i64 0, .int .i64 0, .int .i64 0, .int .i64 0, .int .i64 0, .int .i64 0, .int .i64 0, .int .i64 0, .string ⟨#[]⟩, .int .i64 0, .int .i64 0, .int .i64 0, .int .i64 0, .slice none 0 0, .slice none 0 0, .int .i64 0] : List Value) = W3 at *
    have hM := hMn
    clear hMn HT
    obtain ⟨m, hLL⟩ : ∃ q, q = w2.heap.size := ⟨_, rfl⟩
    rw [← hLL] at hM ⊢
    have HEm := Lib.hid hLL
    clear hLL
    clear hone0 hlen0
    have hmD : m ≠ D := by rw [HEm.out]; omega
    have hmb : m ≠ b := by rw [HEm.out]; omega
    have hmw : w.heap.size ≤ m := by rw [HEm.out]; omega
    clear hDl2 hbl2 hwl2
    have c0 : W3.cell? ⟨m, 0, none⟩ = some (.int .i64 n) := hM.cell rfl
    cases q with
    | false =>
      clear hM hR
      have HR9 : Hid (R = msgZero ∧ x = 3) := Lib.hid (by
        refine readM_not HH.out hlen fun hx => ?_
        rcases HW.out with ⟨_, _, h3, _⟩ | ⟨h3, _⟩
        · have := HQ.out; rw [h3, whole_frame] at this; exact Bool.noConfusion this
        · exact h3 hx)
      have HM2 := Lib.hid (hD.stored (vs := zs) rfl)
      have HT2 := Lib.hid (blk_there hD)
      have G := grown_setCells D zs 0 W3
      have HB2 := Lib.hid (grown_below hb G hDw)
      have HLN := Lib.hid hzl
      have HZS := Lib.hid hzs
      clear hD hb G
      clear hzs
      go_wp2_with (refine wpList_store_mid rfl 34 (.tmp 2) (.tmp 38) rfl D 0 zs.toArray rfl rfl (by exact HT2.out) (by rw [List.size_toArray, hzl]; exact msg_info) hz1 ?_; rw [List.toList_toArray])
      exact bodyPost_ret (v := .tuple #[.agg zs.toArray, .int .i64 3]) (results_msg rfl rfl rfl HM2.out HLN.out) rfl ⟨_, by rw [HR9.out.2], ⟨.slice none 0 0, .slice none 0 0, by rw [HZS.out, HR9.out.1]; rfl, by rw [HR9.out.1]; exact ChainAt.nil _, by rw [HR9.out.1]; exact FiresAt.nil _⟩, HB2.out⟩
    | true =>
      have HBAD : Hid (n < 1 ∨ 15 < n → R = msgZero ∧ x = 3) := Lib.hid (by
        intro hn
        refine readM_not HH.out hlen fun hx => ?_
        rcases HW.out with ⟨_, h2, h3, _⟩ | ⟨h3, _⟩
        · have h4 := HTT.out
          rw [h3, wholeOf_fr] at h4
          have h5 := HB.out
          rw [← h4, textOf, rdB_byte] at h5
          obtain ⟨h6, _⟩ := Prod.mk.inj h5
          obtain ⟨k1, k2, _⟩ := mayW_iff.1 h2
          have hk := kindB_nat (k := R.kind) (by omega) (by omega)
          rw [h6] at hk
          omega
        · exact h3 hx)
      by_cases hn1 : n < 1
      · have j2 : (n : Int) < 1 := by omega
        clear hM hR
        have HR9 : Hid (R = msgZero ∧ x = 3) := Lib.hid (by
          exact HBAD.out (.inl hn1))
        have HM2 := Lib.hid (hD.stored (vs := zs) rfl)
        have HT2 := Lib.hid (blk_there hD)
        have G := grown_setCells D zs 0 W3
        have HB2 := Lib.hid (grown_below hb G hDw)
        have HLN := Lib.hid hzl
        have HZS := Lib.hid hzs
        clear hD hb G
        clear hzs
        go_wp2_with (refine wpList_store_mid rfl 34 (.tmp 2) (.tmp 38) rfl D 0 zs.toArray rfl rfl (by exact HT2.out) (by rw [List.size_toArray, hzl]; exact msg_info) hz1 ?_; rw [List.toList_toArray])
        exact bodyPost_ret (v := .tuple #[.agg zs.toArray, .int .i64 3]) (results_msg rfl rfl rfl HM2.out HLN.out) rfl ⟨_, by rw [HR9.out.2], ⟨.slice none 0 0, .slice none 0 0, by rw [HZS.out, HR9.out.1]; rfl, by rw [HR9.out.1]; exact ChainAt.nil _, by rw [HR9.out.1]; exact FiresAt.nil _⟩, HB2.out⟩
      by_cases hn15 : 15 < n
      · have j2 : ¬ (n : Int) < 1 := by omega
        have j3 : (15 : Int) < (n : Int) := by omega
        clear hM hR
        have HR9 : Hid (R = msgZero ∧ x = 3) := Lib.hid (by
          exact HBAD.out (.inr hn15))
        have HM2 := Lib.hid (hD.stored (vs := zs) rfl)
        have HT2 := Lib.hid (blk_there hD)
        have G := grown_setCells D zs 0 W3
        have HB2 := Lib.hid (grown_below hb G hDw)
        have HLN := Lib.hid hzl
        have HZS := Lib.hid hzs
        clear hD hb G
        clear hzs
        go_wp2_with (refine wpList_store_mid rfl 34 (.tmp 2) (.tmp 38) rfl D 0 zs.toArray rfl rfl (by exact HT2.out) (by rw [List.size_toArray, hzl]; exact msg_info) hz1 ?_; rw [List.toList_toArray])
        exact bodyPost_ret (v := .tuple #[.agg zs.toArray, .int .i64 3]) (results_msg rfl rfl rfl HM2.out HLN.out) rfl ⟨_, by rw [HR9.out.2], ⟨.slice none 0 0, .slice none 0 0, by rw [HZS.out, HR9.out.1]; rfl, by rw [HR9.out.1]; exact ChainAt.nil _, by rw [HR9.out.1]; exact FiresAt.nil _⟩, HB2.out⟩
      have j2 : ¬ (n : Int) < 1 := by omega
      have j3 : ¬ (15 : Int) < (n : Int) := by omega
      have hkn : 1 ≤ (n : Int) ∧ (n : Int) ≤ 15 := by omega
      obtain ⟨v, l2, e2, hU⟩ : ∃ v l2 e2, rdU l1 e1 = (v, l2, e2) := ⟨_, _, _, rfl⟩
      have HG0 := Lib.hid (good_start HB.out hU)
      have HU := Lib.hid hU
      clear hU HBAD
      go_wp2_with fail
      refine (qint_at (by exact hR) hol HU.out).mono ?_
      rintro en w4 ⟨rfl, hR, hg⟩
      have hD := hD.grown hg hbD.symm
      have hM := hM.grown hg hmb
      have hb := grown_below hb hg hbw
      clear hg c0 hn1 hn15
      have c1 := hM.cell (i := 1) (v := .int .i64 0) rfl
      have hf := hM.free 1
      have G := grown_setCell w4 m 1 (.int .i64 (zag v))
      go_upto_region 9 with (fail)
      change Code.wp _ _ _ _ (w4.setCell ⟨m, 1, none⟩ (.int .i64 (zag v)))
      have hM := hM.set 1 (.int .i64 (zag v))
      have hD := hD.grown G hmD.symm
      have hR := hR.grown G hmb.symm
      have hb := grown_below hb G hmw
      have hw0 : { msgZero with kind := (n : Int), dst := zag v } = ({ msgZero with kind := (n : Int), dst := zag v } : MsgV) := rfl
      have hMok : MOk { msgZero with kind := (n : Int), dst := zag v } := by
        have hz := msgZero_ok
        have h1 : W64 (n : Int) := W64.mk (by omega) (by omega)
        have h2 : W64 (zag v) := by
          have := rdIs_fit 1 l1 e1 (zag v) (by rw [rdIs_1 HU.out]; simp)
          exact this
        exact MOk.mk' h1 h2 w64_zero w64_zero w64_zero w64_zero w64_zero w64_zero w64_zero w64_zero w64_zero w64_zero w64_zero w64_zero w64_zero opZero_ok (by intro f hf; cases hf)
      obtain ⟨M0, hM0⟩ : ∃ M0 : MsgV, M0 = { msgZero with kind := (n : Int), dst := zag v } := ⟨_, rfl⟩
      have c0 : (w4.setCell ⟨m, 1, none⟩ (.int .i64 (zag v))).cell? ⟨m, 0, none⟩ = some (.int .i64 n) := hM.cell rfl
      have hbl := hR.lt
      have hml := hM.lt
      have hN : m < (w4.setCell ⟨m, 1, none⟩ (.int .i64 (zag v))).heap.size ∧ b < (w4.setCell ⟨m, 1, none⟩ (.int .i64 (zag v))).heap.size ∧ D < (w4.setCell ⟨m, 1, none⟩ (.int .i64 (zag v))).heap.size := ⟨hml, hbl, hD.lt⟩
      generalize hNN : (w4.setCell ⟨m, 1, none⟩ (.int .i64 (zag v))).heap.size = N at hN
      have hMR : MsgR N (w4.setCell ⟨m, 1, none⟩ (.int .i64 (zag v))) m M0 := by
        rw [hM0]
        exact ⟨.slice none 0 0, .slice none 0 0, hM, ChainFrom.nil _ _, FiresFrom.nil _ _⟩
      have hNW : N ≤ (w4.setCell ⟨m, 1, none⟩ (.int .i64 (zag v))).heap.size := Nat.le_of_eq hNN.symm
      have HM0 := Lib.hid hM0
      rw [← hM0] at HG0 hMok
      have hk0 : M0.kind = n := by rw [hM0]
      clear hM hM0 hw0 c1 hf G hNN hml hbl
      generalize w4.setCell ⟨m, 1, none⟩ (.int .i64 (zag v)) = w5 at *
      go_wp2_with fail
      refine (qrow_any hkn _).mono ?_
      rintro en w6 ⟨rfl, b6⟩
      have hD := hD.below b6
      have hR := hR.below b6
      have hMR := hMR.below b6
      have hb := below_step hb b6
      have hNWq : N ≤ w6.heap.size := Nat.le_trans hNW b6.size
      clear b6 c0 hNW
      have hNW := hNWq
      clear hNWq
      have hrt : rowText n = (fieldsOf n).map charOf := rfl
      rw [hrt]
      have hrl := rowLen n
      have hD6 := hD
      have hb6 := hb
      generalize fieldsOf n = Fs at *
      clear hrt hD hb
      go_wp2_with fail
      go_loopw [9] (fun i wr => ∃ (j : Nat) (M' : MsgV) (l' : List UInt8) (e' : Int), j ≤ Fs.length ∧ i = .int .i64 j ∧ MsgR N wr m M' ∧ RfOn wr b T l' e' ∧ BlkAt wr D 34 zs ∧ MOk M' ∧ M'.kind = n ∧ Hid (GoodAt T Fs n j M' l' e') ∧ Below w.heap.size w wr ∧ N ≤ wr.heap.size) (fun i _ => Fs.length - (intOf i).toNat)
      case atStart => exact ⟨0, M0, l2, e2, Nat.zero_le _, rfl, hMR, hR, hD6, hMok, hk0, HG0, hb6, hNW⟩
      case round =>
        obtain ⟨j, M', l', e', hj, rfl, hMr, hRr, hDr, hokr, hkr, HGr, hbr, hNr⟩ := hrel
        clear hMR hR hD6 hMok hk0 HG0 hb6 hNW
        by_cases hlt : j < Fs.length
        · obtain ⟨F, hF⟩ : ∃ F, Fs[j]? = some F := ⟨_, List.getElem?_eq_getElem hlt⟩
          have hix := fun w => index_at (Fs.map charOf) j (charOf F) (charAt hF) w
          have HF := Lib.hid hF
          clear hF
          go_wp2_with fail
          refine (qfield_at F (by exact hMr) (by exact hRr) hol hmb hN.1 hN.2.1 hNr hokr.op.1).mono ?_
          rintro en wz ⟨rfl, M2, l3, e3, hFQ, hMz, hRz, hkz⟩
          have hDz : BlkAt wz D 34 zs := (hkz.block _ hDr.lt hbD.symm hmD.symm).trans hDr
          have hbz : Below w.heap.size w wz := rkeep_below hbr hkz hbw hmw
          have hNz : N ≤ wz.heap.size := Nat.le_trans hNr hkz.size
          have HGz := Lib.hid (good_step HGr.out HF.out hFQ)
          have HKz := Lib.hid (hFQ.kind.trans hkr)
          have HOz := Lib.hid (hFQ.ok hokr)
          clear hMr hRr hDr hbr hkz hix
          go_wp2_with fail
          go_roundw
          case rel => exact ⟨j + 1, M2, l3, e3, by omega, by go_num, hMz, hRz, hDz, HOz.out, HKz.out, HGz, hbz, hNz⟩
          case measure => simp [intOf]; omega
        · obtain rfl : j = Fs.length := by omega
          have HGE := Lib.hid (good_end HGr.out)
          have HGX : Hid (∀ y, y ≠ 0 ∨ mayW M' = false ∨ frame (textOf M') ≠ s → y = e' → R = msgZero ∧ x = 3) := Lib.hid (by
            rintro y hy rfl
            refine readM_not HH.out hlen fun hx => ?_
            rcases HW.out with ⟨_, h2, h3, _⟩ | ⟨h3, _⟩
            · have h4 := HTT.out
              have h9 := h3
              rw [h3, wholeOf_fr] at h4
              obtain ⟨h5, h6⟩ := HGE.out R HROK.out h2 h4.symm
              rcases hy with hy | hy | hy
              · exact hy h6
              · rw [h5, h2] at hy; exact Bool.noConfusion hy
              · rw [h5] at hy; exact hy h9.symm
            · exact h3 hx)
          have ce := hRr.err
          obtain ⟨v1, v2, hMB, hch, hfi⟩ := hMr
          have hop := hokr.op.1
          have hcl : (msgCells M' v1 v2).length = 28 := msgCells_len hop _ _
          have hc1 : (msgCells M' v1 v2).toArray.all (·.oneCell') = true := by
            rw [Array.all_eq_true_iff_forall_mem]
            intro u hu
            exact msgCells_one (chain_one hch.1) (fires_one hfi.1) u (by simpa using hu)
          have hAt : M'.From N wr (.agg (msgCells M' v1 v2).toArray) := ⟨v1, v2, rfl, hch, hfi⟩
          clear hch hfi
          generalize msgCells M' v1 v2 = cs at *
          by_cases he : e' = 0
          · subst he
            obtain ⟨y, hy⟩ : ∃ y, mayW M' = y := ⟨_, rfl⟩
            have HY := Lib.hid hy
            clear hy hRr hol
            have hb := hbr
            have hD := hDr
            clear hbr hDr
            go_wp2_with (first | (refine wpList_load_want (by rfl) 34 (.tmp 7) rfl m 0 rfl cs _ hMB.range Tryz.underlying34 rfl (by rw [hcl]; exact msg_info) ?_; simp only [Act.put, List.setIfInBounds_toArray, List.set_cons_zero, List.set_cons_succ]) | fail)
            refine (qwmay_any (by exact hAt.at) hokr HY.out).mono ?_
            rintro en w8 ⟨rfl, b8⟩
            have hD := hD.below b8
            have hMB := hMB.below b8
            have hAt := hAt.below b8
            have hb := below_step hb b8
            clear b8 ce
            cases y with
            | false =>
              have HR9 : Hid (R = msgZero ∧ x = 3) := Lib.hid (by
                exact HGX.out 0 (.inr (.inl HY.out)) rfl)
              have HM2 := Lib.hid (hD.stored (vs := zs) rfl)
              have HT2 := Lib.hid (blk_there hD)
              have G := grown_setCells D zs 0 w8
              have HB2 := Lib.hid (grown_below hb G hDw)
              have HLN := Lib.hid hzl
              have HZS := Lib.hid hzs
              clear hD hb G
              clear hzs
              go_wp2_with (refine wpList_store_mid rfl 34 (.tmp 2) (.tmp 72) rfl D 0 zs.toArray rfl rfl (by exact HT2.out) (by rw [List.size_toArray, hzl]; exact msg_info) hz1 ?_; rw [List.toList_toArray])
              exact bodyPost_ret (v := .tuple #[.agg zs.toArray, .int .i64 3]) (results_msg rfl rfl rfl HM2.out HLN.out) rfl ⟨_, by rw [HR9.out.2], ⟨.slice none 0 0, .slice none 0 0, by rw [HZS.out, HR9.out.1]; rfl, by rw [HR9.out.1]; exact ChainAt.nil _, by rw [HR9.out.1]; exact FiresAt.nil _⟩, HB2.out⟩
            | true =>
              obtain ⟨hsm, hf8⟩ := mayW_small HY.out
              go_wp2_with (first | (refine wpList_load_want (by rfl) 34 (.tmp 7) rfl m 0 rfl cs _ hMB.range Tryz.underlying34 rfl (by rw [hcl]; exact msg_info) ?_; simp only [Act.put, List.setIfInBounds_toArray, List.set_cons_zero, List.set_cons_succ]) | fail)
              refine (qwprint_any (by exact hAt.at) hokr hsm hf8 (by omega)).mono ?_
              rintro en w9 ⟨rfl, b9⟩
              have hD := hD.below b9
              have hMB := hMB.below b9
              have hAt := hAt.below b9
              have hb := below_step hb b9
              clear b9 hsm hf8
              by_cases hpq : frame (textOf M') = s
              · have hpb : (frame (textOf M') == s) = true := by simpa using hpq
                have HRX : Hid (R = M' ∧ x = 0) := Lib.hid (by
                  have h1 := msg_print hokr HY.out
                  rw [hpq] at h1
                  have h2 := HH.out
                  unfold readM at h2
                  rw [if_neg hlen, h1] at h2
                  obtain ⟨h3, h4⟩ := Prod.mk.inj h2
                  exact ⟨h3.symm, h4.symm⟩)
                have hl2 : cs.length = zs.length := by rw [hcl, hzl]
                have HM2 := Lib.hid (hD.stored (vs := cs) hl2)
                have HT2 := Lib.hid (blk_there2 hD hl2)
                have G := grown_setCells D cs 0 w9
                have HB2 := Lib.hid (grown_below hb G hDw)
                have HA2 : Hid (M'.At (w9.setCells D 0 cs) (.agg cs.toArray)) := Lib.hid ((hAt.grown G hN.2.2).at)
                have HLN := Lib.hid hcl
                clear hD hb G hpq hAt
                go_wp2_with (first | (refine wpList_load_mid rfl 34 (.tmp 7) rfl m 0 rfl cs _ hMB.range Tryz.underlying34 rfl (by rw [hcl]; exact msg_info) ?_; simp only [Act.put, List.setIfInBounds_toArray, List.set_cons_zero, List.set_cons_succ]) | (refine wpList_store_mid rfl 34 (.tmp 2) (.tmp 73) rfl D 0 cs.toArray rfl rfl (by exact HT2.out) (by rw [List.size_toArray, hcl]; exact msg_info) hc1 ?_; rw [List.toList_toArray]))
                exact bodyPost_ret (v := .tuple #[.agg cs.toArray, .int .i64 0]) (results_msg rfl rfl rfl HM2.out HLN.out) rfl ⟨_, by rw [HRX.out.2], by rw [HRX.out.1]; exact HA2.out, HB2.out⟩
              · have hpb : (frame (textOf M') == s) = false := by simpa using hpq
                have HPQ := Lib.hid hpq
                clear hpq hMB hAt
                have HR9 : Hid (R = msgZero ∧ x = 3) := Lib.hid (by
                  exact HGX.out 0 (.inr (.inr HPQ.out)) rfl)
                have HM2 := Lib.hid (hD.stored (vs := zs) rfl)
                have HT2 := Lib.hid (blk_there hD)
                have G := grown_setCells D zs 0 w9
                have HB2 := Lib.hid (grown_below hb G hDw)
                have HLN := Lib.hid hzl
                have HZS := Lib.hid hzs
                clear hD hb G
                clear hzs
                go_wp2_with (refine wpList_store_mid rfl 34 (.tmp 2) (.tmp 72) rfl D 0 zs.toArray rfl rfl (by exact HT2.out) (by rw [List.size_toArray, hzl]; exact msg_info) hz1 ?_; rw [List.toList_toArray])
                exact bodyPost_ret (v := .tuple #[.agg zs.toArray, .int .i64 3]) (results_msg rfl rfl rfl HM2.out HLN.out) rfl ⟨_, by rw [HR9.out.2], ⟨.slice none 0 0, .slice none 0 0, by rw [HZS.out, HR9.out.1]; rfl, by rw [HR9.out.1]; exact ChainAt.nil _, by rw [HR9.out.1]; exact FiresAt.nil _⟩, HB2.out⟩
          · have hb := hbr
            have hD := hDr
            have he2 : (e' != 0) = true := by simpa using he
            have he3 : (e' == 0) = false := by simpa using he
            clear hbr hDr hMB hRr hAt
            have HR9 : Hid (R = msgZero ∧ x = 3) := Lib.hid (by
              exact HGX.out e' (.inl he) rfl)
            have HM2 := Lib.hid (hD.stored (vs := zs) rfl)
            have HT2 := Lib.hid (blk_there hD)
            have G := grown_setCells D zs 0 wr
            have HB2 := Lib.hid (grown_below hb G hDw)
            have HLN := Lib.hid hzl
            have HZS := Lib.hid hzs
            clear hD hb G
            clear hzs
            go_wp2_with (refine wpList_store_mid rfl 34 (.tmp 2) (.tmp 72) rfl D 0 zs.toArray rfl rfl (by exact HT2.out) (by rw [List.size_toArray, hzl]; exact msg_info) hz1 ?_; rw [List.toList_toArray])
            exact bodyPost_ret (v := .tuple #[.agg zs.toArray, .int .i64 3]) (results_msg rfl rfl rfl HM2.out HLN.out) rfl ⟨_, by rw [HR9.out.2], ⟨.slice none 0 0, .slice none 0 0, by rw [HZS.out, HR9.out.1]; rfl, by rw [HR9.out.1]; exact ChainAt.nil _, by rw [HR9.out.1]; exact FiresAt.nil _⟩, HB2.out⟩
end Go.Proofs.YtagmlgeoefemfaaGreat
