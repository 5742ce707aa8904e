/- The document's Print of messages: the bytes of one that may be. -/
import Derived.Test.YtagmlgeoefemfaaGreatWireRefRow
import Derived.Test.YtagmlgeoefemfaaGreatOpRefPut
import Derived.Test.YtagmlgeoefemfaaGreatCfgQRead
import Derived.Deep.DeepCutAuto
namespace Go.Proofs.YtagmlgeoefemfaaGreat
open Go.RowKit Go.ChangeShapes Go.WideShapes Go.Joins Go.Deep Fld
set_option linter.unusedVariables false

theorem qwnum_any (i : Int) (hi : W64 i) (w : World) :
    Calls Tryz.prog 20 #[.int .i64 i] w fun e w' => e = .returned (.string ⟨(enc (zig i)).toArray⟩) ∧ Below w.heap.size w w' := by
  go_enter Tryz.func20, Tryz.ntmps20
  go_wp2_with fail
  refine (qint_any i hi _).mono ?_
  rintro en w1 ⟨rfl, b1⟩
  go_wp2_with fail
  go_ret
  exact ⟨rfl, b1⟩
theorem charAt {R : List Fld} {j : Nat} {F : Fld} (h : R[j]? = some F) : (R.map charOf)[j]? = some (charOf F) := by rw [List.getElem?_map, h]; rfl
theorem qhead_join (k d : Int) : (⟨[UInt8.ofNat (k % 256).toNat].toArray⟩ : ByteArray) ++ ⟨(enc (zig d)).toArray⟩ = ⟨(kindB k :: encI [d]).toArray⟩ := by
  rw [str_join]; simp [kindB, encI]

set_option maxRecDepth 100000 in
set_option maxHeartbeats 20000000 in

theorem qwprint_lit {w : World} {k dst fn fl ep seq req cl id un : Int} {flag : Bool} {ok a1 a2 a3 a4 a5 a6 a7 a8 : Int} {oc : List UInt8} {re rg rd ce life : Int} {ch : List SeatV} {fires : List FireV} {va ua : Option Addr} {vc uc : Nat} (hv1 : ChainAt w (.slice va ch.length vc) ch) (hv2 : FiresAt w (.slice ua fires.length uc) fires) (hk : 1 ≤ k ∧ k ≤ 15) (hf8 : fires.length ≤ 8) {M : MsgV} (hMM : (⟨k, dst, fn, fl, ep, seq, req, cl, id, un, flag, ⟨ok, [a1, a2, a3, a4, a5, a6, a7, a8], oc⟩, re, rg, rd, ⟨ce, ch⟩, fires, life⟩ : MsgV) = M) (hok : MOk M) (hs : MSmall M) :
    Calls Tryz.prog 9 #[.agg #[.int .i64 k, .int .i64 dst, .int .i64 fn, .int .i64 fl, .int .i64 ep, .int .i64 seq, .int .i64 req, .int .i64 cl, .int .i64 id, .int .i64 un, .bool flag, .int .i64 ok, .int .i64 a1, .int .i64 a2, .int .i64 a3, .int .i64 a4, .int .i64 a5, .int .i64 a6, .int .i64 a7, .int .i64 a8, .string ⟨oc.toArray⟩, .int .i64 re, .int .i64 rg, .int .i64 rd, .int .i64 ce, .slice va ch.length vc, .slice ua fires.length uc, .int .i64 life]] w fun en w' => en = .returned (.string ⟨(frame (textOf M)).toArray⟩) ∧ Below w.heap.size w w' := by
  have hn := hok.nums
  rw [← hMM] at hn
  simp only [List.mem_cons, List.not_mem_nil, or_false, forall_eq_or_imp, forall_eq] at hn
  obtain ⟨q0, q1, q2, q3, q4, q5, q6, q7, q8, q9, q10, q11, q12, q13, q14⟩ := hn
  have hoo := hok.op
  rw [← hMM] at hoo
  simp only at hoo
  have hcl := hs.chain
  have hocl := hs.cron
  rw [← hMM] at hcl hocl
  simp only at hcl hocl
  have hcl : ch.length ≤ 100000 := by omega
  have hocl : oc.length ≤ 1000000 := by omega
  have HRL := Lib.hid (rowLen k)
  have HFL := Lib.hid (fldsLen hok hs)
  have HLF := Lib.hid (encFld_len hok hs)
  have hok := Lib.hid hok
  have hMM := Lib.hid hMM
  have HTX : Hid (textOf M = (kindB k :: encI [dst]) ++ (fieldsOf k).flatMap (encFld M)) := Lib.hid (by rw [textOf, ← hMM.out]; rfl)
  clear hs
  go_enter Tryz.func9, Tryz.ntmps9
  go_upto_region 1 with (fail)
  have hA : BlkAt (w.alloc (.cells #[.int .i64 k, .int .i64 dst, .int .i64 fn, .int .i64 fl, .int .i64 ep, .int .i64 seq, .int .i64 req, .int .i64 cl, .int .i64 id, .int .i64 un, .bool flag, .int .i64 ok, .int .i64 a1, .int .i64 a2, .int .i64 a3, .int .i64 a4, .int .i64 a5, .int .i64 a6, .int .i64 a7, .int .i64 a8, .string ⟨oc.toArray⟩, .int .i64 re, .int .i64 rg, .int .i64 rd, .int .i64 ce, .slice va ch.length vc, .slice ua fires.length uc, .int .i64 life] 34)) w.heap.size 34 [.int .i64 k, .int .i64 dst, .int .i64 fn, .int .i64 fl, .int .i64 ep, .int .i64 seq, .int .i64 req, .int .i64 cl, .int .i64 id, .int .i64 un, .bool flag, .int .i64 ok, .int .i64 a1, .int .i64 a2, .int .i64 a3, .int .i64 a4, .int .i64 a5, .int .i64 a6, .int .i64 a7, .int .i64 a8, .string ⟨oc.toArray⟩, .int .i64 re, .int .i64 rg, .int .i64 rd, .int .i64 ce, .slice va ch.length vc, .slice ua fires.length uc, .int .i64 life] := BlkAt.new w 34 [.int .i64 k, .int .i64 dst, .int .i64 fn, .int .i64 fl, .int .i64 ep, .int .i64 seq, .int .i64 req, .int .i64 cl, .int .i64 id, .int .i64 un, .bool flag, .int .i64 ok, .int .i64 a1, .int .i64 a2, .int .i64 a3, .int .i64 a4, .int .i64 a5, .int .i64 a6, .int .i64 a7, .int .i64 a8, .string ⟨oc.toArray⟩, .int .i64 re, .int .i64 rg, .int .i64 rd, .int .i64 ce, .slice va ch.length vc, .slice ua fires.length uc, .int .i64 life]
  have hb : Below w.heap.size w (w.alloc (.cells #[.int .i64 k, .int .i64 dst, .int .i64 fn, .int .i64 fl, .int .i64 ep, .int .i64 seq, .int .i64 req, .int .i64 cl, .int .i64 id, .int .i64 un, .bool flag, .int .i64 ok, .int .i64 a1, .int .i64 a2, .int .i64 a3, .int .i64 a4, .int .i64 a5, .int .i64 a6, .int .i64 a7, .int .i64 a8, .string ⟨oc.toArray⟩, .int .i64 re, .int .i64 rg, .int .i64 rd, .int .i64 ce, .slice va ch.length vc, .slice ua fires.length uc, .int .i64 life] 34)) := (Below.refl w.heap.size w).alloc (Nat.le_refl _) _
  have hWs : w.heap.size + 1 ≤ (w.alloc (.cells #[.int .i64 k, .int .i64 dst, .int .i64 fn, .int .i64 fl, .int .i64 ep, .int .i64 seq, .int .i64 req, .int .i64 cl, .int .i64 id, .int .i64 un, .bool flag, .int .i64 ok, .int .i64 a1, .int .i64 a2, .int .i64 a3, .int .i64 a4, .int .i64 a5, .int .i64 a6, .int .i64 a7, .int .i64 a8, .string ⟨oc.toArray⟩, .int .i64 re, .int .i64 rg, .int .i64 rd, .int .i64 ce, .slice va ch.length vc, .slice ua fires.length uc, .int .i64 life] 34)).heap.size := by simp
  change Code.wp _ _ _ _ (w.alloc (.cells #[.int .i64 k, .int .i64 dst, .int .i64 fn, .int .i64 fl, .int .i64 ep, .int .i64 seq, .int .i64 req, .int .i64 cl, .int .i64 id, .int .i64 un, .bool flag, .int .i64 ok, .int .i64 a1, .int .i64 a2, .int .i64 a3, .int .i64 a4, .int .i64 a5, .int .i64 a6, .int .i64 a7, .int .i64 a8, .string ⟨oc.toArray⟩, .int .i64 re, .int .i64 rg, .int .i64 rd, .int .i64 ce, .slice va ch.length vc, .slice ua fires.length uc, .int .i64 life] 34))
  generalize w.alloc (.cells #[.int .i64 k, .int .i64 dst, .int .i64 fn, .int .i64 fl, .int .i64 ep, .int .i64 seq, .int .i64 req, .int .i64 cl, .int .i64 id, .int .i64 un, .bool flag, .int .i64 ok, .int .i64 a1, .int .i64 a2, .int .i64 a3, .int .i64 a4, .int .i64 a5, .int .i64 a6, .int .i64 a7, .int .i64 a8, .string ⟨oc.toArray⟩, .int .i64 re, .int .i64 rg, .int .i64 rd, .int .i64 ce, .slice va ch.length vc, .slice ua fires.length uc, .int .i64 life] 34) = W at *
  obtain ⟨m, hm⟩ : ∃ m, m = w.heap.size := ⟨_, rfl⟩
  have hmw : w.heap.size ≤ m := Nat.le_of_eq hm.symm
  rw [← hm] at hA ⊢
  clear hm hWs
  go_cut [3] (fun s wx => s = .string ⟨(kindB k :: encI [dst]).toArray⟩ ∧ BlkAt wx m 34 [.int .i64 k, .int .i64 dst, .int .i64 fn, .int .i64 fl, .int .i64 ep, .int .i64 seq, .int .i64 req, .int .i64 cl, .int .i64 id, .int .i64 un, .bool flag, .int .i64 ok, .int .i64 a1, .int .i64 a2, .int .i64 a3, .int .i64 a4, .int .i64 a5, .int .i64 a6, .int .i64 a7, .int .i64 a8, .string ⟨oc.toArray⟩, .int .i64 re, .int .i64 rg, .int .i64 rd, .int .i64 ce, .slice va ch.length vc, .slice ua fires.length uc, .int .i64 life] ∧ Below w.heap.size w wx)
  case first =>
    have c0 := hA.cell (i := 0) (v := .int .i64 k) rfl
    have c1 := hA.cell (i := 1) (v := .int .i64 dst) rfl
    have e1 := (enc_len (zig dst)).2
    have zz : ¬ 9223372036854775807 < 1 + (enc (zig dst)).length := by omega
    have hcv : ∀ (W : World) (g : Nat), ByteBlk k W g → (convert 52 9 (.slice (some ⟨g, 0, none⟩) 1 1)).run Tryz.prog W = .ok (.string ⟨[UInt8.ofNat (k % 256).toNat].toArray⟩) W := fun W g h => h.conv
    have f1 : ∀ (U : World), ByteBlk k (U.alloc (.cells #[.int .u8 (IntKind.u8.wrap k)] 5)) U.heap.size := fun U => heap_alloc_new _ _
    have d1 : ∀ (U : World), ByteBlk k (U.alloc (.cells #[.int .u8 (IntKind.u8.wrap k)] 5)).drew U.heap.size := f1
    have hMA : BlkAt (W.alloc (.cells #[.int .u8 (IntKind.u8.wrap k)] 5)).drew m 34 [.int .i64 k, .int .i64 dst, .int .i64 fn, .int .i64 fl, .int .i64 ep, .int .i64 seq, .int .i64 req, .int .i64 cl, .int .i64 id, .int .i64 un, .bool flag, .int .i64 ok, .int .i64 a1, .int .i64 a2, .int .i64 a3, .int .i64 a4, .int .i64 a5, .int .i64 a6, .int .i64 a7, .int .i64 a8, .string ⟨oc.toArray⟩, .int .i64 re, .int .i64 rg, .int .i64 rd, .int .i64 ce, .slice va ch.length vc, .slice ua fires.length uc, .int .i64 life] := (hA.alloc (.cells #[.int .u8 (IntKind.u8.wrap k)] 5)).drew
    have hbA : Below w.heap.size w (W.alloc (.cells #[.int .u8 (IntKind.u8.wrap k)] 5)).drew := below_drewN (hb.alloc hb.size (.cells #[.int .u8 (IntKind.u8.wrap k)] 5)) 1
    go_region_held (fun w' => w'.cell? ⟨m, 0, none⟩ = some (.int .i64 k) ∧ w'.cell? ⟨m, 1, none⟩ = some (.int .i64 dst))
      (go_keep)
      ((go_at_call 20; refine (qwnum_any dst q1 _).mono ?_; rintro en wz ⟨rfl, bz⟩; (try have q0 : ByteBlk k wz W.heap.size := ByteBlk.below (by exact d1 W) bz); have hA1 : BlkAt wz m 34 [.int .i64 k, .int .i64 dst, .int .i64 fn, .int .i64 fl, .int .i64 ep, .int .i64 seq, .int .i64 req, .int .i64 cl, .int .i64 id, .int .i64 un, .bool flag, .int .i64 ok, .int .i64 a1, .int .i64 a2, .int .i64 a3, .int .i64 a4, .int .i64 a5, .int .i64 a6, .int .i64 a7, .int .i64 a8, .string ⟨oc.toArray⟩, .int .i64 re, .int .i64 rg, .int .i64 rd, .int .i64 ce, .slice va ch.length vc, .slice ua fires.length uc, .int .i64 life] := BlkAt.below (by first | exact hA | exact hA.drew | exact hMA) bz; have hb1 : Below w.heap.size w wz := below_step (by first | exact hb | exact below_drewN hb 1 | exact hbA) bz; have c0 := hA1.cell (i := 0) (v := .int .i64 k) rfl; have c1 := hA1.cell (i := 1) (v := .int .i64 dst) rfl; clear bz))
    all_goals
      clear hcv f1 d1 hMA hbA
      go_wp2_with fail
      go_meet
      first
        | exact ⟨congrArg Value.string (qhead_join k dst), hA1, hb1⟩
        | exact ⟨congrArg Value.string (qhead_join k dst), hA1.alloc _, hb1.alloc hb1.size _⟩
  case rest =>
    obtain ⟨rfl, hA, hb⟩ := hcut
    have c0 := hA.cell (i := 0) (v := .int .i64 k) rfl
    go_wp2_with fail
    refine (qrow_any hk _).mono ?_
    rintro en w2 ⟨rfl, b2⟩
    have hA2 := hA.below b2
    have hb2 := below_step hb b2
    clear c0 hA hb b2
    have hrt : rowText k = (fieldsOf k).map charOf := rfl
    rw [hrt]
    have hP : (kindB k :: encI [dst]).length ≤ 11 := by
      have := encI_len [dst]
      simp only [List.length_cons, List.length_nil] at this ⊢
      omega
    generalize kindB k :: encI [dst] = P at *
    generalize fieldsOf k = Fs at *
    clear hrt
    have hrl := HRL.out
    go_wp2_with fail
    go_loopw [3, 5] (fun s i wr => ∃ j : Nat, j ≤ Fs.length ∧ s = .string ⟨(P ++ (Fs.take j).flatMap (encFld M)).toArray⟩ ∧ i = .int .i64 j ∧ BlkAt wr m 34 [.int .i64 k, .int .i64 dst, .int .i64 fn, .int .i64 fl, .int .i64 ep, .int .i64 seq, .int .i64 req, .int .i64 cl, .int .i64 id, .int .i64 un, .bool flag, .int .i64 ok, .int .i64 a1, .int .i64 a2, .int .i64 a3, .int .i64 a4, .int .i64 a5, .int .i64 a6, .int .i64 a7, .int .i64 a8, .string ⟨oc.toArray⟩, .int .i64 re, .int .i64 rg, .int .i64 rd, .int .i64 ce, .slice va ch.length vc, .slice ua fires.length uc, .int .i64 life] ∧ Below w.heap.size w wr) (fun _ i _ => Fs.length - (intOf i).toNat)
    case atStart => exact ⟨0, Nat.zero_le _, by simp, rfl, hA2, hb2⟩
    case round =>
      obtain ⟨j, hj, rfl, rfl, hMr, hbr⟩ := hrel
      clear hA2 hb2
      by_cases hlt : j < Fs.length
      · obtain ⟨F, hF⟩ : ∃ F, Fs[j]? = some F := ⟨_, List.getElem?_eq_getElem hlt⟩
        have HS := Lib.hid (show P ++ (Fs.take (j + 1)).flatMap (encFld M) = (P ++ (Fs.take j).flatMap (encFld M)) ++ encFld M F by rw [flds_snoc hF, List.append_assoc])
        have hix := fun w => index_at (Fs.map charOf) j (charOf F) (charAt hF) w
        have hTl : (P ++ (Fs.take j).flatMap (encFld M)).length ≤ 800000 := by
          have h1 := HFL.out (Fs.take j)
          have h2 : (Fs.take j).length ≤ 7 := by rw [List.length_take]; omega
          rw [List.length_append]
          omega
        clear hF
        generalize P ++ (Fs.take j).flatMap (encFld M) = T at *
        cases F with
        | fE =>
          as_aux_lemma =>
            have ma := hMr.cell (i := 4) (v := .int .i64 ep) rfl
            have e1 := (enc_len (zig ep)).2
            have zz : ¬ 9223372036854775807 < T.length + (enc (zig ep)).length := by omega
            go_wp2_with fail
            refine (qwnum_any ep q4 _).mono ?_
            rintro en w3 ⟨rfl, b3⟩
            have hMr := hMr.below b3
            have hbr := below_step hbr b3
            clear ma b3
            have HM2 := Lib.hid hMr
            have HB2 := Lib.hid hbr
            clear hMr hbr
            go_wp2_with fail
            go_roundw
            case rel => exact ⟨j + 1, by omega, by rw [HS.out, ← hMM.out]; simp only [ByteArray.mk_append_mk]; simp [encFld, encI], by go_num, HM2.out, HB2.out⟩
            case measure => simp [intOf]; omega
        | fS =>
          as_aux_lemma =>
            have ma := hMr.cell (i := 5) (v := .int .i64 seq) rfl
            have e1 := (enc_len (zig seq)).2
            have zz : ¬ 9223372036854775807 < T.length + (enc (zig seq)).length := by omega
            go_wp2_with fail
            refine (qwnum_any seq q5 _).mono ?_
            rintro en w3 ⟨rfl, b3⟩
            have hMr := hMr.below b3
            have hbr := below_step hbr b3
            clear ma b3
            have HM2 := Lib.hid hMr
            have HB2 := Lib.hid hbr
            clear hMr hbr
            go_wp2_with fail
            go_roundw
            case rel => exact ⟨j + 1, by omega, by rw [HS.out, ← hMM.out]; simp only [ByteArray.mk_append_mk]; simp [encFld, encI], by go_num, HM2.out, HB2.out⟩
            case measure => simp [intOf]; omega
        | fU =>
          as_aux_lemma =>
            have ma := hMr.cell (i := 9) (v := .int .i64 un) rfl
            have e1 := (enc_len (zig un)).2
            have zz : ¬ 9223372036854775807 < T.length + (enc (zig un)).length := by omega
            go_wp2_with fail
            refine (qwnum_any un q9 _).mono ?_
            rintro en w3 ⟨rfl, b3⟩
            have hMr := hMr.below b3
            have hbr := below_step hbr b3
            clear ma b3
            have HM2 := Lib.hid hMr
            have HB2 := Lib.hid hbr
            clear hMr hbr
            go_wp2_with fail
            go_roundw
            case rel => exact ⟨j + 1, by omega, by rw [HS.out, ← hMM.out]; simp only [ByteArray.mk_append_mk]; simp [encFld, encI], by go_num, HM2.out, HB2.out⟩
            case measure => simp [intOf]; omega
        | fL =>
          as_aux_lemma =>
            have ma := hMr.cell (i := 27) (v := .int .i64 life) rfl
            have e1 := (enc_len (zig life)).2
            have zz : ¬ 9223372036854775807 < T.length + (enc (zig life)).length := by omega
            go_wp2_with fail
            refine (qwnum_any life q13 _).mono ?_
            rintro en w3 ⟨rfl, b3⟩
            have hMr := hMr.below b3
            have hbr := below_step hbr b3
            clear ma b3
            have HM2 := Lib.hid hMr
            have HB2 := Lib.hid hbr
            clear hMr hbr
            go_wp2_with fail
            go_roundw
            case rel => exact ⟨j + 1, by omega, by rw [HS.out, ← hMM.out]; simp only [ByteArray.mk_append_mk]; simp [encFld, encI], by go_num, HM2.out, HB2.out⟩
            case measure => simp [intOf]; omega
        | fQ =>
          as_aux_lemma =>
            have ma := hMr.cell (i := 6) (v := .int .i64 req) rfl
            have e1 := (enc_len (zig req)).2
            have zz : ¬ 9223372036854775807 < T.length + (enc (zig req)).length := by omega
            go_wp2_with fail
            refine (qwnum_any req q6 _).mono ?_
            rintro en w3 ⟨rfl, b3⟩
            have hMr := hMr.below b3
            have hbr := below_step hbr b3
            clear ma b3
            have HM2 := Lib.hid hMr
            have HB2 := Lib.hid hbr
            clear hMr hbr
            go_wp2_with fail
            go_roundw
            case rel => exact ⟨j + 1, by omega, by rw [HS.out, ← hMM.out]; simp only [ByteArray.mk_append_mk]; simp [encFld, encI], by go_num, HM2.out, HB2.out⟩
            case measure => simp [intOf]; omega
        | fI =>
          as_aux_lemma =>
            have ma := hMr.cell (i := 8) (v := .int .i64 id) rfl
            have e1 := (enc_len (zig id)).2
            have zz : ¬ 9223372036854775807 < T.length + (enc (zig id)).length := by omega
            go_wp2_with fail
            refine (qwnum_any id q8 _).mono ?_
            rintro en w3 ⟨rfl, b3⟩
            have hMr := hMr.below b3
            have hbr := below_step hbr b3
            clear ma b3
            have HM2 := Lib.hid hMr
            have HB2 := Lib.hid hbr
            clear hMr hbr
            go_wp2_with fail
            go_roundw
            case rel => exact ⟨j + 1, by omega, by rw [HS.out, ← hMM.out]; simp only [ByteArray.mk_append_mk]; simp [encFld, encI], by go_num, HM2.out, HB2.out⟩
            case measure => simp [intOf]; omega
        | fT =>
          as_aux_lemma =>
            have ma := hMr.cell (i := 7) (v := .int .i64 cl) rfl
            have e1 := (enc_len (zig cl)).2
            have zz : ¬ 9223372036854775807 < T.length + (enc (zig cl)).length := by omega
            go_wp2_with fail
            refine (qwnum_any cl q7 _).mono ?_
            rintro en w3 ⟨rfl, b3⟩
            have hMr := hMr.below b3
            have hbr := below_step hbr b3
            clear ma b3
            have HM2 := Lib.hid hMr
            have HB2 := Lib.hid hbr
            clear hMr hbr
            go_wp2_with fail
            go_roundw
            case rel => exact ⟨j + 1, by omega, by rw [HS.out, ← hMM.out]; simp only [ByteArray.mk_append_mk]; simp [encFld, encI], by go_num, HM2.out, HB2.out⟩
            case measure => simp [intOf]; omega
        | fF =>
          as_aux_lemma =>
            have ma2 := hMr.cell (i := 2) (v := .int .i64 fn) rfl
            have ma3 := hMr.cell (i := 3) (v := .int .i64 fl) rfl
            have e0 := (enc_len (zig fn)).2
            have e1 := (enc_len (zig fl)).2
            have z1 : ¬ 9223372036854775807 < (enc (zig fn)).length + (enc (zig fl)).length := by omega
            have zz : ¬ 9223372036854775807 < T.length + ((enc (zig fn)).length + (enc (zig fl)).length) := by omega
            go_upto_region 8 with (fail)
            go_region_held (fun w' => w'.cell? ⟨m, 2, none⟩ = some (.int .i64 fn) ∧ w'.cell? ⟨m, 3, none⟩ = some (.int .i64 fl))
              (go_keep)
              (first | (go_at_call 20; refine (qwnum_any fn q2 _).mono ?_; rintro en wz ⟨rfl, bz⟩; have hMr : BlkAt wz m 34 _ := BlkAt.below (by first | exact hMr | exact hMr.drew) bz; have hbr : Below w.heap.size w wz := below_step (by first | exact hbr | exact below_drewN hbr 1) bz; have ma2 := hMr.cell (i := 2) (v := .int .i64 fn) rfl; have ma3 := hMr.cell (i := 3) (v := .int .i64 fl) rfl; clear bz) | (go_at_call 20; refine (qwnum_any fl q3 _).mono ?_; rintro en wz ⟨rfl, bz⟩; have hMr : BlkAt wz m 34 _ := BlkAt.below (by first | exact hMr | exact hMr.drew) bz; have hbr : Below w.heap.size w wz := below_step (by first | exact hbr | exact below_drewN hbr 1) bz; have ma2 := hMr.cell (i := 2) (v := .int .i64 fn) rfl; have ma3 := hMr.cell (i := 3) (v := .int .i64 fl) rfl; clear bz))
            clear ma2 ma3 z1 zz
            have HM2 := Lib.hid hMr
            have HB2 := Lib.hid hbr
            clear hMr hbr
            go_wp2_with fail
            go_roundw
            case rel => exact ⟨j + 1, by omega, by rw [HS.out, ← hMM.out]; simp only [ByteArray.mk_append_mk]; simp [encFld, encI], by go_num, HM2.out, HB2.out⟩
            case measure => simp [intOf]; omega
        | fR =>
          as_aux_lemma =>
            have ma21 := hMr.cell (i := 21) (v := .int .i64 re) rfl
            have ma22 := hMr.cell (i := 22) (v := .int .i64 rg) rfl
            have ma23 := hMr.cell (i := 23) (v := .int .i64 rd) rfl
            have e0 := (enc_len (zig re)).2
            have e1 := (enc_len (zig rg)).2
            have e2 := (enc_len (zig rd)).2
            have z1 : ¬ 9223372036854775807 < (enc (zig re)).length + (enc (zig rg)).length := by omega
            have z2 : ¬ 9223372036854775807 < (enc (zig re)).length + (enc (zig rg)).length + (enc (zig rd)).length := by omega
            have zz : ¬ 9223372036854775807 < T.length + ((enc (zig re)).length + (enc (zig rg)).length + (enc (zig rd)).length) := by omega
            go_upto_region 28 with (fail)
            go_region_held (fun w' => w'.cell? ⟨m, 21, none⟩ = some (.int .i64 re) ∧ w'.cell? ⟨m, 22, none⟩ = some (.int .i64 rg) ∧ w'.cell? ⟨m, 23, none⟩ = some (.int .i64 rd))
              (go_keep)
              (first | (go_at_call 20; refine (qwnum_any re q10 _).mono ?_; rintro en wz ⟨rfl, bz⟩; have hMr : BlkAt wz m 34 _ := BlkAt.below (by first | exact hMr | exact hMr.drew) bz; have hbr : Below w.heap.size w wz := below_step (by first | exact hbr | exact below_drewN hbr 1) bz; have ma21 := hMr.cell (i := 21) (v := .int .i64 re) rfl; have ma22 := hMr.cell (i := 22) (v := .int .i64 rg) rfl; have ma23 := hMr.cell (i := 23) (v := .int .i64 rd) rfl; clear bz) | (go_at_call 20; refine (qwnum_any rg q11 _).mono ?_; rintro en wz ⟨rfl, bz⟩; have hMr : BlkAt wz m 34 _ := BlkAt.below (by first | exact hMr | exact hMr.drew) bz; have hbr : Below w.heap.size w wz := below_step (by first | exact hbr | exact below_drewN hbr 1) bz; have ma21 := hMr.cell (i := 21) (v := .int .i64 re) rfl; have ma22 := hMr.cell (i := 22) (v := .int .i64 rg) rfl; have ma23 := hMr.cell (i := 23) (v := .int .i64 rd) rfl; clear bz) | (go_at_call 20; refine (qwnum_any rd q12 _).mono ?_; rintro en wz ⟨rfl, bz⟩; have hMr : BlkAt wz m 34 _ := BlkAt.below (by first | exact hMr | exact hMr.drew) bz; have hbr : Below w.heap.size w wz := below_step (by first | exact hbr | exact below_drewN hbr 1) bz; have ma21 := hMr.cell (i := 21) (v := .int .i64 re) rfl; have ma22 := hMr.cell (i := 22) (v := .int .i64 rg) rfl; have ma23 := hMr.cell (i := 23) (v := .int .i64 rd) rfl; clear bz))
            clear ma21 ma22 ma23 z1 z2 zz
            have HM2 := Lib.hid hMr
            have HB2 := Lib.hid hbr
            clear hMr hbr
            go_wp2_with fail
            go_roundw
            case rel => exact ⟨j + 1, by omega, by rw [HS.out, ← hMM.out]; simp only [ByteArray.mk_append_mk]; simp [encFld, encI], by go_num, HM2.out, HB2.out⟩
            case measure => simp [intOf]; omega
        | fG =>
          as_aux_lemma =>
            have zz : ¬ 9223372036854775807 < T.length + 1 := by omega
            cases flag with
            | true =>
              have ma := hMr.cell (i := 10) (v := .bool true) rfl
              go_wp2_with fail
              go_roundw
              case rel => exact ⟨j + 1, by omega, by rw [HS.out, ← hMM.out]; rw [show (⟨#[1]⟩ : ByteArray) = ⟨[(1 : UInt8)].toArray⟩ from rfl, str_join]; rfl, by go_num, hMr, hbr⟩
              case measure => simp [intOf]; omega
            | false =>
              have ma := hMr.cell (i := 10) (v := .bool false) rfl
              go_wp2_with fail
              go_roundw
              case rel => exact ⟨j + 1, by omega, by rw [HS.out, ← hMM.out]; rw [show (⟨#[0]⟩ : ByteArray) = ⟨[(0 : UInt8)].toArray⟩ from rfl, str_join]; rfl, by go_num, hMr, hbr⟩
              case measure => simp [intOf]; omega
        | fC =>
          as_aux_lemma =>
            have ma := hMr.cell (i := 24) (v := .int .i64 ce) rfl
            have mb := hMr.cell (i := 25) (v := .slice va ch.length vc) rfl
            have e1 := HLF.out fC
            rw [← hMM.out] at e1
            have zz : ¬ 9223372036854775807 < T.length + (encConf ⟨ce, ch⟩).length := by
              have : (encConf ⟨ce, ch⟩).length ≤ 100000 := e1
              omega
            go_wp2_with fail
            refine (qcprint_any (by exact hv1.below hbr) ce hcl).mono ?_
            rintro en w3 ⟨rfl, b3⟩
            have hMr := hMr.below b3
            have hbr := below_step hbr b3
            clear ma mb b3 e1
            have HM2 := Lib.hid hMr
            have HB2 := Lib.hid hbr
            clear hMr hbr
            go_wp2_with fail
            go_roundw
            case rel => exact ⟨j + 1, by omega, by rw [HS.out, ← hMM.out]; rw [str_join]; rfl, by go_num, HM2.out, HB2.out⟩
            case measure => simp [intOf]; omega
        | fO =>
          as_aux_lemma =>
            have mo11 := hMr.cell (i := 11) (v := .int .i64 ok) rfl
            have mo12 := hMr.cell (i := 12) (v := .int .i64 a1) rfl
            have mo13 := hMr.cell (i := 13) (v := .int .i64 a2) rfl
            have mo14 := hMr.cell (i := 14) (v := .int .i64 a3) rfl
            have mo15 := hMr.cell (i := 15) (v := .int .i64 a4) rfl
            have mo16 := hMr.cell (i := 16) (v := .int .i64 a5) rfl
            have mo17 := hMr.cell (i := 17) (v := .int .i64 a6) rfl
            have mo18 := hMr.cell (i := 18) (v := .int .i64 a7) rfl
            have mo19 := hMr.cell (i := 19) (v := .int .i64 a8) rfl
            have mo20 := hMr.cell (i := 20) (v := .string ⟨oc.toArray⟩) rfl
            have e1 := HLF.out fO
            rw [← hMM.out] at e1
            have zz : ¬ 9223372036854775807 < T.length + (encOp ⟨ok, [a1, a2, a3, a4, a5, a6, a7, a8], oc⟩).length := by
              have : (encOp ⟨ok, [a1, a2, a3, a4, a5, a6, a7, a8], oc⟩).length ≤ 100000 := e1
              omega
            go_wp2_with fail
            refine (qprint_any (o := ⟨ok, [a1, a2, a3, a4, a5, a6, a7, a8], oc⟩) hoo hocl _).mono ?_
            rintro en w3 ⟨rfl, b3⟩
            have hMr := hMr.below b3
            have hbr := below_step hbr b3
            clear mo11 mo12 mo13 mo14 mo15 mo16 mo17 mo18 mo19 mo20 b3 e1
            have HM2 := Lib.hid hMr
            have HB2 := Lib.hid hbr
            clear hMr hbr
            go_wp2_with fail
            go_roundw
            case rel => exact ⟨j + 1, by omega, by rw [HS.out, ← hMM.out]; rw [str_join]; rfl, by go_num, HM2.out, HB2.out⟩
            case measure => simp [intOf]; omega
        | fX =>
          as_aux_lemma =>
            have ma := hMr.cell (i := 26) (v := .slice ua fires.length uc) rfl
            have e1 := (enc_len fires.length).2
            have hu : IntKind.u64.wrap (fires.length : Int) = (fires.length : Int) := by rw [IntKind.wrap_u64]; omega
            have HU := Lib.hid hu
            have zz : ¬ 9223372036854775807 < T.length + (enc fires.length).length := by omega
            clear hu
            go_upto_region 34 with (fail)
            have hu := HU.out
            go_wp2_with fail
            refine (quint_any fires.length (by unfold F64; omega) _).mono ?_
            rintro en w3 ⟨rfl, b3⟩
            have hMr := hMr.below b3
            have hbr := below_step hbr b3
            have hfv := hv2.below hbr
            have hTQ : Hid (T.length + (enc fires.length).length ≤ 900000) := Lib.hid (by omega)
            clear ma b3 hu
            obtain ⟨T2, hT2⟩ : ∃ T2, T2 = T ++ enc fires.length := ⟨_, rfl⟩
            have HT2l : T2.length ≤ 900000 := by rw [hT2, List.length_append]; exact hTQ.out
            have HT2 := Lib.hid hT2
            have HA2 : Hid ((⟨T.toArray⟩ : ByteArray) ++ ⟨(enc fires.length).toArray⟩ = ⟨T2.toArray⟩) := Lib.hid (by rw [str_join, hT2])
            clear hT2 hTQ
            have hMi0 := hMr
            have hbi0 := hbr
            clear hMr hbr
            have ma := hMi0.cell (i := 26) (v := .slice ua fires.length uc) rfl
            go_upto_region 35 with (fail)
            rw [HA2.out]
            clear zz e1
            go_wp2_with fail
            go_loopw [3, 6] (fun s q wr => ∃ i : Nat, i ≤ fires.length ∧ s = .string ⟨(T2 ++ encX (fires.take i)).toArray⟩ ∧ q = .int .i64 i ∧ BlkAt wr m 34 [.int .i64 k, .int .i64 dst, .int .i64 fn, .int .i64 fl, .int .i64 ep, .int .i64 seq, .int .i64 req, .int .i64 cl, .int .i64 id, .int .i64 un, .bool flag, .int .i64 ok, .int .i64 a1, .int .i64 a2, .int .i64 a3, .int .i64 a4, .int .i64 a5, .int .i64 a6, .int .i64 a7, .int .i64 a8, .string ⟨oc.toArray⟩, .int .i64 re, .int .i64 rg, .int .i64 rd, .int .i64 ce, .slice va ch.length vc, .slice ua fires.length uc, .int .i64 life] ∧ Below w.heap.size w wr) (fun _ q _ => fires.length - (intOf q).toNat)
            case atStart => exact ⟨0, Nat.zero_le _, by simp [encX], rfl, hMi0, hbi0⟩
            case round =>
              obtain ⟨i, hi, rfl, rfl, hMi, hbi⟩ := hrel
              clear hMi0 hbi0 ma hfv
              by_cases hlt2 : i < fires.length
              · obtain ⟨f, hfk⟩ : ∃ f, fires[i]? = some f := ⟨_, List.getElem?_eq_getElem hlt2⟩
                obtain ⟨aa, cc, haa, hlm, hs⟩ := hv2.below hbi
                obtain ⟨rfl, rfl⟩ : ua = aa ∧ uc = cc := by simpa using haa
                obtain ⟨F, off, rfl, hFB, hc⟩ := hs (by omega)
                have HX := Lib.hid (encX_snoc hfk)
                have hWf := hok.out.fires f (by rw [← hMM.out]; exact List.mem_of_getElem? hfk)
                have hlx := encX_len (fires.take i)
                have hlt6 : (fires.take i).length ≤ 8 := by rw [List.length_take]; omega
                have hc := hc i f hfk
                obtain ⟨x1, x2, x3, x4, x5, x6⟩ := f
                have g0 := hc 0 x1 rfl
                have g1 := hc 1 x2 rfl
                have g2 := hc 2 x3 rfl
                have g3 := hc 3 x4 rfl
                have g4 := hc 4 x5 rfl
                have g5 := hc 5 x6 rfl
                simp only [Nat.add_zero] at g0
                have HTL : Hid ((T2 ++ encX (fires.take i)).length ≤ 1000000) := Lib.hid (by rw [List.length_append]; omega)
                clear hc hs haa hlm hfk hlx hlt6
                generalize hT3 : T2 ++ encX (fires.take i) = T3 at *
                have HT3 := Lib.hid hT3
                clear hT3
                have ma := hMi.cell (i := 26) (v := .slice (some ⟨F, off, none⟩) fires.length uc) rfl
                go_upto_region 39 with (fail)
                change Code.wp _ _ _ _ (wr.alloc (.cells #[.int .i64 x1, .int .i64 x2, .int .i64 x3, .int .i64 x4, .int .i64 x5, .int .i64 x6] 59))
                have hQ : BlkAt (wr.alloc (.cells #[.int .i64 x1, .int .i64 x2, .int .i64 x3, .int .i64 x4, .int .i64 x5, .int .i64 x6] 59)) wr.heap.size 59 [.int .i64 x1, .int .i64 x2, .int .i64 x3, .int .i64 x4, .int .i64 x5, .int .i64 x6] := BlkAt.new wr 59 [.int .i64 x1, .int .i64 x2, .int .i64 x3, .int .i64 x4, .int .i64 x5, .int .i64 x6]
                have hMi := hMi.alloc (.cells #[.int .i64 x1, .int .i64 x2, .int .i64 x3, .int .i64 x4, .int .i64 x5, .int .i64 x6] 59)
                have hbi := hbi.alloc hbi.size (.cells #[.int .i64 x1, .int .i64 x2, .int .i64 x3, .int .i64 x4, .int .i64 x5, .int .i64 x6] 59)
                clear g0 g1 g2 g3 g4 g5 ma hFB
                generalize wr.alloc (.cells #[.int .i64 x1, .int .i64 x2, .int .i64 x3, .int .i64 x4, .int .i64 x5, .int .i64 x6] 59) = wj at *
                generalize wr.heap.size = Q at *
                have f0 := hQ.cell (i := 0) (v := .int .i64 x1) rfl
                have f1 := hQ.cell (i := 1) (v := .int .i64 x2) rfl
                have f2 := hQ.cell (i := 2) (v := .int .i64 x3) rfl
                have f3 := hQ.cell (i := 3) (v := .int .i64 x4) rfl
                have f4 := hQ.cell (i := 4) (v := .int .i64 x5) rfl
                have f5 := hQ.cell (i := 5) (v := .int .i64 x6) rfl
                have e1 := (enc_len (zig x1)).2
                have e2 := (enc_len (zig x2)).2
                have e3 := (enc_len (zig x3)).2
                have e4 := (enc_len (zig x4)).2
                have e5 := (enc_len (zig x5)).2
                have e6 := (enc_len (zig x6)).2
                have htl := HTL.out
                have z1 : ¬ 9223372036854775807 < (enc (zig x1)).length + (enc (zig x2)).length := by omega
                have z2 : ¬ 9223372036854775807 < (enc (zig x1)).length + (enc (zig x2)).length + (enc (zig x3)).length := by omega
                have z3 : ¬ 9223372036854775807 < (enc (zig x1)).length + (enc (zig x2)).length + (enc (zig x3)).length + (enc (zig x4)).length := by omega
                have z4 : ¬ 9223372036854775807 < (enc (zig x1)).length + (enc (zig x2)).length + (enc (zig x3)).length + (enc (zig x4)).length + (enc (zig x5)).length := by omega
                have z5 : ¬ 9223372036854775807 < (enc (zig x1)).length + (enc (zig x2)).length + (enc (zig x3)).length + (enc (zig x4)).length + (enc (zig x5)).length + (enc (zig x6)).length := by omega
                have zz : ¬ 9223372036854775807 < T3.length + ((enc (zig x1)).length + (enc (zig x2)).length + (enc (zig x3)).length + (enc (zig x4)).length + (enc (zig x5)).length + (enc (zig x6)).length) := by omega
                go_region_held (fun w' => w'.cell? ⟨Q, 0, none⟩ = some (.int .i64 x1) ∧ w'.cell? ⟨Q, 1, none⟩ = some (.int .i64 x2) ∧ w'.cell? ⟨Q, 2, none⟩ = some (.int .i64 x3) ∧ w'.cell? ⟨Q, 3, none⟩ = some (.int .i64 x4) ∧ w'.cell? ⟨Q, 4, none⟩ = some (.int .i64 x5) ∧ w'.cell? ⟨Q, 5, none⟩ = some (.int .i64 x6))
                  (go_keep)
                  (first | (go_at_call 20; refine (qwnum_any x1 (hWf x1 (by simp [FireV.nums])) _).mono ?_; rintro en wz ⟨rfl, bz⟩; have hQ : BlkAt wz Q 59 _ := BlkAt.below (by first | exact hQ | exact hQ.drew) bz; have hMi : BlkAt wz m 34 _ := BlkAt.below (by first | exact hMi | exact hMi.drew) bz; have hbi : Below w.heap.size w wz := below_step (by first | exact hbi | exact below_drewN hbi 1) bz; have f0 := hQ.cell (i := 0) (v := .int .i64 x1) rfl; have f1 := hQ.cell (i := 1) (v := .int .i64 x2) rfl; have f2 := hQ.cell (i := 2) (v := .int .i64 x3) rfl; have f3 := hQ.cell (i := 3) (v := .int .i64 x4) rfl; have f4 := hQ.cell (i := 4) (v := .int .i64 x5) rfl; have f5 := hQ.cell (i := 5) (v := .int .i64 x6) rfl; clear bz) | (go_at_call 20; refine (qwnum_any x2 (hWf x2 (by simp [FireV.nums])) _).mono ?_; rintro en wz ⟨rfl, bz⟩; have hQ : BlkAt wz Q 59 _ := BlkAt.below (by first | exact hQ | exact hQ.drew) bz; have hMi : BlkAt wz m 34 _ := BlkAt.below (by first | exact hMi | exact hMi.drew) bz; have hbi : Below w.heap.size w wz := below_step (by first | exact hbi | exact below_drewN hbi 1) bz; have f0 := hQ.cell (i := 0) (v := .int .i64 x1) rfl; have f1 := hQ.cell (i := 1) (v := .int .i64 x2) rfl; have f2 := hQ.cell (i := 2) (v := .int .i64 x3) rfl; have f3 := hQ.cell (i := 3) (v := .int .i64 x4) rfl; have f4 := hQ.cell (i := 4) (v := .int .i64 x5) rfl; have f5 := hQ.cell (i := 5) (v := .int .i64 x6) rfl; clear bz) | (go_at_call 20; refine (qwnum_any x3 (hWf x3 (by simp [FireV.nums])) _).mono ?_; rintro en wz ⟨rfl, bz⟩; have hQ : BlkAt wz Q 59 _ := BlkAt.below (by first | exact hQ | exact hQ.drew) bz; have hMi : BlkAt wz m 34 _ := BlkAt.below (by first | exact hMi | exact hMi.drew) bz; have hbi : Below w.heap.size w wz := below_step (by first | exact hbi | exact below_drewN hbi 1) bz; have f0 := hQ.cell (i := 0) (v := .int .i64 x1) rfl; have f1 := hQ.cell (i := 1) (v := .int .i64 x2) rfl; have f2 := hQ.cell (i := 2) (v := .int .i64 x3) rfl; have f3 := hQ.cell (i := 3) (v := .int .i64 x4) rfl; have f4 := hQ.cell (i := 4) (v := .int .i64 x5) rfl; have f5 := hQ.cell (i := 5) (v := .int .i64 x6) rfl; clear bz) | (go_at_call 20; refine (qwnum_any x4 (hWf x4 (by simp [FireV.nums])) _).mono ?_; rintro en wz ⟨rfl, bz⟩; have hQ : BlkAt wz Q 59 _ := BlkAt.below (by first | exact hQ | exact hQ.drew) bz; have hMi : BlkAt wz m 34 _ := BlkAt.below (by first | exact hMi | exact hMi.drew) bz; have hbi : Below w.heap.size w wz := below_step (by first | exact hbi | exact below_drewN hbi 1) bz; have f0 := hQ.cell (i := 0) (v := .int .i64 x1) rfl; have f1 := hQ.cell (i := 1) (v := .int .i64 x2) rfl; have f2 := hQ.cell (i := 2) (v := .int .i64 x3) rfl; have f3 := hQ.cell (i := 3) (v := .int .i64 x4) rfl; have f4 := hQ.cell (i := 4) (v := .int .i64 x5) rfl; have f5 := hQ.cell (i := 5) (v := .int .i64 x6) rfl; clear bz) | (go_at_call 20; refine (qwnum_any x5 (hWf x5 (by simp [FireV.nums])) _).mono ?_; rintro en wz ⟨rfl, bz⟩; have hQ : BlkAt wz Q 59 _ := BlkAt.below (by first | exact hQ | exact hQ.drew) bz; have hMi : BlkAt wz m 34 _ := BlkAt.below (by first | exact hMi | exact hMi.drew) bz; have hbi : Below w.heap.size w wz := below_step (by first | exact hbi | exact below_drewN hbi 1) bz; have f0 := hQ.cell (i := 0) (v := .int .i64 x1) rfl; have f1 := hQ.cell (i := 1) (v := .int .i64 x2) rfl; have f2 := hQ.cell (i := 2) (v := .int .i64 x3) rfl; have f3 := hQ.cell (i := 3) (v := .int .i64 x4) rfl; have f4 := hQ.cell (i := 4) (v := .int .i64 x5) rfl; have f5 := hQ.cell (i := 5) (v := .int .i64 x6) rfl; clear bz) | (go_at_call 20; refine (qwnum_any x6 (hWf x6 (by simp [FireV.nums])) _).mono ?_; rintro en wz ⟨rfl, bz⟩; have hQ : BlkAt wz Q 59 _ := BlkAt.below (by first | exact hQ | exact hQ.drew) bz; have hMi : BlkAt wz m 34 _ := BlkAt.below (by first | exact hMi | exact hMi.drew) bz; have hbi : Below w.heap.size w wz := below_step (by first | exact hbi | exact below_drewN hbi 1) bz; have f0 := hQ.cell (i := 0) (v := .int .i64 x1) rfl; have f1 := hQ.cell (i := 1) (v := .int .i64 x2) rfl; have f2 := hQ.cell (i := 2) (v := .int .i64 x3) rfl; have f3 := hQ.cell (i := 3) (v := .int .i64 x4) rfl; have f4 := hQ.cell (i := 4) (v := .int .i64 x5) rfl; have f5 := hQ.cell (i := 5) (v := .int .i64 x6) rfl; clear bz))
                have HM2 := Lib.hid hMi
                have HB2 := Lib.hid hbi
                clear hMi hbi f0 f1 f2 f3 f4 f5 hQ z1 z2 z3 z4 z5 zz
                go_wp2_with fail
                go_roundw
                case rel => exact ⟨i + 1, by omega, by rw [HX.out, ← List.append_assoc, HT3.out]; simp only [ByteArray.mk_append_mk]; simp [FireV.nums, encI], by go_num, HM2.out, HB2.out⟩
                case measure => simp [intOf]; omega
              · obtain rfl : i = fires.length := by omega
                have ma := hMi.cell (i := 26) (v := .slice ua fires.length uc) rfl
                have HM2 := Lib.hid hMi
                have HB2 := Lib.hid hbi
                clear hMi hbi
                go_wp2_with fail
                go_roundw
                case rel => exact ⟨j + 1, by omega, by rw [HS.out, ← hMM.out, List.take_length, HT2.out, List.append_assoc]; rfl, by go_num, HM2.out, HB2.out⟩
                case measure => simp [intOf]; omega
      · obtain rfl : j = Fs.length := by omega
        rw [List.take_length, ← HTX.out]
        have hTl : (textOf M).length ≤ 1000000 := by
          have h1 := HFL.out Fs
          rw [HTX.out, List.length_append]
          omega
        have HB2 := Lib.hid hbr
        clear hbr hMr
        go_wp2_with fail
        refine (qframe_any _ hTl _).mono ?_
        rintro en w9 ⟨rfl, b9⟩
        have hb9 := below_step HB2.out b9
        go_wp2_with fail
        go_ret
        exact ⟨rfl, hb9⟩
theorem qwprint_any {w : World} {M : MsgV} {v : Value} (hv : M.At w v) (hok : MOk M) (hs : MSmall M) (hf8 : M.fires.length ≤ 8) (hk : 1 ≤ M.kind ∧ M.kind ≤ 15) :
    Calls Tryz.prog 9 #[v] w fun en w' => en = .returned (.string ⟨(frame (textOf M)).toArray⟩) ∧ Below w.heap.size w w' := by
  have hop := hok.op.1
  obtain ⟨v1, v2, rfl, ⟨va, vc, rfl, hc⟩, ⟨ua, uc, rfl, hf⟩⟩ := hv
  obtain ⟨k, dst, fn, fl, ep, seq, req, cl, id, un, flag, op, re, rg, rd, cf, fires, life⟩ := M
  obtain ⟨ok, ov, oc⟩ := op
  obtain ⟨a1, a2, a3, a4, a5, a6, a7, a8, rfl⟩ := list8 hop
  obtain ⟨ce, ch⟩ := cf
  exact qwprint_lit ⟨va, vc, rfl, hc⟩ ⟨ua, uc, rfl, hf⟩ hk hf8 rfl hok hs
end Go.Proofs.YtagmlgeoefemfaaGreat
