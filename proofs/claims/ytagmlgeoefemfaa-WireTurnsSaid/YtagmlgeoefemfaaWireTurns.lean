/- WireTurns: for every message, place and byte the law answers true. No condition. -/
import Derived.Test.YtagmlgeoefemfaaWireFew
import Derived.Test.YtagmlgeoefemfaaKCodec
import Derived.Deep.DeepCutAuto
namespace Go.Proofs.Ytagmlgeoefemfaa
open Go.RowKit Go.ChangeShapes Go.WideShapes Go.Joins Go.Deep
set_option linter.unusedVariables false

theorem printM_ok {M : MsgV} {p : List UInt8} (h : printM M = (p, 0)) : mayW M = true ∧ p = frame (textOf M) ∧ p.length ≤ 1024 := by
  unfold printM at h
  split at h
  · rename_i hm
    split at h
    · simp at h
    · simp only [Prod.mk.injEq, and_true] at h
      subst h
      exact ⟨hm, rfl, by omega⟩
  · simp at h
theorem readM_torn {s : List UInt8} (hs : s.length ≤ 1024) (h : whole s = false) : readM s = (msgZero, 3) := by
  have h2 : rawM s = (msgZero, false) := by rw [rawM, h]; rfl
  rw [readM, if_neg (by omega), h2]
  rfl

set_option maxRecDepth 100000 in
set_option maxHeartbeats 2000000 in

theorem WireTurns_go {w : World} {M : MsgV} {v : Value} (hv : M.At w v) (hok : MOk M) {at_ : Int} (ha : W64 at_) (c : UInt8) :
    Calls Try.prog 3 #[v, .int .i64 at_, .int .u8 (c.toNat : Int)] w fun e w' => e = .returned (.bool true) ∧ Below w.heap.size w w' := by
  obtain ⟨cs, rfl, hlen, hone, hA⟩ := At.parts hv hok.op.1
  clear hv hone
  have hM := BlkAt.new w 34 cs
  have hb := (Below.refl w.heap.size w).alloc (Nat.le_refl _) (.cells cs.toArray 34)
  have hA1 := hA.below hb
  go_enter Try.func3, Try.ntmps3
  go_upto_region 1 with (fail)
  change Code.wp _ _ _ _ (w.alloc (.cells cs.toArray 34))
  change BlkAt (w.alloc (.cells cs.toArray 34)) _ _ _ at hM
  generalize w.alloc (.cells cs.toArray 34) = W at *
  obtain ⟨m, hm⟩ : ∃ m, m = w.heap.size := ⟨_, rfl⟩
  rw [← hm] at hM ⊢
  clear hm hA
  go_wp2_with fail
  refine (awake_any _).mono ?_
  rintro en w1 ⟨rfl, b1⟩
  have hM1 := hM.below b1
  have hA := hA1.below b1
  have hb1 := below_step hb b1
  clear hM hA1 hb b1
  cases hf : fewM M with
  | false =>
    have HF := Lib.hid hf
    clear hf
    go_wp2_with (refine wpList_load_want (by rfl) 34 (.tmp 3) rfl m 0 rfl cs _ hM1.range Try.underlying34 rfl (by rw [hlen]; exact msg_info) ?_; simp only [Act.put, List.setIfInBounds_toArray, List.set_cons_zero, List.set_cons_succ])
    refine (qfew_any (by exact hA) hok.op HF.out).mono ?_
    rintro en w2 ⟨rfl, b2⟩
    have hb2 := below_step hb1 b2
    clear hM1 hA hb1 b2
    go_wp2_with fail
    refine (awake_any _).mono ?_
    rintro en w3 ⟨rfl, b3⟩
    have hb3 := below_step hb2 b3
    go_wp2_with fail
    go_ret
    exact ⟨rfl, hb3⟩
  | true =>
    have HF := Lib.hid hf
    have hfew := fewM_iff.1 hf
    clear hf
    go_wp2_with (refine wpList_load_want (by rfl) 34 (.tmp 3) rfl m 0 rfl cs _ hM1.range Try.underlying34 rfl (by rw [hlen]; exact msg_info) ?_; simp only [Act.put, List.setIfInBounds_toArray, List.set_cons_zero, List.set_cons_succ])
    refine (qfew_any (by exact hA) hok.op HF.out).mono ?_
    rintro en w2 ⟨rfl, b2⟩
    have hM2 := hM1.below b2
    have hA2 := hA.below b2
    have hb2 := below_step hb1 b2
    clear hM1 hA hb1 b2
    obtain ⟨p, x, hp⟩ : ∃ p x, printM M = (p, x) := ⟨_, _, rfl⟩
    have HP := Lib.hid hp
    clear hp
    go_wp2_with (refine wpList_load_mid rfl 34 (.tmp 3) rfl m 0 rfl cs _ hM2.range Try.underlying34 rfl (by rw [hlen]; exact msg_info) ?_; simp only [Act.put, List.setIfInBounds_toArray, List.set_cons_zero, List.set_cons_succ])
    refine (wprint_any (by exact hA2) hok (by omega) (by omega) HP.out).mono ?_
    rintro en w3 ⟨rfl, b3⟩
    have hb3 := below_step hb2 b3
    clear hM2 hA2 hb2 b3 hfew
    by_cases hx : x = 0
    · subst hx
      by_cases h0 : c = 0
      · subst h0
        go_wp2_with fail
        go_ret
        exact ⟨rfl, hb3⟩
      · obtain ⟨hmay, hpf, hpl⟩ := printM_ok HP.out
        have hp0 : 0 < p.length := by rw [hpf, frame_len]; omega
        have HPF := Lib.hid hpf
        clear hmay hpf
        have hcz : ((c.toNat : Int) == 0) = false := by
          have : c.toNat ≠ 0 := fun h => h0 (byte_zero.2 (by omega))
          simp; omega
        have HC0 := Lib.hid h0
        clear h0
        obtain ⟨cap, zs, hcv⟩ := bytes_of p w3
        have hB := ByAt.made' p zs 5 w3
        have hb5 := below_drewN (hb3.alloc hb3.size (.cells (bcells (p ++ zs)).toArray 5 (p.length + zs.length, p.length + zs.length + 1))) 1
        have hBw : w.heap.size ≤ w3.heap.size := hb3.size
        obtain ⟨j, hj, hjlt⟩ := place_mod at_ p.length hp0 (by omega)
        have HJ := Lib.hid hj
        clear hj hb3
        go_upto_region 8 with (fail)
        change Below w.heap.size w (w3.alloc _).drew at hb5
        generalize (w3.alloc (.cells (bcells (p ++ zs)).toArray 5 (p.length + zs.length, p.length + zs.length + 1))).drew = W5 at *
        generalize w3.heap.size = B at *
        clear hcv
        obtain ⟨d, hd⟩ : ∃ d, p[j]? = some d := ⟨_, List.getElem?_eq_getElem hjlt⟩
        have hc := hB.cell hd
        have hf := hB.free hjlt
        have hcv := hB.turned hjlt d c cap
        have HD := Lib.hid hd
        clear hd hB
        have hj := HJ.out
        have hjl : (j : Int) < p.length := by omega
        have hz := hb5.setCell (p := ⟨B, j, none⟩) hBw (.int .u8 (bits .xor .u8 (d.toNat : Int) (c.toNat : Int)))
        have HG : Hid (readM (p.set j (d ^^^ c)) = (msgZero, 3)) := Lib.hid (by
          obtain ⟨h1, hd⟩ := List.getElem?_eq_some_iff.1 HD.out
          have hpf := HPF.out
          subst hpf
          exact readM_torn (by rw [List.length_set]; exact hpl) (whole_set _ h1 (by rw [hd]; exact xor_ne HC0.out)))
        generalize p.set j (d ^^^ c) = G at *
        go_wp2_with fail
        refine (wread_any HG.out).mono ?_
        rintro en w6 ⟨v, rfl, hF, b6⟩
        have hb6 := hz.trans (b6.mono hz.size)
        clear hcv hc hf b6 hz hb5 hj
        obtain ⟨es, rfl, hlen2, hone2, hF2⟩ := From.parts hF rfl
        clear hF hF2
        have hX := BlkAt.new w6 34 [.int .i64 0, .int .i64 0, .int .i64 0, .int .i64 0, .int .i64 0, .int .i64 0, .int .i64 0, .int .i64 0, .int .i64 0, .int .i64 0, .bool false, .int .i64 0, .int .i64 0, .int .i64 0, .int .i64 0, .int .i64 0, .int .i64 0, .int .i64 0, .int .i64 0, .int .i64 0, .string ⟨#[]⟩, .int .i64 0, .int .i64 0, .int .i64 0, .int .i64 0, .slice none 0 0, .slice none 0 0, .int .i64 0]
        have HL1 := Lib.hid (show es.length = ([.int .i64 0, .int .i64 0, .int .i64 0, .int .i64 0, .int .i64 0, .int .i64 0, .int .i64 0, .int .i64 0, .int .i64 0, .int .i64 0, .bool false, .int .i64 0, .int .i64 0, .int .i64 0, .int .i64 0, .int .i64 0, .int .i64 0, .int .i64 0, .int .i64 0, .int .i64 0, .string ⟨#[]⟩, .int .i64 0, .int .i64 0, .int .i64 0, .int .i64 0, .slice none 0 0, .slice none 0 0, .int .i64 0] : List Value).length by rw [hlen2]; rfl)
        have b4 := (Below.refl w6.heap.size w6).alloc (Nat.le_refl _) (.cells #[.int .i64 0, .int .i64 0, .int .i64 0, .int .i64 0, .int .i64 0, .int .i64 0, .int .i64 0, .int .i64 0, .int .i64 0, .int .i64 0, .bool false, .int .i64 0, .int .i64 0, .int .i64 0, .int .i64 0, .int .i64 0, .int .i64 0, .int .i64 0, .int .i64 0, .int .i64 0, .string ⟨#[]⟩, .int .i64 0, .int .i64 0, .int .i64 0, .int .i64 0, .slice none 0 0, .slice none 0 0, .int .i64 0] 34)
        have G4 := grown_setCells w6.heap.size es 0 (w6.alloc (.cells #[.int .i64 0, .int .i64 0, .int .i64 0, .int .i64 0, .int .i64 0, .int .i64 0, .int .i64 0, .int .i64 0, .int .i64 0, .int .i64 0, .bool false, .int .i64 0, .int .i64 0, .int .i64 0, .int .i64 0, .int .i64 0, .int .i64 0, .int .i64 0, .int .i64 0, .int .i64 0, .string ⟨#[]⟩, .int .i64 0, .int .i64 0, .int .i64 0, .int .i64 0, .slice none 0 0, .slice none 0 0, .int .i64 0] 34))
        have b5 := b4.grown G4 b4.size (by intro j hj; cases hj; exact Nat.le_refl _)
        have hY7n := hX.stored (vs := es) HL1.out
        have HT := Lib.hid (blk_there2 hX HL1.out)
        have hb6n := below_step hb6 b5
        clear hb6
        have hb6 := hb6n
        clear hb6n
        clear hX b4 G4 b5 HL1
        go_upto_region 10 with (first | (refine wpList_store_mid rfl 34 (.tmp 11) (.tmp 52) rfl w6.heap.size 0 es.toArray rfl rfl (by exact HT.out) (by rw [List.size_toArray, hlen2]; exact msg_info) hone2 ?_; rw [List.toList_toArray]))
        change Code.wp _ _ _ _ ((w6.alloc (.cells #[.int .i64 0, .int .i64 0, .int .i64 0, .int .i64 0, .int .i64 0, .int .i64 0, .int .i64 0, .int .i64 0, .int .i64 0, .int .i64 0, .bool false, .int .i64 0, .int .i64 0, .int .i64 0, .int .i64 0, .int .i64 0, .int .i64 0, .int .i64 0, .int .i64 0, .int .i64 0, .string ⟨#[]⟩, .int .i64 0, .int .i64 0, .int .i64 0, .int .i64 0, .slice none 0 0, .slice none 0 0, .int .i64 0] 34)).setCells w6.heap.size 0 es)
        generalize (w6.alloc (.cells #[.int .i64 0, .int .i64 0, .int .i64 0, .int .i64 0, .int .i64 0, .int .i64 0, .int .i64 0, .int .i64 0, .int .i64 0, .int .i64 0, .bool false, .int .i64 0, .int .i64 0, .int .i64 0, .int .i64 0, .int .i64 0, .int .i64 0, .int .i64 0, .int .i64 0, .int .i64 0, .string ⟨#[]⟩, .int .i64 0, .int .i64 0, .int .i64 0, .int .i64 0, .slice none 0 0, .slice none 0 0, .int .i64 0] 34)).setCells w6.heap.size 0 es = W7 at *
        have hY7 := hY7n
        clear hY7n HT
        obtain ⟨y, hLL⟩ : ∃ q, q = w6.heap.size := ⟨_, rfl⟩
        rw [← hLL] at hY7 ⊢
        clear hLL
        clear hY7
        go_wp2_with fail
        go_ret
        exact ⟨rfl, hb6⟩
    · have hxz : (x != 0) = true := by simpa using hx
      go_wp2_with fail
      go_ret
      exact ⟨rfl, hb3⟩
set_option maxRecDepth 100000 in
theorem WireTurns_walk {H : Type} {enc : TypeId × Value → H} {base : Nat} {d : DataW H} {p : List MemPlace} (v : Value) (at_ c : Int) (w : World) (hv : Value.okWide Try.prog w .any base 34 v) (ht : DataW.Trod enc Try.prog w 0 (fun _ => true) true 34 v d p) (ha : W64 at_) (hc : (Lit.int .u8 c).wf = true) :
    Calls Try.prog 3 #[v, .int .i64 at_, .int .u8 c] w fun e w' => e = .returned (.bool true) ∧ Below w.heap.size w w' := by
  obtain ⟨M, hok, hA⟩ := open_msg hv ht
  obtain ⟨c, rfl⟩ := u8_byte hc
  exact WireTurns_go hA hok ha c


set_option maxRecDepth 100000 in
theorem WireTurns_calls (H : Type) (enc : TypeId × Value → H) (W : World) (base : Nat) (args : Array Value) (ds gs : List (DataW H)) (before : List MemPlace)
    (hval : ∀ (j : Nat) t v, Try.f3.params[j]? = some t → args[j]? = some v → Value.okWide Try.prog W .any base t v)
    (hW : DataW.Whole enc Try.prog Try.f3.params.toList Rows.wireTurnsSpec.vars false W args.toList ds gs before) :
    Calls Try.prog 3 args W fun e W' => e = .returned (.bool true) ∧ Below W.heap.size W W' := by
  obtain ⟨p, q, hA, hV, rfl, hfz, hnd⟩ := hW
  rw [Try.params3] at hA hval
  obtain ⟨v0, vs0, d0, ds0, p0, q0, hargs, rfl, rfl, h0, r0⟩ := trodAll_cons hA
  obtain ⟨v1, vs1, d1, ds1, p1, q1, rfl, rfl, rfl, h1, r1⟩ := trodAll_cons r0
  obtain ⟨v2, vs2, d2, ds2, p2, q2, rfl, rfl, rfl, h2, r2⟩ := trodAll_cons r1
  obtain ⟨rfl, rfl, rfl⟩ := trodAll_nil r2
  obtain rfl : args = #[v0, v1, v2] := Array.toList_inj.1 hargs
  obtain ⟨x1, rfl, rfl, rfl, w1⟩ := open_int Try.underlying3 (hval 1 3 v1 rfl rfl) h1
  obtain ⟨x2, rfl, rfl, rfl, w2⟩ := open_int Try.underlying5 (hval 2 5 v2 rfl rfl) h2
  exact WireTurns_walk v0 x1 x2 W (hval 0 34 v0 rfl rfl) h0 w1 w2

set_option maxRecDepth 100000 in
theorem WireTurns_lifted (os : Os) (started : os.Started) (H : Type) (enc : TypeId × Value → H) :
    ReturnsInHanded {} Try.checked os 3 .any (Rows.wireTurnsSpec.pre6 enc Try.prog Try.f3 Rows.wireTurnsRow.domain false) (Rows.wireTurnsSpec.post enc Try.prog Try.f3 false true false false) := by
  refine returnsInHanded_of_change (C := Try.checked) own started (by kernel_rfl) Try.func3
    (ChangeSpec.witness6 (enc := enc) (C := Try.checked) false ⟨#[], #[.agg #[.int .i64 0, .int .i64 0, .int .i64 0, .int .i64 0, .int .i64 0, .int .i64 0, .int .i64 0, .int .i64 0, .int .i64 0, .int .i64 0, .bool false, .int .i64 0, .int .i64 0, .int .i64 0, .int .i64 0, .int .i64 0, .int .i64 0, .int .i64 0, .int .i64 0, .int .i64 0, .string ByteArray.empty, .int .i64 0, .int .i64 0, .int .i64 0, .int .i64 0, .slice none 0 0, .slice none 0 0, .int .i64 0], .int .i64 0, .int .u8 0], []⟩ 8 (by kernel_rfl) (by kernel_rfl) (by kernel_rfl) (by kernel_rfl)) ?_
  intro W base args ds gs before hval0 hW hcnd _
  have hval : ∀ (j : Nat) t v, Try.f3.params[j]? = some t → args[j]? = some v → Value.okWide Try.prog W .any base t v := hval0
  refine (WireTurns_calls H enc W base args ds gs before hval hW).mono fun e W' ⟨he, bel⟩ => ?_
  exact ⟨_, he, law_post (ts := [34, 3, 5]) (by rw [Try.params3]) (by intro t ht; simp only [List.mem_cons, List.not_mem_nil, or_false] at ht; rcases ht with rfl | rfl | rfl <;> exact ⟨by kernel_rfl, of_decide_eq_true (by kernel_rfl)⟩) hW rfl
    (fun ds h => by match ds, h with | [_, _, _], _ => rfl) (by kernel_rfl) bel⟩

theorem WireTurns_over : Rows.wireTurnsRow.holds Try.pinned (OpenSpec.ofChange Rows.wireTurnsSpec) :=
  OpenClaim.holds_of_wide 3 Try.f3 rfl rfl rfl rfl rfl rfl rfl ⟨rfl, rfl, rfl, rfl, rfl⟩ rfl rfl rfl rfl rfl (by kernel_rfl) Try.func3 (by kernel_rfl)
    (of_decide_eq_true (by kernel_rfl)) (by unfold Func.isWrapper; first | (rw [if_pos (by decide +kernel)]; kernel_rfl) | (rw [if_neg (by decide +kernel)]; exact ⟨rfl, rfl⟩))
    (fun os started H enc _ => WireTurns_lifted os started H enc)

/-- The statement. -/
theorem WireTurns_proved : Rows.WireTurnsSaid := WireTurns_over

end Go.Proofs.Ytagmlgeoefemfaa
