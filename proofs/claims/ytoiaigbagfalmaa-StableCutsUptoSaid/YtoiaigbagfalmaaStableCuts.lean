/- StableCuts, where what it reads is of bulk at most 1048576: for every row of texts and every number the law answers true. -/
import Derived.Test.YtoiaigbagfalmaaStableScans
import Derived.Test.YtoiaigbagfalmaaStKeep
import Derived.Test.YtoiaigbagfalmaaBytes
import Derived.JoinedCond
namespace Go.Proofs.Ytoiaigbagfalmaa
open Go.RowKit Go.ChangeShapes Go.WideShapes Go.Joins Go.Deep
set_option linter.unusedVariables false

theorem bulk_one {H : Type} (d : DataW H) : 1 ≤ Rows.uptoBulk d := by
  cases d with
  | lit l => cases l <;> simp [Rows.uptoBulk]
  | nil => simp [Rows.uptoBulk]
  | ptr d => simp [Rows.uptoBulk]
  | slice elems spare => simp [Rows.uptoBulk]
  | agg parts => simp [Rows.uptoBulk]
  | iface t d => simp [Rows.uptoBulk]
  | map entries => simp [Rows.uptoBulk]
  | held h => simp [Rows.uptoBulk]
theorem bulk_len {H : Type} (l : List (DataW H)) : l.length ≤ Rows.uptoBulkAll l := by
  induction l with
  | nil => simp [Rows.uptoBulkAll]
  | cons x r ih => have := bulk_one x; simp only [Rows.uptoBulkAll, List.length_cons]; omega
set_option maxRecDepth 100000 in
theorem strs_bulk {H : Type} {enc : TypeId × Value → H} {W : World} {d : DataW H} {p : List MemPlace} {a : Option Addr} {len cap : Nat}
    (h : DataW.Trod enc Try.prog W 0 (fun _ => true) true 23 (.slice a len cap) d p) : len ≤ cap ∧ len ≤ Rows.uptoBulk d := by
  obtain ⟨fuel, hf⟩ := h
  rcases open_slice Try.underlying23 hf with ⟨hcs, _⟩ | ⟨a', len', cap', m, n, D, Pl, hcs, _, hl, hm, hmm, hx, hi⟩
  · simp [Value.cells] at hcs
    omega
  · simp [Value.cells] at hcs
    obtain ⟨_, rfl, rfl⟩ := hcs
    refine ⟨hl, ?_⟩
    have hd : d = _ := congrArg Prod.fst hx
    rw [hd]
    have := bulk_len ((List.range len).map D)
    simp only [Rows.uptoBulk, List.length_map, List.length_range] at this ⊢
    omega
theorem recs_each {L : List (List UInt8)} (h : ∀ t ∈ L, t.length ≤ 500) : (recs L).length ≤ 514 * L.length := by
  induction L with
  | nil => simp [recs]
  | cons a L ih =>
    rw [recs_cons, List.length_append, List.length_cons]
    have h1 := bytesS_len a
    have h2 := encS_len a
    have h3 := h a (List.mem_cons_self ..)
    have := ih fun t ht => h t (List.mem_cons_of_mem _ ht)
    omega
theorem StrsV.takeV {w : World} {a : Option Addr} {cap k : Nat} {L : List (List UInt8)} (h : StrsV w (.slice a L.length cap) L) (hk : k ≤ L.length) : StrsV w (.slice a k cap) (L.take k) := by
  obtain ⟨a', c', hq, hl, hs⟩ := h
  cases hq
  have hlen : (L.take k).length = k := by rw [List.length_take]; omega
  refine ⟨a, cap, by rw [hlen], by omega, fun hp => ?_⟩
  obtain ⟨b, off, ha, hlt, hc⟩ := hs (by omega)
  refine ⟨b, off, ha, hlt, fun i l hi => hc i l ?_⟩
  rw [List.getElem?_take] at hi
  split at hi
  · exact hi
  · cases hi

set_option maxRecDepth 100000 in
set_option maxHeartbeats 4000000 in

theorem StableCuts_go {w : World} {a : Option Addr} {cap : Nat} {L : List (List UInt8)} (n : Int) (hL : StrRow w a L) (hLc : L.length ≤ cap) (hLb : L.length ≤ 1048576) :
    Calls Try.prog 4 #[.slice a L.length cap, .int .i64 n] w fun e w' => e = .returned (.bool true) ∧ Below w.heap.size w w' := by
  have hv0 : StrsV w (.slice a L.length cap) L := StrsV.of_row hL
  have hLs := hL.2.1
  go_enter Try.func4, Try.ntmps4
  go_wp2_with fail
  go_loopw [5, 14] (fun t i wr => ∃ k : Nat, k ≤ L.length ∧ i = .int .i64 k ∧ t = .string ⟨(recs (L.take k)).toArray⟩ ∧ Below w.heap.size w wr ∧ Aside (∀ x ∈ L.take k, x.length ≤ 500)) (fun _ i _ => L.length - (intOf i).toNat)
  case atStart => exact ⟨0, Nat.zero_le _, rfl, rfl, Below.refl _ _, by intro x hx; simp at hx⟩
  case round =>
    obtain ⟨k, hk, rfl, rfl, hb, HA⟩ := hrel
    have hv := hv0.below hb
    by_cases hlt : k < L.length
    · obtain ⟨t, ht⟩ : ∃ t, L[k]? = some t := ⟨_, List.getElem?_eq_getElem hlt⟩
      obtain ⟨b1, o1, rfl, hc⟩ : ∃ b off, a = some ⟨b, off, none⟩ ∧ ∀ i l, L[i]? = some l → wr.cell? ⟨b, off + i, none⟩ = some (.string ⟨l.toArray⟩) := by
        obtain ⟨a', c', hq, _, hs⟩ := hv
        cases hq
        obtain ⟨b, off, h, _, h3⟩ := hs (by omega)
        exact ⟨b, off, h, h3⟩
      have c1 := hc k t ht
      have HTT := Lib.hid ht
      clear ht hc
      by_cases h5 : 500 < t.length
      · have h5' : (500 : Int) < (t.length : Int) := by omega
        go_wp2_with fail
        go_ret
        exact ⟨rfl, hb⟩
      · have h5' : ¬ (500 : Int) < (t.length : Int) := by omega
        have ht := HTT.out
        have HR := Lib.hid (recs_take ht)
        have hl1 := recs_each HA.out
        have hl2 := bytesS_len t
        have hl3 := encS_len t
        rw [List.length_take] at hl1
        have HS : Hid ((recs (L.take k)).length + (bytesS t).length ≤ 1000000000) := by
          show (recs (L.take k)).length + (bytesS t).length ≤ 1000000000
          omega
        have HN : Hid (∀ x ∈ L.take (k + 1), x.length ≤ 500) := by
          show ∀ x ∈ L.take (k + 1), x.length ≤ 500
          intro x hx
          rw [List.take_add_one, ht] at hx
          rcases List.mem_append.1 hx with hx | hx
          · exact HA.out x hx
          · have : x = t := by simpa using hx
            rw [this]; omega
        clear ht hl1 hl2 hl3
        go_wp2_with fail
        refine (bytes_any t (by omega) _).mono ?_
        rintro e w4 ⟨rfl, b4⟩
        have hb := below_step hb b4
        clear b4 c1 hv
        have hsum : ¬ 9223372036854775807 < (recs (L.take k)).length + (bytesS t).length := by have := HS.out; omega
        have hcat : (⟨(recs (L.take k)).toArray⟩ : ByteArray) ++ ⟨(bytesS t).toArray⟩ = ⟨(recs (L.take (k + 1))).toArray⟩ := by rw [HR.out, ← ByteArray.mk_append_mk]
        generalize bytesS t = S at *
        generalize recs (L.take k) = R at *
        go_wp2_with fail
        go_roundw
        case rel => exact ⟨k + 1, by omega, by go_num, by first | rfl | (rw [hcat]), hb, HN.out⟩
        case measure => simp [intOf]; omega
    · obtain rfl : k = L.length := by omega
      have HA := HA.out
      rw [List.take_length] at HA ⊢
      have hl1 := recs_each HA
      have hsm : ∀ x ∈ L, x.length ≤ 1000000 := fun x hx => by have := HA x hx; omega
      go_wp2_with fail
      refine (awake_any _).mono ?_
      rintro e w5 ⟨rfl, b5⟩
      have hv := hv.below b5
      have hb := below_step hb b5
      clear b5
      by_cases h30 : L.length ≤ 30
      · have h30' : ¬ (30 : Int) < (L.length : Int) := by omega
        have hrl : (recs L).length ≤ 15420 := by omega
        rcases Nat.eq_zero_or_pos (recs L).length with h0 | hpos
        · have h0' : (((recs L).length : Int) == 0) = true := by simp [h0]
          have HZ := Lib.hid h0
          clear h0 hl1 hrl
          generalize recs L = R at *
          go_wp2_with fail
          refine (awake_any _).mono ?_
          rintro e w6 ⟨rfl, b6⟩
          have hb := below_step hb b6
          go_wp2_with fail
          go_ret
          exact ⟨rfl, hb⟩
        · have h0' : (((recs L).length : Int) == 0) = false := by rw [beq_eq_false_iff_ne]; omega
          obtain ⟨j, hj, hjl⟩ := place_mod n (recs L).length hpos (by omega)
          have hall := scan_all L hsm
          obtain ⟨hc1, hc2⟩ := cut_scan L hsm (by omega) hjl
          have hx := take_eq (recs L) j
          have HALL := Lib.hid hall
          have HC1 := Lib.hid hc1
          have hR : (recs L).length ≤ 1000000 := by omega
          have htl : ((recs L).take j).length ≤ 1000000 := by rw [List.length_take]; omega
          clear hall hc1 hl1 hrl
          generalize recs L = R at *
          go_wp2_with fail
          refine (scan_any R hR _).mono ?_
          rintro e w6 ⟨ax, cx, rfl, hxs, b6⟩
          have hv := hv.below b6
          have hb := below_step hb b6
          rw [HALL.out] at hxs ⊢
          simp only at hxs ⊢
          clear b6
          have HJ := Lib.hid hj
          clear hj
          have hj0 : (j : Int) ≤ (R.length : Int) := by omega
          have hRp : (0 : Int) < (R.length : Int) := by omega
          have hRi : (R.length : Int) ≤ 1000000 := by omega
          have hj := HJ.out
          go_wp2_with fail
          clear hj
          refine (scan_any (R.take j) htl _).mono ?_
          rintro e w7 ⟨ay, cy, rfl, hys, b7⟩
          have hv := hv.below b7
          have hxv := (hxs.below b7).v
          have hyv := hys.v
          have hb := below_step hb b7
          clear b7 hxs hys
          have hsub := HC1.out
          have hlt2 := hc2
          generalize (scanS (R.take j)).2 = m at *
          generalize (scanS (R.take j)).1 = A at *
          have HSUB := Lib.hid hsub
          have hA1 : (A.length : Int) < (L.length : Int) := by omega
          have hA2 : (A.length : Int) ≤ (cap : Int) := by omega
          have hA3 : A.length ≤ L.length := by omega
          clear hsub hlt2 hc2
          go_wp2_with fail
          refine (same_any (by exact hxv) (by exact hv)).mono ?_
          rintro e w8 ⟨rfl, b8⟩
          have hv := hv.below b8
          have hyv := hyv.below b8
          have hb := below_step hb b8
          rw [show decide (L = L) = true by simp]
          clear b8 hxv
          go_wp2_with fail
          refine (same_any (by exact hyv) (by exact hv.takeV hA3)).mono ?_
          rintro e w9 ⟨rfl, b9⟩
          have hb := below_step hb b9
          rw [decide_eq_true HSUB.out]
          go_wp2_with fail
          go_ret
          exact ⟨rfl, hb⟩
      · have h30' : (30 : Int) < (L.length : Int) := by omega
        have HZ := Lib.hid hl1
        clear hl1
        generalize recs L = R at *
        go_wp2_with fail
        refine (awake_any _).mono ?_
        rintro e w6 ⟨rfl, b6⟩
        have hb := below_step hb b6
        go_wp2_with fail
        go_ret
        exact ⟨rfl, hb⟩

set_option maxRecDepth 100000 in
theorem StableCuts_calls (H : Type) (enc : TypeId × Value → H) (W : World) (base : Nat) (args : Array Value) (ds gs : List (DataW H)) (before : List MemPlace)
    (hval : ∀ (j : Nat) t v, Try.f4.params[j]? = some t → args[j]? = some v → Value.okWide Try.prog W .any base t v)
    (hW : DataW.Whole enc Try.prog Try.f4.params.toList Rows.stableCutsSpec.vars false W args.toList ds gs before) (hk : Rows.uptoSmall H (ds ++ gs) = true) :
    Calls Try.prog 4 args W fun e W' => e = .returned (.bool true) ∧ Below W.heap.size W W' := by
  obtain ⟨p, q, hA, hV, rfl, hfz, hnd⟩ := hW
  rw [Try.params4] at hA hval
  obtain ⟨v0, vs0, d0, ds0, p0, q0, hargs, rfl, rfl, h0, r0⟩ := trodAll_cons hA
  obtain ⟨v1, vs1, d1, ds1, p1, q1, rfl, rfl, rfl, h1, r1⟩ := trodAll_cons r0
  obtain ⟨rfl, rfl, rfl⟩ := trodAll_nil r1
  obtain rfl : args = #[v0, v1] := Array.toList_inj.1 hargs
  obtain ⟨x1, rfl, rfl, rfl, w1⟩ := open_int Try.underlying3 (hval 1 3 v1 rfl rfl) h1
  obtain ⟨a, L, cap, rfl, hL⟩ := open_strrow (hval 0 23 v0 rfl rfl) h0
  obtain ⟨hc, hbk⟩ := strs_bulk h0
  have hb : Rows.uptoBulkAll ([d0, _] ++ gs) ≤ 1048576 := of_decide_eq_true hk
  simp only [List.cons_append, Rows.uptoBulkAll] at hb
  exact StableCuts_go x1 hL hc (by omega)

set_option maxRecDepth 100000 in
theorem StableCuts_lifted (os : Os) (started : os.Started) (H : Type) (enc : TypeId × Value → H) (F : Stop.Interp) :
    ReturnsInHanded {} Try.checked os 4 .any ((Rows.OpenSpec.upto Rows.stableCutsSpec).pre6 enc Try.prog Try.f4 Rows.stableCutsUptoRow.domain false) (((Rows.OpenSpec.upto Rows.stableCutsSpec).at F).post enc Try.prog Try.f4 false true false false) := by
  refine returnsInHanded_of_cond (C := Try.checked) (s := Rows.OpenSpec.upto Rows.stableCutsSpec) (k := Rows.uptoSmall) rfl own started (by kernel_rfl) Try.func4
    (OpenSpec.witness (enc := enc) (C := Try.checked) (s := Rows.OpenSpec.upto Rows.stableCutsSpec) (k := Rows.uptoSmall) rfl false ⟨#[], #[.slice none 0 0, .int .i64 0], []⟩ 8 (by kernel_rfl) (by kernel_rfl) (by kernel_rfl)
      (x := ([.nil, .lit (.int .i64 0)], [], [])) (by kernel_rfl) rfl (by kernel_rfl)) ?_
  intro W base args ds gs before hval0 hW _ hk _
  have hval : ∀ (j : Nat) t v, Try.f4.params[j]? = some t → args[j]? = some v → Value.okWide Try.prog W .any base t v := hval0
  refine (StableCuts_calls H enc W base args ds gs before hval hW hk).mono fun e W' ⟨he, bel⟩ => ?_
  exact ⟨_, he, law_post (ts := [23, 3]) (by rw [Try.params4]) (by intro t ht; simp only [List.mem_cons, List.not_mem_nil, or_false] at ht; rcases ht with rfl | rfl <;> exact ⟨by kernel_rfl, of_decide_eq_true (by kernel_rfl)⟩) hW rfl
    (fun ds h => by match ds, h with | [_, _], _ => rfl) (by kernel_rfl) bel⟩

/-- The statement. -/
theorem StableCuts_proved : Rows.StableCutsUptoSaid :=
  OpenClaim.holds_of_cond 4 Try.f4 rfl rfl rfl rfl rfl rfl rfl ⟨rfl, rfl, rfl, rfl, rfl⟩ rfl rfl rfl rfl rfl (by kernel_rfl) Try.func4 (by kernel_rfl)
    (of_decide_eq_true (by kernel_rfl)) (by unfold Func.isWrapper; first | (rw [if_pos (by decide +kernel)]; kernel_rfl) | (rw [if_neg (by decide +kernel)]; exact ⟨rfl, rfl⟩))
    (fun os started H enc _ F => StableCuts_lifted os started H enc F)
end Go.Proofs.Ytoiaigbagfalmaa
