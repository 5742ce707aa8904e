/- CrcSums: for every list of texts the law answers true. No condition. -/
import Derived.Test.YtpjaodbhjhgppaaCrcAwake
import Derived.Test.YtpjaodbhjhgppaaStrRow
namespace Go.Proofs.Ytpjaodbhjhgppaa
open Go.RowKit Go.ChangeShapes Go.WideShapes Go.Joins Go.Deep
open Go.ChangeMaps (open_string shut_string)
set_option linter.unusedVariables false

theorem made_ok {w : World} {b : Nat} {m : Int} (h : TabOk w b m) : Calls Try.prog 10 #[.pointer (some ⟨b, 0, none⟩)] w fun e w' => e = .returned (.int .i64 m) ∧ w = w' := by
  rcases h with ⟨rfl, f, h⟩ | ⟨rfl, h⟩
  · exact made_any h
  · exact made_any h
theorem TabOk.below {w w' : World} {b : Nat} {m : Int} (h : TabOk w b m) (hb : Below w.heap.size w w') : TabOk w' b m := by
  rcases h with ⟨rfl, f, h⟩ | ⟨rfl, h⟩
  · exact .inl ⟨rfl, f, h.below hb⟩
  · exact .inr ⟨rfl, h.below hb⟩
theorem TabOk.lt {w : World} {b : Nat} {m : Int} (h : TabOk w b m) : b < w.heap.size := by
  rcases h with ⟨rfl, f, h⟩ | ⟨rfl, h⟩
  · exact h.lt
  · exact h.lt

set_option maxRecDepth 100000 in
set_option maxHeartbeats 1000000 in
theorem CrcSums_in (L : List (List UInt8)) (a : Option Addr) (cap : Nat) (w : World) (hlen : L.length ≤ 50) (hrow : StrRow w a L) :
    Calls Try.prog 3 #[.slice a L.length cap] w fun e w' => e = .returned (.bool true) ∧ Below w.heap.size w w' := by
  obtain ⟨_, hls, hcells⟩ := hrow
  have HLS := Lib.hid hls
  clear hls
  go_enter Try.func3, Try.ntmps3
  go_wp2_with fail
  refine (awake_any _).mono ?_
  rintro e w1 ⟨rfl, b1⟩
  go_wp2_with fail
  refine (new_any _).mono ?_
  rintro e w2 ⟨rfl, hT, b2⟩
  have hb2 := b1.trans (b2.mono b1.size)
  have hbw : w.heap.size ≤ w1.heap.size := b1.size
  generalize w1.heap.size = b at *
  clear b1 b2
  go_wp2_with fail
  go_loopw [17] (fun i wr => ∃ k : Nat, k ≤ L.length ∧ i = .int .i64 k ∧ TabOk wr b (if k = 0 then 0 else 1) ∧ Below w.heap.size w wr) (fun i _ => L.length - (intOf i).toNat)
  case atStart => exact ⟨0, Nat.zero_le _, rfl, .inl ⟨rfl, _, hT⟩, hb2⟩
  case round =>
    obtain ⟨k, hk, rfl, hT, hbk⟩ := hrel
    by_cases hlt : k < L.length
    · obtain ⟨ab, off, rfl, hab, hcell⟩ := hcells (by omega)
      obtain ⟨l, hl⟩ : ∃ l, L[k]? = some l := ⟨_, List.getElem?_eq_getElem hlt⟩
      have c0 := (hbk.cell (p := ⟨ab, off + k, none⟩) hab).trans (hcell k l hl)
      have hll := HLS.out l (List.mem_of_getElem? hl)
      unfold maxLen at hll
      clear hcell hcells hl
      by_cases hbig : 1000 < l.length
      · go_wp2_with fail
        go_ret
        exact ⟨rfl, hbk⟩
      · have HT := Lib.hid hT
        clear hT
        go_wp2_with fail
        refine (made_ok (by exact HT.out)).mono ?_
        rintro e w' ⟨rfl, rfl⟩
        by_cases h0 : k = 0
        · have HT1 := Lib.hid (show TabOk wr b 0 by have := HT.out; rwa [if_pos h0] at this)
          rw [if_pos h0]
          subst h0
          clear c0
          obtain ⟨k', hk'⟩ : ∃ k', k' = 0 + 1 := ⟨_, rfl⟩
          have HK' := Lib.hid hk'
          clear hk'
          go_wp2_with fail
          refine (sum_any (by exact HT1.out) l (by omega)).mono ?_
          rintro e w3 ⟨rfl, hT3, g3⟩
          have hb3 := grown_below hbk g3 hbw
          go_wp2_with fail
          refine (qsum_any l (by omega) _).mono ?_
          rintro e w' ⟨rfl, rfl⟩
          go_wp2_with fail
          refine (made_any (by exact hT3)).mono ?_
          rintro e w' ⟨rfl, rfl⟩
          go_wp2_with fail
          go_roundw
          case rel => exact ⟨k', by have := HK'.out; omega, by rw [HK'.out]; go_num, .inr ⟨by rw [if_neg (by have := HK'.out; omega)], hT3⟩, hb3⟩
          case measure => simp [intOf]; omega
        · have HT1 := Lib.hid (show TabOk wr b 1 by have := HT.out; rwa [if_neg h0] at this)
          rw [if_neg h0]
          by_cases h1 : k = 1
          · subst h1
            clear c0 h0
            obtain ⟨k', hk'⟩ : ∃ k', k' = 1 + 1 := ⟨_, rfl⟩
            have HK' := Lib.hid hk'
            clear hk'
            go_wp2_with fail
            refine (sum_any (by exact HT1.out) l (by omega)).mono ?_
            rintro e w3 ⟨rfl, hT3, g3⟩
            have hb3 := grown_below hbk g3 hbw
            go_wp2_with fail
            refine (qsum_any l (by omega) _).mono ?_
            rintro e w' ⟨rfl, rfl⟩
            go_wp2_with fail
            refine (made_any (by exact hT3)).mono ?_
            rintro e w' ⟨rfl, rfl⟩
            go_wp2_with fail
            go_roundw
            case rel => exact ⟨k', by have := HK'.out; omega, by rw [HK'.out]; go_num, .inr ⟨by rw [if_neg (by have := HK'.out; omega)], hT3⟩, hb3⟩
            case measure => simp [intOf]; omega
          · have hk1 : (1 : Int) < k := by omega
            have H0 := Lib.hid h0
            clear h0
            obtain ⟨k', hk'⟩ : ∃ k', k' = k + 1 := ⟨_, rfl⟩
            have HK' := Lib.hid hk'
            clear hk'
            go_wp2_with fail
            refine (sum_any (by exact HT1.out) l (by omega)).mono ?_
            rintro e w3 ⟨rfl, hT3, g3⟩
            have hb3 := grown_below hbk g3 hbw
            go_wp2_with fail
            refine (qsum_any l (by omega) _).mono ?_
            rintro e w' ⟨rfl, rfl⟩
            go_wp2_with fail
            refine (made_any (by exact hT3)).mono ?_
            rintro e w' ⟨rfl, rfl⟩
            go_wp2_with fail
            go_roundw
            case rel => exact ⟨k', by have := HK'.out; omega, by rw [HK'.out]; go_num, .inr ⟨by rw [if_neg (by have := HK'.out; omega)], hT3⟩, hb3⟩
            case measure => simp [intOf]; omega
    · go_wp2_with fail
      go_ret
      exact ⟨rfl, hbk⟩

set_option maxRecDepth 100000 in
set_option maxHeartbeats 1000000 in
theorem CrcSums_out (L : List (List UInt8)) (a : Option Addr) (cap : Nat) (w : World) (hlen : L.length ≤ maxLen) (h : 50 < L.length) :
    Calls Try.prog 3 #[.slice a L.length cap] w fun e w' => e = .returned (.bool true) ∧ Below w.heap.size w w' := by
  unfold maxLen at hlen
  go_enter Try.func3, Try.ntmps3
  go_wp2_with fail
  refine (awake_any _).mono ?_
  rintro e w1 ⟨rfl, b1⟩
  go_wp2_with fail
  refine (awake_any _).mono ?_
  rintro e w2 ⟨rfl, b2⟩
  have hb2 := b1.trans (b2.mono b1.size)
  go_wp2_with fail
  go_ret
  exact ⟨rfl, hb2⟩

theorem CrcSums_walk {H : Type} {enc : TypeId × Value → H} {base : Nat} {d : DataW H} {p : List MemPlace} (v : Value) (w : World) (hv : Value.okWide Try.prog w .any base 22 v) (ht : DataW.Trod enc Try.prog w 0 (fun _ => true) true 22 v d p) :
    Calls Try.prog 3 #[v] w fun e w' => e = .returned (.bool true) ∧ Below w.heap.size w w' := by
  obtain ⟨a, L, cap, rfl, hz⟩ := open_strrow hv ht
  by_cases h : 50 < L.length
  · exact CrcSums_out L a cap w hz.1 h
  · exact CrcSums_in L a cap w (by omega) hz


theorem CrcSums_calls (H : Type) (enc : TypeId × Value → H) (W : World) (base : Nat) (args : Array Value) (ds gs : List (DataW H)) (before : List MemPlace)
    (hval : ∀ (j : Nat) t v, Try.f3.params[j]? = some t → args[j]? = some v → Value.okWide Try.prog W .any base t v)
    (hW : DataW.Whole enc Try.prog Try.f3.params.toList Rows.crcSumsSpec.vars false W args.toList ds gs before) :
    Calls Try.prog 3 args W fun e W' => e = .returned (.bool true) ∧ Below W.heap.size W W' := by
  obtain ⟨p, q, hA, hV, rfl, hfz, hnd⟩ := hW
  rw [Try.params3] at hA hval
  obtain ⟨v0, vs0, d0, ds0, p0, q0, hargs, rfl, rfl, h0, r0⟩ := trodAll_cons hA
  obtain ⟨rfl, rfl, rfl⟩ := trodAll_nil r0
  obtain rfl : args = #[v0] := Array.toList_inj.1 hargs

  exact CrcSums_walk v0 W (hval 0 22 v0 rfl rfl) h0

set_option maxRecDepth 100000 in
theorem CrcSums_lifted (os : Os) (started : os.Started) (H : Type) (enc : TypeId × Value → H) :
    ReturnsInHanded {} Try.checked os 3 .any (Rows.crcSumsSpec.pre6 enc Try.prog Try.f3 Rows.crcSumsRow.domain false) (Rows.crcSumsSpec.post enc Try.prog Try.f3 false true false false) := by
  refine returnsInHanded_of_change (C := Try.checked) own started (by kernel_rfl) Try.func3
    (ChangeSpec.witness6 (enc := enc) (C := Try.checked) false ⟨#[], #[.slice none 0 0], []⟩ 8 (by kernel_rfl) (by kernel_rfl) (by kernel_rfl) (by kernel_rfl)) ?_
  intro W base args ds gs before hval0 hW hcnd _
  have hval : ∀ (j : Nat) t v, Try.f3.params[j]? = some t → args[j]? = some v → Value.okWide Try.prog W .any base t v := hval0
  refine (CrcSums_calls H enc W base args ds gs before hval hW).mono fun e W' ⟨he, bel⟩ => ?_
  exact ⟨_, he, law_post (ts := [22]) (by rw [Try.params3]) (by intro t ht; simp only [List.mem_cons, List.not_mem_nil, or_false] at ht; subst ht <;> exact ⟨by kernel_rfl, of_decide_eq_true (by kernel_rfl)⟩) hW rfl
    (fun ds h => by match ds, h with | [_], _ => rfl) (by kernel_rfl) bel⟩

theorem CrcSums_over : Rows.crcSumsRow.holds Try.pinned (OpenSpec.ofChange Rows.crcSumsSpec) :=
  OpenClaim.holds_of_wide 3 Try.f3 rfl rfl rfl rfl rfl rfl rfl ⟨rfl, rfl, rfl, rfl, rfl⟩ rfl rfl rfl rfl rfl (by kernel_rfl) Try.func3 (by kernel_rfl)
    (of_decide_eq_true (by kernel_rfl)) (by unfold Func.isWrapper; first | (rw [if_pos (by decide +kernel)]; kernel_rfl) | (rw [if_neg (by decide +kernel)]; exact ⟨rfl, rfl⟩))
    (fun os started H enc _ => CrcSums_lifted os started H enc)

/-- The statement. -/
theorem CrcSums_proved : Rows.CrcSumsSaid := CrcSums_over

end Go.Proofs.Ytpjaodbhjhgppaa
