/- CrcOnce: for every list of texts the law answers true. No condition. -/
import Derived.Test.YtpjaodbhjhgppaaCrcSums
namespace Go.Proofs.Ytpjaodbhjhgppaa
open Go.RowKit Go.ChangeShapes Go.WideShapes Go.Joins Go.Deep
open Go.ChangeMaps (open_string shut_string)
set_option linter.unusedVariables false

set_option maxRecDepth 100000 in
set_option maxHeartbeats 1000000 in
theorem CrcOnce_in (L : List (List UInt8)) (a : Option Addr) (cap : Nat) (w : World) (hlen : L.length ≤ 16) (hrow : StrRow w a L) :
    Calls Try.prog 4 #[.slice a L.length cap] w fun e w' => e = .returned (.bool true) ∧ Below w.heap.size w w' := by
  obtain ⟨_, hls, hcells⟩ := hrow
  have HLS := Lib.hid hls
  clear hls
  go_enter Try.func4, Try.ntmps4
  go_wp2_with fail
  refine (awake_any _).mono ?_
  rintro e w1 ⟨rfl, b1⟩
  go_wp2_with fail
  go_loop [17] (fun i => ∃ k : Nat, k ≤ L.length ∧ i = .int .i64 k ∧ ∀ j l, j < k → L[j]? = some l → l.length ≤ 1000) (fun i => L.length - (intOf i).toNat)
  case atStart => exact ⟨0, Nat.zero_le _, rfl, fun j l hj => by omega⟩
  case round =>
    obtain ⟨k, hk, rfl, hall⟩ := hrel
    have HALL := Lib.hid hall
    clear hall
    by_cases hlt : k < L.length
    · obtain ⟨ab, off, rfl, hab, hcell⟩ := hcells (by omega)
      obtain ⟨l, hl⟩ : ∃ l, L[k]? = some l := ⟨_, List.getElem?_eq_getElem hlt⟩
      have c0 := (b1.cell (p := ⟨ab, off + k, none⟩) hab).trans (hcell k l hl)
      have hll := HLS.out l (List.mem_of_getElem? hl)
      have HL := Lib.hid hl
      unfold maxLen at hll
      clear hcell hl
      by_cases hbig : 1000 < l.length
      · go_wp2_with fail
        go_ret
        exact ⟨rfl, b1⟩
      · go_wp2_with fail
        go_round
        case rel =>
          refine ⟨k + 1, by omega, by go_num, fun j x hj hx => ?_⟩
          by_cases hjk : j < k
          · exact HALL.out j x hjk hx
          · obtain rfl : j = k := by omega
            rw [HL.out] at hx
            cases hx
            omega
        case measure => simp [intOf]; omega
    · have HALL2 := Lib.hid (show ∀ j l, L[j]? = some l → l.length ≤ 1000 from fun j l h => HALL.out j l (by have := (List.getElem?_eq_some_iff.1 h).1; omega) h)
      have hkL : k = L.length := by omega
      subst hkL
      clear hlt HALL
      go_wp2_with fail
      refine (new_any _).mono ?_
      rintro e w2 ⟨rfl, hT, b2⟩
      have hb2 := b1.trans (b2.mono b1.size)
      have hbw : w.heap.size ≤ w1.heap.size := b1.size
      generalize w1.heap.size = b at *
      clear b1 b2
      obtain ⟨M, hM⟩ : ∃ M : Nat → Int, M = fun k => if L.length = 0 ∨ k = 0 then 0 else 1 := ⟨_, rfl⟩
      have hT0 : TabOk w2 b (M 0) := by rw [hM]; simp only [or_true, if_true]; exact .inl ⟨rfl, _, hT⟩
      have HM := Lib.hid hM
      clear hM hT
      go_wp2_with fail
      go_loopw [26] (fun i wr => ∃ k : Nat, k ≤ 2 ∧ i = .int .i64 k ∧ TabOk wr b (M k) ∧ Below w.heap.size w wr) (fun i _ => 2 - (intOf i).toNat)
      case atStart => exact ⟨0, by omega, rfl, hT0, hb2⟩
      case round =>
        obtain ⟨k, hk2, rfl, hT, hbk⟩ := hrel
        clear hT0 hb2
        by_cases hlt : k < 2
        · obtain ⟨wo, rfl⟩ : ∃ wo : World, wo = wr := ⟨_, rfl⟩
          have hdk : decide ((k : Int) < 2) = true := by simp; omega
          go_wp2_with fail
          go_loopw [6] (fun i wr => ∃ x : Int, i = .int .i64 x ∧ -1 ≤ x ∧ x < L.length ∧ TabOk wr b (if x = L.length - 1 then M k else 1) ∧ Below w.heap.size w wr) (fun i _ => (intOf i + 1).toNat)
          case atStart => exact ⟨_, rfl, by omega, by omega, by rw [if_pos rfl]; exact hT, hbk⟩
          case round =>
            obtain ⟨x, rfl, hx1, hx2, hT, hbk⟩ := hrel
            by_cases h0 : 0 ≤ x
            · obtain ⟨q, rfl⟩ := Int.eq_ofNat_of_zero_le h0
              obtain ⟨ab, off, rfl, hab, hcell⟩ := hcells (by omega)
              obtain ⟨l, hl⟩ : ∃ l, L[q]? = some l := ⟨_, List.getElem?_eq_getElem (by omega)⟩
              have c0 := (hbk.cell (p := ⟨ab, off + q, none⟩) hab).trans (hcell q l hl)
              have hll := HALL2.out q l hl
              have hl6 : l.length ≤ 1000000 := by omega
              have HT := Lib.hid hT
              have hNb : ab ≠ b := by omega
              clear hcell hl hcells hT
              go_wp2_with fail
              go_region_held3 (fun w' => w'.cell? ⟨ab, off + q, none⟩ = some (.string ⟨l.toArray⟩)) (go_keep)
                (first
                  | (go_at_call 11; refine (sum_any (m := if (q : Int) = L.length - 1 then M k else 1) (by exact HT.out) l hl6).mono ?_; rintro e w3 ⟨rfl, hT3, g3⟩; have c0 := g3.cell (a := ⟨ab, off + q, none⟩) c0 (by simpa using hNb))
                  | (go_at_call 12; refine (qsum_any l hl6 _).mono ?_; rintro e w' ⟨rfl, rfl⟩)
                  | (go_at_call 10; refine (made_any (by exact hT3)).mono ?_; rintro e w' ⟨rfl, rfl⟩))
              have hb3 := grown_below (below_drewN hbk 1) (by exact g3) hbw
              go_wp2_with fail
              go_roundw
              case rel => exact ⟨_, rfl, by omega, by omega, .inr ⟨by rw [if_neg (by omega)], hT3⟩, hb3⟩
              case measure => simp [intOf] <;> omega
            · have hx : x = -1 := by omega
              have hT2 : TabOk wr b (M (k + 1)) := by
                rw [HM.out] at hT ⊢
                simp only at hT ⊢
                by_cases hn : L.length = 0
                · rw [if_pos (by omega), if_pos (.inl hn)] at hT
                  rw [if_pos (.inl hn)]
                  exact hT
                · rw [if_neg (by omega)] at hT
                  rw [if_neg (by omega)]
                  exact hT
              clear hx hT
              go_wp2_with fail
              go_roundw
              case rel => exact ⟨k + 1, by omega, by go_num, hT2, hbk⟩
              case measure => simp [intOf]; omega
        · have h2 : k = 2 := by omega
          subst h2
          have HT := Lib.hid hT
          clear hT
          go_wp2_with fail
          refine (made_ok (by exact HT.out)).mono ?_
          rintro e w' ⟨rfl, rfl⟩
          have HM0 := Lib.hid (show L.length = 0 → M 2 = 0 from fun h => by rw [HM.out]; simp [h])
          have HM1 := Lib.hid (show L.length ≠ 0 → M 2 = 1 from fun h => by rw [HM.out]; simp [h])
          by_cases hn : L.length = 0
          · have h0 := HM0.out hn
            rw [h0]
            clear h0
            go_wp2_with fail
            go_ret
            exact ⟨rfl, hbk⟩
          · rw [HM1.out hn]
            by_cases hn1 : L.length = 1
            · clear hn
              go_wp2_with fail
              go_ret
              exact ⟨rfl, hbk⟩
            · have hn2 : (1 : Int) < L.length := by omega
              clear hn hn1
              go_wp2_with fail
              go_ret
              exact ⟨rfl, hbk⟩

set_option maxRecDepth 100000 in
set_option maxHeartbeats 1000000 in
theorem CrcOnce_out (L : List (List UInt8)) (a : Option Addr) (cap : Nat) (w : World) (hlen : L.length ≤ maxLen) (h : 16 < L.length) :
    Calls Try.prog 4 #[.slice a L.length cap] w fun e w' => e = .returned (.bool true) ∧ Below w.heap.size w w' := by
  unfold maxLen at hlen
  go_enter Try.func4, Try.ntmps4
  go_wp2_with fail
  refine (awake_any _).mono ?_
  rintro e w1 ⟨rfl, b1⟩
  go_wp2_with fail
  refine (awake_any _).mono ?_
  rintro e w2 ⟨rfl, b2⟩
  have hb2 := b1.trans (b2.mono b1.size)
  go_wp2_with fail
  go_ret
  exact ⟨rfl, hb2⟩

theorem CrcOnce_walk {H : Type} {enc : TypeId × Value → H} {base : Nat} {d : DataW H} {p : List MemPlace} (v : Value) (w : World) (hv : Value.okWide Try.prog w .any base 22 v) (ht : DataW.Trod enc Try.prog w 0 (fun _ => true) true 22 v d p) :
    Calls Try.prog 4 #[v] w fun e w' => e = .returned (.bool true) ∧ Below w.heap.size w w' := by
  obtain ⟨a, L, cap, rfl, hz⟩ := open_strrow hv ht
  by_cases h : 16 < L.length
  · exact CrcOnce_out L a cap w hz.1 h
  · exact CrcOnce_in L a cap w (by omega) hz


theorem CrcOnce_calls (H : Type) (enc : TypeId × Value → H) (W : World) (base : Nat) (args : Array Value) (ds gs : List (DataW H)) (before : List MemPlace)
    (hval : ∀ (j : Nat) t v, Try.f4.params[j]? = some t → args[j]? = some v → Value.okWide Try.prog W .any base t v)
    (hW : DataW.Whole enc Try.prog Try.f4.params.toList Rows.crcOnceSpec.vars false W args.toList ds gs before) :
    Calls Try.prog 4 args W fun e W' => e = .returned (.bool true) ∧ Below W.heap.size W W' := by
  obtain ⟨p, q, hA, hV, rfl, hfz, hnd⟩ := hW
  rw [Try.params4] at hA hval
  obtain ⟨v0, vs0, d0, ds0, p0, q0, hargs, rfl, rfl, h0, r0⟩ := trodAll_cons hA
  obtain ⟨rfl, rfl, rfl⟩ := trodAll_nil r0
  obtain rfl : args = #[v0] := Array.toList_inj.1 hargs

  exact CrcOnce_walk v0 W (hval 0 22 v0 rfl rfl) h0

set_option maxRecDepth 100000 in
theorem CrcOnce_lifted (os : Os) (started : os.Started) (H : Type) (enc : TypeId × Value → H) :
    ReturnsInHanded {} Try.checked os 4 .any (Rows.crcOnceSpec.pre6 enc Try.prog Try.f4 Rows.crcOnceRow.domain false) (Rows.crcOnceSpec.post enc Try.prog Try.f4 false true false false) := by
  refine returnsInHanded_of_change (C := Try.checked) own started (by kernel_rfl) Try.func4
    (ChangeSpec.witness6 (enc := enc) (C := Try.checked) false ⟨#[], #[.slice none 0 0], []⟩ 8 (by kernel_rfl) (by kernel_rfl) (by kernel_rfl) (by kernel_rfl)) ?_
  intro W base args ds gs before hval0 hW hcnd _
  have hval : ∀ (j : Nat) t v, Try.f4.params[j]? = some t → args[j]? = some v → Value.okWide Try.prog W .any base t v := hval0
  refine (CrcOnce_calls H enc W base args ds gs before hval hW).mono fun e W' ⟨he, bel⟩ => ?_
  exact ⟨_, he, law_post (ts := [22]) (by rw [Try.params4]) (by intro t ht; simp only [List.mem_cons, List.not_mem_nil, or_false] at ht; subst ht <;> exact ⟨by kernel_rfl, of_decide_eq_true (by kernel_rfl)⟩) hW rfl
    (fun ds h => by match ds, h with | [_], _ => rfl) (by kernel_rfl) bel⟩

theorem CrcOnce_over : Rows.crcOnceRow.holds Try.pinned (OpenSpec.ofChange Rows.crcOnceSpec) :=
  OpenClaim.holds_of_wide 4 Try.f4 rfl rfl rfl rfl rfl rfl rfl ⟨rfl, rfl, rfl, rfl, rfl⟩ rfl rfl rfl rfl rfl (by kernel_rfl) Try.func4 (by kernel_rfl)
    (of_decide_eq_true (by kernel_rfl)) (by unfold Func.isWrapper; first | (rw [if_pos (by decide +kernel)]; kernel_rfl) | (rw [if_neg (by decide +kernel)]; exact ⟨rfl, rfl⟩))
    (fun os started H enc _ => CrcOnce_lifted os started H enc)

/-- The statement. -/
theorem CrcOnce_proved : Rows.CrcOnceSaid := CrcOnce_over

end Go.Proofs.Ytpjaodbhjhgppaa
