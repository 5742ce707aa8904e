/- StableScans: for every text the law answers true. No condition. -/
import Derived.Test.YtoiaigbagfalmaaStAwake
namespace Go.Proofs.Ytoiaigbagfalmaa
open Go.RowKit Go.ChangeShapes Go.WideShapes Go.Joins Go.Deep
open Go.ChangeMaps (open_string shut_string)
set_option linter.unusedVariables false

theorem StrsV.len {w : World} {v : Value} {L : List (List UInt8)} (h : StrsV w v L) : L.length ≤ 9223372036854775807 := by
  obtain ⟨_, _, _, h, _⟩ := h
  exact h
theorem recs_len_le (L : List (List UInt8)) {t : List UInt8} (h : t ∈ L) : t.length ≤ (recs L).length := by
  induction L with
  | nil => cases h
  | cons a L ih =>
    rw [recs_cons, List.length_append]
    have h1 := bytesS_len a
    have h2 := encS_len a
    rcases List.mem_cons.1 h with rfl | h
    · omega
    · have := ih h; omega
theorem recs_take {L : List (List UInt8)} {k : Nat} {t : List UInt8} (h : L[k]? = some t) : recs (L.take (k + 1)) = recs (L.take k) ++ bytesS t := by
  rw [List.take_add_one, h, Option.toList_some, recs_snoc]
theorem recs_take_le (L : List (List UInt8)) (k : Nat) : (recs (L.take k)).length ≤ (recs L).length := by
  have : recs L = recs (L.take k) ++ recs (L.drop k) := by
    rw [recs, recs, recs, ← List.flatMap_append, List.take_append_drop]
  rw [this, List.length_append]
  omega

set_option maxRecDepth 100000 in
set_option maxHeartbeats 4000000 in

theorem StableScans_go (s : List UInt8) (w : World) :
    Calls Try.prog 3 #[.string ⟨s.toArray⟩] w fun e w' => e = .returned (.bool true) ∧ Below w.heap.size w w' := by
  go_enter Try.func3, Try.ntmps3
  go_wp2_with fail
  refine (awake_any _).mono ?_
  rintro e w1 ⟨rfl, hb⟩
  by_cases h5 : s.length ≤ 5000
  · have h5' : ¬ (5000 : Int) < (s.length : Int) := by omega
    go_wp2_with fail
    refine (scan_any s (by omega) _).mono ?_
    rintro e w2 ⟨a, cap, rfl, hv, b2⟩
    have hb := below_step hb b2
    clear b2
    go_wp2_with fail
    refine (qscan_any s (by omega) _).mono ?_
    rintro e w3 ⟨a2, cap2, rfl, hu, b3⟩
    have hv := (hv.below b3).v
    have hb := below_step hb b3
    have hu := hu.v
    clear b3
    obtain ⟨tail, hf1, hf2, _⟩ := scan_form _ s (Nat.le_refl _)
    have hle := scan_le s
    have hrl : (recs (scanS s).1).length ≤ 5000 := by omega
    have HT : Hid (s.take (scanS s).2 = recs (scanS s).1) := by
      show s.take (scanS s).2 = _
      have h9 := congrArg (List.take (recs (scanS s).1).length) hf1
      rw [List.take_left' rfl] at h9
      rw [hf2]
      exact h9
    have HX := Lib.hid (take_eq s (scanS s).2)
    clear hf1 hf2
    generalize (scanS s).2 = n at *
    generalize (scanS s).1 = L at *
    have hLm := hv.len
    have hne : (⟨[].toArray⟩ : ByteArray) = ⟨#[]⟩ := rfl
    go_wp2_with fail
    go_loopw [7, 30] (fun t i wr => ∃ k : Nat, k ≤ L.length ∧ i = .int .i64 k ∧ t = .string ⟨(recs (L.take k)).toArray⟩ ∧ StrsV wr (.slice a L.length cap) L ∧ StrsV wr (.slice a2 L.length cap2) L ∧ Below w.heap.size w wr) (fun _ i _ => L.length - (intOf i).toNat)
    case atStart => exact ⟨0, Nat.zero_le _, rfl, rfl, hv, hu, hb⟩
    case round =>
      clear hv hu hb
      obtain ⟨k, hk, rfl, rfl, hv, hu, hb⟩ := hrel
      by_cases hlt : k < L.length
      · obtain ⟨t, ht⟩ : ∃ t, L[k]? = some t := ⟨_, List.getElem?_eq_getElem hlt⟩
        obtain ⟨b1, o1, rfl, hc⟩ : ∃ b off, a = some ⟨b, off, none⟩ ∧ ∀ i l, L[i]? = some l → wr.cell? ⟨b, off + i, none⟩ = some (.string ⟨l.toArray⟩) := by
          obtain ⟨a', c', hq, _, hs⟩ := hv
          cases hq
          obtain ⟨b, off, h, _, h3⟩ := hs (by omega)
          exact ⟨b, off, h, h3⟩
        have c1 := hc k t ht
        have htl : t.length ≤ 900000 := by have := recs_len_le L (List.mem_of_getElem? ht); omega
        have HR := Lib.hid (recs_take ht)
        have hl1 := recs_take_le L k
        have hl2 := recs_take_le L (k + 1)
        rw [HR.out, List.length_append] at hl2
        have HL := Lib.hid hl2
        clear hc ht hl1 hl2
        go_wp2_with fail
        refine (bytes_any t htl _).mono ?_
        rintro e w4 ⟨rfl, b4⟩
        have hv := hv.below b4
        have hu := hu.below b4
        have hb := below_step hb b4
        clear b4 c1
        have hsum : ¬ 9223372036854775807 < (recs (L.take k)).length + (bytesS t).length := by have := HL.out; omega
        have hcat : (⟨(recs (L.take k)).toArray⟩ : ByteArray) ++ ⟨(bytesS t).toArray⟩ = ⟨(recs (L.take (k + 1))).toArray⟩ := by rw [HR.out, ← ByteArray.mk_append_mk]
        generalize bytesS t = S at *
        generalize recs (L.take k) = R at *
        go_wp2_with fail
        go_roundw
        case rel => exact ⟨k + 1, by omega, by go_num, by first | rfl | (rw [hcat]), hv, hu, hb⟩
        case measure => simp [intOf]; omega
      · obtain rfl : k = L.length := by omega
        rw [List.take_length]
        go_wp2_with fail
        refine (same_any (by exact hv) (by exact hu)).mono ?_
        rintro e w5 ⟨rfl, b5⟩
        have hb := below_step hb b5
        rw [show decide (L = L) = true by simp]
        have hx := HX.out
        rw [HT.out] at hx
        have hn1 : (n : Int) ≤ (s.length : Int) := by omega
        go_wp2_with fail
        go_ret
        exact ⟨rfl, hb⟩
  · have h5' : (5000 : Int) < (s.length : Int) := by omega
    go_wp2_with fail
    refine (awake_any _).mono ?_
    rintro e w9 ⟨rfl, b9⟩
    have hb := below_step hb b9
    go_wp2_with fail
    go_ret
    exact ⟨rfl, hb⟩

theorem StableScans_walk (s : ByteArray) (w : World) (hs : s.size ≤ maxLen) :
    Calls Try.prog 3 #[.string s] w fun e w' => e = .returned (.bool true) ∧ Below w.heap.size w w' := by
  obtain ⟨l, rfl, hl⟩ := str_list s
  exact StableScans_go l w


set_option maxRecDepth 100000 in
theorem StableScans_calls (H : Type) (enc : TypeId × Value → H) (W : World) (base : Nat) (args : Array Value) (ds gs : List (DataW H)) (before : List MemPlace)
    (hval : ∀ (j : Nat) t v, Try.f3.params[j]? = some t → args[j]? = some v → Value.okWide Try.prog W .any base t v)
    (hW : DataW.Whole enc Try.prog Try.f3.params.toList Rows.stableScansSpec.vars false W args.toList ds gs before) :
    Calls Try.prog 3 args W fun e W' => e = .returned (.bool true) ∧ Below W.heap.size W W' := by
  obtain ⟨p, q, hA, hV, rfl, hfz, hnd⟩ := hW
  rw [Try.params3] at hA hval
  obtain ⟨v0, vs0, d0, ds0, p0, q0, hargs, rfl, rfl, h0, r0⟩ := trodAll_cons hA
  obtain ⟨rfl, rfl, rfl⟩ := trodAll_nil r0
  obtain rfl : args = #[v0] := Array.toList_inj.1 hargs
  obtain ⟨x0, rfl, rfl, rfl, w0⟩ := open_string Try.underlying9 (hval 0 9 v0 rfl rfl) h0
  exact StableScans_walk x0 W w0

set_option maxRecDepth 100000 in
theorem StableScans_lifted (os : Os) (started : os.Started) (H : Type) (enc : TypeId × Value → H) :
    ReturnsInHanded {} Try.checked os 3 .any (Rows.stableScansSpec.pre6 enc Try.prog Try.f3 Rows.stableScansRow.domain false) (Rows.stableScansSpec.post enc Try.prog Try.f3 false true false false) := by
  refine returnsInHanded_of_change (C := Try.checked) own started (by kernel_rfl) Try.func3
    (ChangeSpec.witness6 (enc := enc) (C := Try.checked) false ⟨#[], #[.string ByteArray.empty], []⟩ 8 (by kernel_rfl) (by kernel_rfl) (by kernel_rfl) (by kernel_rfl)) ?_
  intro W base args ds gs before hval0 hW hcnd _
  have hval : ∀ (j : Nat) t v, Try.f3.params[j]? = some t → args[j]? = some v → Value.okWide Try.prog W .any base t v := hval0
  refine (StableScans_calls H enc W base args ds gs before hval hW).mono fun e W' ⟨he, bel⟩ => ?_
  exact ⟨_, he, law_post (ts := [9]) (by rw [Try.params3]) (by intro t ht; simp only [List.mem_cons, List.not_mem_nil, or_false] at ht; subst ht <;> exact ⟨by kernel_rfl, of_decide_eq_true (by kernel_rfl)⟩) hW rfl
    (fun ds h => by match ds, h with | [_], _ => rfl) (by kernel_rfl) bel⟩

theorem StableScans_over : Rows.stableScansRow.holds Try.pinned (OpenSpec.ofChange Rows.stableScansSpec) :=
  OpenClaim.holds_of_wide 3 Try.f3 rfl rfl rfl rfl rfl rfl rfl ⟨rfl, rfl, rfl, rfl, rfl⟩ rfl rfl rfl rfl rfl (by kernel_rfl) Try.func3 (by kernel_rfl)
    (of_decide_eq_true (by kernel_rfl)) (by unfold Func.isWrapper; first | (rw [if_pos (by decide +kernel)]; kernel_rfl) | (rw [if_neg (by decide +kernel)]; exact ⟨rfl, rfl⟩))
    (fun os started H enc _ => StableScans_lifted os started H enc)

/-- The statement. -/
theorem StableScans_proved : Rows.StableScansSaid := StableScans_over

end Go.Proofs.Ytoiaigbagfalmaa
