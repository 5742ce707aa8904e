/- The contracts of the writing half of package codec. -/
import Derived.Test.YtoiaigbagfalmaaCommon
import Derived.Test.YtoiaigbagfalmaaCodecPlain
import Derived.WalkSpells
import Derived.WalkLawsBesides
import Derived.BigQuiet
import Derived.StillTailTactics
import Derived.Lib.SmallJoins
import Derived.Lib.Hide
import Derived.Outline
import Derived.Deep.AppendLies
import Derived.Deep.LoopGhost
import Derived.Laws.IdiomStrings
import Derived.Laws.BitsAllLaws
namespace Go.Proofs.Ytoiaigbagfalmaa
open Go.RowKit Go.ChangeShapes Go.WideShapes Go.Joins
set_option linter.unusedVariables false

theorem arr10_len : Try.prog.arrayLen 96 = 10 := by kernel_rfl
theorem arr10_elem : Try.prog.elem 96 = 5 := by kernel_rfl
theorem arr10_under : Try.prog.underlying 96 = some (.array (Try.prog.arrayLen 96) (Try.prog.elem 96)) := by kernel_rfl
theorem slice10 (B k : Nat) (hk : k ≤ 9) (W : World) : (Instr.sliceAt 96 (.pointer (some ⟨B, 0, none⟩)) none (some (.int .i64 ((k : Int) + 1))) none).run Try.prog W = .ok (.slice (some ⟨B, 0, none⟩) (k + 1) 10) W := by
  rw [run_sliceAt_array_h W 96 _ arr10_under .i64 ((k : Int) + 1) (by omega) (by rw [arr10_len]; omega), arr10_elem, Try.sizeOf5, arr10_len]
  simp [Result.andThen, slicedAt, Addr.add]

theorem u8_or128 (q : Nat) : bits .or .u8 ((q : Int) % 256) 128 = ((UInt8.ofNat (q % 128 + 128)).toNat : Int) := by
  have h1 : ((q : Int) % 256) = ((q % 256 : Nat) : Int) := by omega
  rw [h1]
  have h2 : ∀ a : Fin 256, bits .or .u8 ((a.val : Nat) : Int) 128 = (((a.val % 128 + 128 : Nat)) : Int) := by decide +kernel
  have := h2 ⟨q % 256, Nat.mod_lt _ (by omega)⟩
  rw [this]
  simp only [UInt8.toNat_ofNat']
  omega

theorem enc_step {n k q : Nat} {l : List UInt8} (hE : enc n = l.take k ++ encF (9 - k) q) (hl : l.length = 10) (hq : 128 ≤ q) (hQ : q < 2 * 128 ^ (9 - k)) (hk : k ≤ 9) :
    k + 1 ≤ 9 ∧ enc n = (l.set k (UInt8.ofNat (q % 128 + 128))).take (k + 1) ++ encF (9 - (k + 1)) (q / 128) ∧ q / 128 < 2 * 128 ^ (9 - (k + 1)) := by
  have hk9 : k ≠ 9 := by
    rintro rfl
    simp at hQ
    omega
  obtain ⟨j, hj⟩ : ∃ j, 9 - k = j + 1 := ⟨9 - k - 1, by omega⟩
  have hj' : 9 - (k + 1) = j := by omega
  refine ⟨by omega, ?_, ?_⟩
  · rw [hE, hj, hj', encF_big hq, List.take_succ_eq_append_getElem (by simp; omega), List.getElem_set_self, List.take_set_of_le (Nat.le_refl _), List.append_assoc]
    rfl
  · rw [hj'] 
    rw [hj, Nat.pow_succ] at hQ
    omega

theorem enc_last {n k q : Nat} {l : List UInt8} (hE : enc n = l.take k ++ encF (9 - k) q) (hl : l.length = 10) (hq : q < 128) (hk : k ≤ 9) :
    enc n = (l.set k (UInt8.ofNat q)).take (k + 1) := by
  rw [hE, encF_small hq, List.take_succ_eq_append_getElem (by simp; omega), List.getElem_set_self, List.take_set_of_le (Nat.le_refl _)]

set_option maxRecDepth 10000 in
set_option maxHeartbeats 1000000 in
theorem cuint_any (n : Nat) (hn : F64 n) (w : World) :
    Calls Try.prog 40 #[.int .u64 n] w fun e w' => e = .returned (.string ⟨(enc n).toArray⟩) ∧ Below w.heap.size w w' := by
  go_enter Try.func40, Try.ntmps40
  go_wp2_with fail
  go_loopw [0, 4] (fun m i wr => ∃ k q : Nat, ∃ l : List UInt8, k ≤ 9 ∧ i = .int .i64 k ∧ m = .int .u64 q ∧ F64 q ∧ wr.heap[w.heap.size]? = some (.cells (bcells l).toArray 96 (0, 0)) ∧ l.length = 10 ∧ enc n = l.take k ++ encF (9 - k) q ∧ q < 2 * 128 ^ (9 - k) ∧ Below w.heap.size w wr) (fun m _ _ => (intOf m).toNat)
  case atStart => exact ⟨0, n, List.replicate 10 0, by omega, rfl, rfl, hn, heap_alloc_new _ _, rfl, rfl, by unfold F64 at hn; omega, (Below.refl _ _).alloc (Nat.le_refl _) _⟩
  case round =>
    obtain ⟨k, q, l, hk, rfl, rfl, hq, hB, hl, he, hqk, hb⟩ := hrel
    have HB := Lib.hid hB
    have HE := Lib.hid he
    have HL := Lib.hid hl
    have HQ := Lib.hid hqk
    have hBlt : w.heap.size < wr.heap.size := (Array.getElem?_eq_some_iff.1 hB).1
    have hf : wr.frozen? ⟨w.heap.size, k, none⟩ = false := by simp [World.frozen?, hB]
    have hc : wr.cell? ⟨w.heap.size, k, none⟩ = some (.int .u8 ((l.getD k 0).toNat : Int)) := by
      rw [cell_of_row _ _ _ _ _ _ hB]
      simp [bcells, List.getD, List.getElem?_eq_getElem (show k < l.length by omega)]
    clear hB he hl hqk
    by_cases hlt : 128 ≤ q
    · have HO := Lib.hid (u8_or128 q)
      go_wp2_with fail
      have hs := enc_step HE.out HL.out hlt HQ.out hk
      refine ⟨⟨k + 1, q / 128, l.set k (UInt8.ofNat (q % 128 + 128)), hs.1, by go_num, by go_num, ?_, ?_, by rw [List.length_set]; exact HL.out, hs.2.1, hs.2.2, hb.setCell (Nat.le_refl _) _⟩, ?_⟩
      · unfold F64 at hq ⊢; omega
      · rw [HO.out]
        exact set_heap HB.out _
      · simp [intOf]; omega
    · have hsl := slice10 w.heap.size k hk
      have hs := enc_last HE.out HL.out (by omega) hk
      have hcv := text_of (n := k + 1) (set_heap (k := k) HB.out (UInt8.ofNat q)) (by rw [List.length_set, HL.out]; omega) 10
      have e : ((UInt8.ofNat q).toNat : Int) = q := by simp; omega
      rw [e, ← hs] at hcv
      clear e hs
      go_wp2_with fail
      go_ret
      exact ⟨rfl, hb.setCell (Nat.le_refl _) _⟩

/-- The row of bytes that a call owns, as a text. -/
theorem text_own {W : World} {base n cap g : Nat} {l : List UInt8} (h : W.ownsRow base 5 1 (.slice (some ⟨g, 0, none⟩) n cap) n (bcells l)) (hn : n = l.length) :
    (convert 56 9 (.slice (some ⟨g, 0, none⟩) n cap)).run Try.prog W = .ok (.string ⟨l.toArray⟩) W := by
  subst hn
  refine run_convert_bytes_back (P := Try.prog) W 56 9 5 ⟨g, 0, none⟩ cap l Try.underlying56 Try.underlying5 Try.underlying9 (fun j hj => ?_)
  rw [addr_add, Nat.zero_add, h.cellAt j (by omega)]
  simp [bcells, hj]

theorem enc_next {n q : Nat} {l : List UInt8} (hE : enc n = l ++ encF (9 - l.length) q) (hq : 128 ≤ q) (hQ : q < 2 * 128 ^ (9 - l.length)) (hk : l.length ≤ 9) :
    l.length + 1 ≤ 9 ∧ enc n = (l ++ [UInt8.ofNat (q % 128 + 128)]) ++ encF (9 - (l.length + 1)) (q / 128) ∧ q / 128 < 2 * 128 ^ (9 - (l.length + 1)) := by
  have hk9 : l.length ≠ 9 := by
    intro h
    rw [h] at hQ
    simp at hQ
    omega
  obtain ⟨j, hj⟩ : ∃ j, 9 - l.length = j + 1 := ⟨9 - l.length - 1, by omega⟩
  have hj' : 9 - (l.length + 1) = j := by omega
  refine ⟨by omega, ?_, ?_⟩
  · rw [hE, hj, hj', encF_big hq, List.append_assoc]
    rfl
  · rw [hj']
    rw [hj, Nat.pow_succ] at hQ
    omega

set_option maxRecDepth 10000 in
set_option maxHeartbeats 1000000 in
theorem quint_any (n : Nat) (hn : F64 n) (w : World) :
    Calls Try.prog 45 #[.int .u64 n] w fun e w' => e = .returned (.string ⟨(enc n).toArray⟩) ∧ Below w.heap.size w w' := by
  obtain ⟨i0, hi0, hz0, hz1, hz2⟩ := info_parts u8_info
  go_enter Try.func45, Try.ntmps45
  go_wp2_with fail
  go_loopw [0, 3] (fun m v wr => ∃ q : Nat, ∃ l : List UInt8, m = .int .u64 q ∧ F64 q ∧ wr.ownsRow w.heap.size 5 1 v l.length (bcells l) ∧ l.length ≤ 9 ∧ enc n = l ++ encF (9 - l.length) q ∧ q < 2 * 128 ^ (9 - l.length) ∧ Below w.heap.size w wr) (fun m _ _ => (intOf m).toNat)
  case atStart => exact ⟨n, [], rfl, hn, World.ownsRow_made _ _ _ (Nat.le_refl _) (by unfold maxLen; omega) rfl, by simp, rfl, by unfold F64 at hn; simp; omega, (Below.refl _ _).alloc (Nat.le_refl _) _⟩
  case round =>
    obtain ⟨q, l, rfl, hq, hown, hk, he, hqk, hb⟩ := hrel
    have HE := Lib.hid he
    have HQ := Lib.hid hqk
    clear he hqk
    have hbs := hb.size
    by_cases hlt : 128 ≤ q
    · have HN := enc_next HE.out hlt HQ.out hk
      have hc : ((q : Int) % 128 + 128) = ((UInt8.ofNat (q % 128 + 128)).toNat : Int) := by simp only [UInt8.toNat_ofNat']; omega
      have HW := Lib.hid (show IntKind.u64.wrap ((q : Int) / 128) = (q : Int) / 128 by rw [IntKind.wrap_u64]; unfold F64 at hq; omega)
      generalize UInt8.ofNat (q % 128 + 128) = c at *
      have HN := Lib.hid HN
      have HC := Lib.hid hc
      clear hc
      go_wp2_with (at_builtin; refine wpList_append_lies _ rfl (.tmp 7) (.tmp 12) 56 rfl w.heap.size 5 i0 _ 1 1 Try.underlying56 hi0 hz0 hz1 hz2 rfl (by omega) _ _ _ rfl (hown.alloc _) ⟨wr.heap.size, 0, none⟩ 1 1 [.int .u8 (c.toNat : Int)] rfl rfl ?c1 ?c2 (by omega) ?c3 ?c4 ?c5 (wr.heap.size + 1) ?c6 ?_)
      case c1 => rw [HC.out]; exact World.news_of_block (heap_alloc_new _ _)
      case c2 => intro u hu; simp at hu; rw [hu]; rfl
      case c3 => unfold maxLen; omega
      case c4 => omega
      case c5 => simp; omega
      case c6 => simp
      intro g' cap' w' hown' hg' hat' hlt'
      have hb2 : Below w.heap.size w w' := (hb.alloc hbs _).grown hg' (by simp; omega) (fun k hk => (hown.lt k hk).1)
      rw [← bcells_snoc] at hown'
      clear hg' hat' hb hown
      go_wp2_with fail
      rw [HW.out]
      refine ⟨⟨q / 128, l ++ [c], by go_num, ?_, by rw [List.length_append]; exact hown', by rw [List.length_append]; exact HN.out.1, by rw [List.length_append]; exact HN.out.2.1, by rw [List.length_append]; exact HN.out.2.2, hb2⟩, ?_⟩
      · unfold F64 at hq ⊢; omega
      · simp [intOf]; omega
    · have HN := (show enc n = l ++ [UInt8.ofNat q] by rw [HE.out, encF_small (by omega)])
      have hc : (q : Int) = ((UInt8.ofNat q).toNat : Int) := by simp only [UInt8.toNat_ofNat']; omega
      generalize UInt8.ofNat q = c at *
      have HN := Lib.hid HN
      have HC := Lib.hid hc
      clear hc
      go_wp2_with (at_builtin; refine wpList_append_lies _ rfl (.tmp 16) (.tmp 19) 56 rfl w.heap.size 5 i0 _ 1 1 Try.underlying56 hi0 hz0 hz1 hz2 rfl (by omega) _ _ _ rfl (hown.alloc _) ⟨wr.heap.size, 0, none⟩ 1 1 [.int .u8 (c.toNat : Int)] rfl rfl ?c1 ?c2 (by omega) ?c3 ?c4 ?c5 (wr.heap.size + 1) ?c6 ?_)
      case c1 => rw [← HC.out]; exact World.news_of_block (heap_alloc_new _ _)
      case c2 => intro u hu; simp at hu; rw [hu]; rfl
      case c3 => unfold maxLen; omega
      case c4 => omega
      case c5 => simp; omega
      case c6 => simp
      intro g' cap' w' hown' hg' hat' hlt'
      have hb2 : Below w.heap.size w w' := (hb.alloc hbs _).grown hg' (by simp; omega) (fun k hk => (hown.lt k hk).1)
      rw [← bcells_snoc] at hown'
      have hcv := text_own hown' (by simp)
      clear hg' hat' hb hown hown'
      go_wp2_with fail
      go_ret
      exact ⟨by rw [HN.out]; rfl, hb2⟩
end Go.Proofs.Ytoiaigbagfalmaa
