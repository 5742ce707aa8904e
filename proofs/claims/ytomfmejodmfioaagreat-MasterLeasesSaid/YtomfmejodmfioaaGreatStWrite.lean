/- The log's writes. -/
import Derived.Test.YtomfmejodmfioaaGreatStLog
import Derived.Deep.RegionLaw
namespace Go.Proofs.YtomfmejodmfioaaGreat
open Go.RowKit Go.ChangeShapes Go.WideShapes Go.Joins Go.Deep
set_option linter.unusedVariables false

/-- How much of a record is kept. -/
def keepS (s : List UInt8) (keep : Int) : Nat := (min (max keep 0) ((bytesS s).length : Int)).toNat
theorem keepS_le (s : List UInt8) (keep : Int) : keepS s keep ≤ (bytesS s).length := by unfold keepS; omega
/-- What a write leaves, and its error. -/
def writeS (l : List UInt8) (t : Bool) (s : List UInt8) (keep : Int) : List UInt8 × Int :=
  if 1024 < s.length then (l, 15) else if t = true then (l, 13) else if 65536 < l.length + (bytesS s).length then (l, 5) else (l ++ (bytesS s).take (keepS s keep), 0)
theorem writeS_len {l : List UInt8} {t : Bool} {s : List UInt8} {keep : Int} (h : l.length ≤ 65536) : (writeS l t s keep).1.length ≤ 65536 := by
  unfold writeS
  split
  · exact h
  · split
    · exact h
    · split
      · exact h
      · rw [List.length_append, List.length_take]; omega

theorem log_store {B b : Nat} {w w6 : World} {v v6 : Value} {l l6 : List UInt8} {t : Bool} (h : LogAt B w b v l t) (hown : w6.ownsRow B 5 1 v6 l6.length (bcells l6)) (hg : w.grownBy w6 v.ownBlock) :
    LogAt B (w6.setCell ⟨b, 0, none⟩ v6) b v6 l6 t ∧ KeptL w (w6.setCell ⟨b, 0, none⟩ v6) b v.ownBlock := by
  have hbk := (hg.block b h.lt h.apart).trans h.2.1
  have hap := own_apart hbk hown (by decide)
  have G := grown_setCell w6 b 0 v6
  refine ⟨⟨h.1, by simp [World.setCell, Array.getElem?_modify, hbk], hown.kept G (.inr fun e => hap e.symm)⟩, ⟨G.os.trans hg.os, G.tape.trans hg.tape, G.output.trans hg.output, Nat.le_trans hg.size G.size, fun k hk hkb hkr => ?_⟩⟩
  exact (G.block k (Nat.lt_of_lt_of_le hk hg.size) (by simpa using hkb)).trans (hg.block k hk hkr)
theorem KeptL.trans {w w1 w2 : World} {b : Nat} {r : Option Nat} (h : KeptL w w1 b r) (h2 : KeptL w1 w2 b r) : KeptL w w2 b r :=
  ⟨h2.os.trans h.os, h2.tape.trans h.tape, h2.output.trans h.output, Nat.le_trans h.size h2.size, fun k hk hb hr => (h2.block k (Nat.lt_of_lt_of_le hk h.size) hb hr).trans (h.block k hk hb hr)⟩

theorem write_nil (s : ByteArray) (keep : Int) (w : World) : Calls Tryz.prog 73 #[.pointer none, .string s, .int .i64 keep] w fun e w' => e = .returned (.int .i64 12) ∧ w = w' := by
  go_enter Tryz.func73, Tryz.ntmps73
  go_wp2_with fail
  go_ret
  exact ⟨rfl, rfl⟩
set_option maxRecDepth 100000 in
set_option maxHeartbeats 4000000 in
theorem write_any {B b : Nat} {w : World} {v : Value} {l s : List UInt8} {t : Bool} (h : LogAt B w b v l t) (hl : l.length ≤ 65536) (hs : s.length ≤ maxLen) (hBw : B ≤ w.heap.size) (keep : Int) :
    Calls Tryz.prog 73 #[.pointer (some ⟨b, 0, none⟩), .string ⟨s.toArray⟩, .int .i64 keep] w fun e w' => e = .returned (.int .i64 (writeS l t s keep).2) ∧ (∃ v', LogAt B w' b v' (writeS l t s keep).1 t) ∧ KeptL w w' b v.ownBlock := by
  unfold maxLen at hs
  obtain ⟨A, cap, rfl⟩ := h.form
  have hrefl : KeptL w w b (Value.ownBlock (.slice A l.length cap)) := ⟨rfl, rfl, rfl, Nat.le_refl _, fun _ _ _ _ => rfl⟩
  by_cases h1 : 1024 < s.length
  · have HE := Lib.hid (show writeS l t s keep = (l, 15) by rw [writeS, if_pos h1])
    have h1' : (1024 : Int) < (s.length : Int) := by omega
    go_enter Tryz.func73, Tryz.ntmps73
    go_wp2_with fail
    go_ret
    exact ⟨by rw [HE.out]; rfl, ⟨_, by rw [HE.out]; exact h⟩, hrefl⟩
  · have h1' : ¬ (1024 : Int) < (s.length : Int) := by omega
    cases t with
    | true =>
      have HE := Lib.hid (show writeS l true s keep = (l, 13) by rw [writeS, if_neg h1, if_pos rfl])
      have c1 := h.cell1
      have H := Lib.hid h
      go_enter Tryz.func73, Tryz.ntmps73
      go_wp2_with fail
      go_ret
      exact ⟨by rw [HE.out]; rfl, ⟨_, by rw [HE.out]; exact h⟩, hrefl⟩
    | false =>
      have hbl := bytesS_len s
      have hel := encS_len s
      have c0 := h.cell0
      have c1 := h.cell1
      go_enter Tryz.func73, Tryz.ntmps73
      go_wp2_with fail
      refine (bytes_any s (by omega) _).mono ?_
      rintro e w1 ⟨rfl, b1⟩
      have h2 := h.below b1
      clear c0 c1
      have c0 := h2.cell0
      have c1 := h2.cell1
      have hkb : KeptL w w1 b (Value.ownBlock (.slice A l.length cap)) := ⟨b1.os, b1.tape, b1.output, b1.size, fun k hk _ _ => b1.block k hk⟩
      have HBL := Lib.hid (show (bytesS s).length ≤ 1100 by omega)
      have HKL := Lib.hid (keepS_le s keep)
      clear hbl hel b1
      by_cases h3 : 65536 < l.length + (bytesS s).length
      · have HE := Lib.hid (show writeS l false s keep = (l, 5) by rw [writeS, if_neg h1, if_neg (by simp), if_pos h3])
        have h3' : (65536 : Int) < (l.length : Int) + ((bytesS s).length : Int) := by omega
        have hb1 : ((bytesS s).length : Int) ≤ 1100 := by have := HBL.out; omega
        generalize bytesS s = S at *
        have hw1 : wrap64 ((l.length : Int) + (S.length : Int)) = (l.length : Int) + (S.length : Int) := IntWalk.wrap64_in _ ⟨by omega, by omega⟩
        go_wp2_with fail
        go_ret
        exact ⟨by rw [HE.out]; rfl, ⟨_, by rw [HE.out]; exact h2⟩, hkb⟩
      · have HE := Lib.hid (show writeS l false s keep = (l ++ (bytesS s).take (keepS s keep), 0) by rw [writeS, if_neg h1, if_neg (by simp), if_neg h3])
        have h3' : ¬ (65536 : Int) < (l.length : Int) + ((bytesS s).length : Int) := by omega
        have hk : (if ((bytesS s).length : Int) < (if keep < 0 then 0 else keep) then ((bytesS s).length : Int) else (if keep < 0 then 0 else keep)) = (keepS s keep : Nat) := by unfold keepS; split <;> split <;> omega
        generalize keepS s keep = kk at *
        generalize bytesS s = S at *
        have HW1 : Hid (wrap64 ((l.length : Int) + (S.length : Int)) = (l.length : Int) + (S.length : Int)) := IntWalk.wrap64_in _ ⟨by have := HBL.out; omega, by have := HBL.out; omega⟩
        have hkk : (kk : Int) ≤ (S.length : Int) := by have := HKL.out; omega
        have hx := take_eq S kk
        have HYL := Lib.hid (show (S.take kk).length ≤ 1100 by have := HBL.out; rw [List.length_take]; omega)
        generalize S.take kk = Y at *
        have hBw1 : B ≤ w1.heap.size := Nat.le_trans hBw hkb.size
        have hf := h2.free
        have hap := h2.apart
        go_upto_region 10 with (fail)
        have H2 := Lib.hid h2
        have HKB := Lib.hid hkb
        have hown := h2.2.2
        clear h h2 hkb c1
        go_region_law ((refine step_append_str (by rfl) _ _ (by rfl) (by rfl) (by exact hown.drew) (by rfl) (by have := HYL.out; omega) (by exact hBw1) ?_; intro A6 cap6 w6 hown6 hg6; have hg6 : w1.grownBy w6 (Value.ownBlock (.slice A l.length cap)) := drewN_grown (n := 1) (by exact hg6); have hbk6 := (hg6.block b H2.out.lt hap).trans H2.out.2.1; have d0 : w6.cell? ⟨b, 0, none⟩ = some (.slice A l.length cap) := cell_of_row _ _ 0 _ _ _ hbk6; have df : w6.frozen? ⟨b, 0, none⟩ = false := by simp [World.frozen?, hbk6]))
        all_goals
          go_wp2_with fail
          all_goals
            go_ret
            have HL := log_store H2.out hown6 hg6
            rw [List.length_append] at HL
            exact ⟨by rw [HE.out]; rfl, ⟨_, by rw [HE.out]; exact HL.1⟩, HKB.out.trans HL.2⟩
end Go.Proofs.YtomfmejodmfioaaGreat
