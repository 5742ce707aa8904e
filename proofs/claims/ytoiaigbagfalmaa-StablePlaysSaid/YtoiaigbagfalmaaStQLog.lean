/- The document's log. -/
import Derived.Test.YtoiaigbagfalmaaStKeep
import Derived.Deep.RegionLaw
namespace Go.Proofs.Ytoiaigbagfalmaa
open Go.RowKit Go.ChangeShapes Go.WideShapes Go.Joins Go.Deep
set_option linter.unusedVariables false

/-- Block b is the document's log. -/
def QLogAt (w : World) (b : Nat) (l : List UInt8) (t : Bool) : Prop := w.heap[b]? = some (.cells #[.string ⟨l.toArray⟩, .bool t] 43 (0, 0))
section
variable {b : Nat} {w w' : World} {l : List UInt8} {t : Bool}
theorem QLogAt.lt (h : QLogAt w b l t) : b < w.heap.size := (Array.getElem?_eq_some_iff.1 h).1
theorem QLogAt.cell0 (h : QLogAt w b l t) : w.cell? ⟨b, 0, none⟩ = some (.string ⟨l.toArray⟩) := cell_of_row _ _ 0 _ _ _ h
theorem QLogAt.cell1 (h : QLogAt w b l t) : w.cell? ⟨b, 1, none⟩ = some (.bool t) := cell_of_row _ _ 1 _ _ _ h
theorem QLogAt.free (h : QLogAt w b l t) (i : Nat) : w.frozen? ⟨b, i, none⟩ = false := by
  unfold QLogAt at h
  simp [World.frozen?, h]
theorem QLogAt.below (h : QLogAt w b l t) (hb : Below w.heap.size w w') : QLogAt w' b l t := (hb.block b h.lt).trans h
theorem QLogAt.grown {c : Nat} (h : QLogAt w b l t) (hg : w.grownBy w' (some c)) (hne : b ≠ c) : QLogAt w' b l t := (hg.block _ h.lt (by simpa using hne)).trans h
theorem QLogAt.set0 (h : QLogAt w b l t) (m : List UInt8) : QLogAt (w.setCell ⟨b, 0, none⟩ (.string ⟨m.toArray⟩)) b m t := by
  unfold QLogAt at h ⊢
  simp [World.setCell, Array.getElem?_modify, h]
theorem QLogAt.set1 (h : QLogAt w b l t) (u : Bool) : QLogAt (w.setCell ⟨b, 1, none⟩ (.bool u)) b l u := by
  unfold QLogAt at h ⊢
  simp [World.setCell, Array.getElem?_modify, h]
end
/-- What the document's Crash leaves: the bytes, whether torn. -/
def qKeep (whole : Bool) (keep : Int) : Int := if whole = true then 1099511627776 else keep
def qTorn (l : List UInt8) (t : Bool) (s : List UInt8) (keep : Int) (whole : Bool) : Bool := if whole = true then t else tornS l t s keep

set_option maxRecDepth 100000 in
set_option maxHeartbeats 4000000 in
theorem qcrash_any {b : Nat} {w : World} {l s : List UInt8} {t : Bool} (h : QLogAt w b l t) (hl : l.length ≤ 65536) (hs : s.length ≤ maxLen) (keep : Int) (whole : Bool) :
    Calls Try.prog 19 #[.pointer (some ⟨b, 0, none⟩), .string ⟨s.toArray⟩, .int .i64 keep, .bool whole] w fun e w' => e = .returned (.int .i64 (writeS l t s (qKeep whole keep)).2) ∧ QLogAt w' b (writeS l t s (qKeep whole keep)).1 (qTorn l t s keep whole) ∧ w.grownBy w' (some b) := by
  unfold maxLen at hs
  by_cases h1 : 1024 < s.length
  · have HE : ∀ k, Hid (writeS l t s k = (l, 15)) := fun k => by show writeS l t s k = _; rw [writeS, if_pos h1]
    have HT : Hid (qTorn l t s keep whole = t) := by
      show qTorn l t s keep whole = t
      rw [qTorn, tornS, (HE keep).out]
      cases whole <;> simp
    have h1' : (1024 : Int) < (s.length : Int) := by omega
    go_enter Try.func19, Try.ntmps19
    go_wp2_with fail
    go_ret
    exact ⟨by rw [(HE _).out]; rfl, by rw [(HE _).out, HT.out]; exact h, World.grownBy.refl _ _⟩
  · have h1' : ¬ (1024 : Int) < (s.length : Int) := by omega
    cases t with
    | true =>
      have HE : ∀ k, Hid (writeS l true s k = (l, 13)) := fun k => by show writeS l true s k = _; rw [writeS, if_neg h1, if_pos rfl]
      have HT : Hid (qTorn l true s keep whole = true) := by
        show qTorn l true s keep whole = true
        rw [qTorn, tornS, (HE keep).out]
        cases whole <;> simp
      have c1 := h.cell1
      have H := Lib.hid h
      clear h
      go_enter Try.func19, Try.ntmps19
      go_wp2_with fail
      go_ret
      exact ⟨by rw [(HE _).out]; rfl, by rw [(HE _).out, HT.out]; exact H.out, World.grownBy.refl _ _⟩
    | false =>
      have hbl := bytesS_len s
      have hel := encS_len s
      have c0 := h.cell0
      have c1 := h.cell1
      have H := Lib.hid h
      clear h
      go_enter Try.func19, Try.ntmps19
      go_wp2_with fail
      refine (qbytes_any s (by omega) _).mono ?_
      rintro e w1 ⟨rfl, b1⟩
      have h2 := H.out.below b1
      clear c0 c1
      have c0 := h2.cell0
      have c1 := h2.cell1
      have hgb : w.grownBy w1 (some b) := ⟨b1.os, b1.tape, b1.output, b1.size, fun k hk _ => b1.block k hk⟩
      have HBL := Lib.hid (show (bytesS s).length ≤ 1100 by omega)
      have HGB := Lib.hid hgb
      clear hbl hel b1 hgb
      by_cases h3 : 65536 < l.length + (bytesS s).length
      · have HE : ∀ k, Hid (writeS l false s k = (l, 5)) := fun k => by show writeS l false s k = _; rw [writeS, if_neg h1, if_neg (by simp), if_pos h3]
        have HT : Hid (qTorn l false s keep whole = false) := by
          show qTorn l false s keep whole = false
          rw [qTorn, tornS, (HE keep).out]
          cases whole <;> simp
        have h3' : (65536 : Int) < (l.length : Int) + ((bytesS s).length : Int) := by omega
        have hb1 : ((bytesS s).length : Int) ≤ 1100 := by have := HBL.out; omega
        have H2 := Lib.hid h2
        clear h2
        generalize bytesS s = X at *
        go_wp2_with fail
        go_ret
        exact ⟨by rw [(HE _).out]; rfl, by rw [(HE _).out, HT.out]; exact H2.out, HGB.out⟩
      · have h3' : ¬ (65536 : Int) < (l.length : Int) + ((bytesS s).length : Int) := by omega
        have hb1 : ((bytesS s).length : Int) ≤ 1100 := by have := HBL.out; omega
        have hf := h2.free
        cases whole with
        | true =>
          have HE := Lib.hid (show writeS l false s (qKeep true keep) = (l ++ bytesS s, 0) by rw [qKeep, if_pos rfl, writeS, if_neg h1, if_neg (by simp), if_neg h3, keepS_all (by omega)])
          have HT := Lib.hid (show qTorn l false s keep true = false from rfl)
          have hcat : (⟨l.toArray⟩ : ByteArray) ++ ⟨(bytesS s).toArray⟩ = ⟨(l ++ bytesS s).toArray⟩ := by rw [← ByteArray.mk_append_mk]
          have H2 := Lib.hid h2
          clear h2 c1
          have hsum : ¬ 9223372036854775807 < l.length + (bytesS s).length := by omega
          generalize bytesS s = X at *
          go_wp2_with fail
          go_ret
          exact ⟨by rw [HE.out]; rfl, by rw [HE.out, HT.out]; first | exact H2.out.set0 _ | (rw [hcat]; exact H2.out.set0 _), HGB.out.trans (grown_setCell _ _ _ _)⟩
        | false =>
          have HE := Lib.hid (show writeS l false s (qKeep false keep) = (l ++ (bytesS s).take (keepS s keep), 0) by rw [qKeep, if_neg (by simp), writeS, if_neg h1, if_neg (by simp), if_neg h3])
          have HT := Lib.hid (show qTorn l false s keep false = true by
            have h0 : writeS l false s keep = (l ++ (bytesS s).take (keepS s keep), 0) := by rw [writeS, if_neg h1, if_neg (by simp), if_neg h3]
            rw [qTorn, if_neg (by simp), tornS, h0]
            simp)
          have hk : (if ((bytesS s).length : Int) < (if keep < 0 then 0 else keep) then ((bytesS s).length : Int) else (if keep < 0 then 0 else keep)) = (keepS s keep : Nat) := by unfold keepS; split <;> split <;> omega
          have HKL := Lib.hid (keepS_le s keep)
          have H2 := Lib.hid h2
          clear h2 
          generalize keepS s keep = kk at *
          generalize bytesS s = X at *
          have hkk : (kk : Int) ≤ (X.length : Int) := by have := HKL.out; omega
          have hx := take_eq X kk
          have HYL := Lib.hid (show (X.take kk).length ≤ 1100 by have := HBL.out; rw [List.length_take]; omega)
          have hcat : (⟨l.toArray⟩ : ByteArray) ++ ⟨(X.take kk).toArray⟩ = ⟨(l ++ X.take kk).toArray⟩ := by rw [← ByteArray.mk_append_mk]
          have hsum : ¬ 9223372036854775807 < l.length + (X.take kk).length := by have := HYL.out; omega
          generalize X.take kk = Y at *
          go_upto_region 10 with (fail)
          go_region_law (fail)
          all_goals
            go_wp2_with fail
            all_goals
              go_ret
              exact ⟨by rw [HE.out]; rfl, by rw [HE.out, HT.out]; first | exact (H2.out.set0 _).set1 true | (rw [hcat]; exact (H2.out.set0 _).set1 true), by exact grown_drewN ((HGB.out.trans (grown_setCell _ _ _ _)).trans (grown_setCell _ _ _ _)) 1⟩

set_option maxRecDepth 100000 in
set_option maxHeartbeats 1000000 in
theorem qrecover_any {b : Nat} {w : World} {l : List UInt8} {t : Bool} (h : QLogAt w b l t) (hl : l.length ≤ 65536) :
    Calls Try.prog 20 #[.pointer (some ⟨b, 0, none⟩)] w fun e w' => ∃ a cap, e = .returned (.slice a (scanS l).1.length cap) ∧ StrsO w.heap.size w' (.slice a (scanS l).1.length cap) (scanS l).1 ∧ QLogAt w' b (l.take (scanS l).2) false ∧ w.grownBy w' (some b) := by
  have c0 := h.cell0
  have hle := scan_le l
  have H := Lib.hid h
  have hlt := h.lt
  clear h
  go_enter Try.func20, Try.ntmps20
  go_wp2_with fail
  refine (qscan_any l (by omega) _).mono ?_
  rintro e w1 ⟨a, cap1, rfl, hv, hb⟩
  have h2 := H.out.below hb
  clear c0
  have c0 := h2.cell0
  have c1 := h2.cell1
  have hf := h2.free
  have H2 := Lib.hid h2
  have HV := Lib.hid hv
  have HB := Lib.hid hb
  have HLT := Lib.hid (show some b ≠ Value.ownBlock (.slice a (scanS l).1.length cap1) from fun e => by have := (World.ownsRow.lt hv b e.symm).1; omega)
  clear h2 hv hb
  generalize hn : (scanS l).2 = n at *
  generalize hL : (scanS l).1 = L at *
  have HN := Lib.hid hn
  have HLL := Lib.hid hL
  clear hn hL
  have hn1 : (n : Int) ≤ (l.length : Int) := by omega
  have hx := take_eq l n
  go_wp2_with fail
  go_ret
  have hv1 : StrsO w.heap.size (w1.setCell ⟨b, 0, none⟩ (.string ⟨(l.take n).toArray⟩)) (.slice a L.length cap1) L := World.ownsRow.kept HV.out (grown_setCell w1 b 0 _) (.inr fun e => HLT.out e.symm)
  have hv2 : StrsO w.heap.size ((w1.setCell ⟨b, 0, none⟩ (.string ⟨(l.take n).toArray⟩)).setCell ⟨b, 1, none⟩ (.bool false)) (.slice a L.length cap1) L := World.ownsRow.kept hv1 (grown_setCell _ b 1 _) (.inr fun e => HLT.out e.symm)
  have hb := HB.out
  have hg : w.grownBy w1 (some b) := ⟨hb.os, hb.tape, hb.output, hb.size, fun k hk _ => hb.block k hk⟩
  refine ⟨a, cap1, by rw [HLL.out]; rfl, by rw [HLL.out]; exact hv2, by rw [HN.out]; exact (H2.out.set0 _).set1 false, (hg.trans (grown_setCell _ _ _ _)).trans (grown_setCell _ _ _ _)⟩
end Go.Proofs.Ytoiaigbagfalmaa
