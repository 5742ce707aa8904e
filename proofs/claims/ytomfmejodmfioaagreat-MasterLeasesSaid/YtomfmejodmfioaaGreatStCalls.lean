/- The log's other calls. -/
import Derived.Test.YtomfmejodmfioaaGreatStWrite
import Derived.Lib.BufferRead
namespace Go.Proofs.YtomfmejodmfioaaGreat
open Go.RowKit Go.ChangeShapes Go.WideShapes Go.Joins Go.Deep
set_option linter.unusedVariables false

set_option maxRecDepth 100000 in
theorem append_any {B b : Nat} {w : World} {v : Value} {l s : List UInt8} {t : Bool} (h : LogAt B w b v l t) (hl : l.length ≤ 65536) (hs : s.length ≤ maxLen) (hBw : B ≤ w.heap.size) :
    Calls Tryz.prog 51 #[.pointer (some ⟨b, 0, none⟩), .string ⟨s.toArray⟩] w fun e w' => e = .returned (.int .i64 (writeS l t s 1099511627776).2) ∧ (∃ v', LogAt B w' b v' (writeS l t s 1099511627776).1 t) ∧ KeptL w w' b v.ownBlock := by
  go_enter Tryz.func51, Tryz.ntmps51
  go_wp2_with fail
  refine (write_any h hl hs hBw 1099511627776).mono ?_
  rintro e w1 ⟨rfl, hL, hk⟩
  go_wp2_with fail
  go_ret
  exact ⟨rfl, hL, hk⟩
theorem append_nil (s : ByteArray) (w : World) : Calls Tryz.prog 51 #[.pointer none, .string s] w fun e w' => e = .returned (.int .i64 12) ∧ w = w' := by
  go_enter Tryz.func51, Tryz.ntmps51
  go_wp2_with fail
  refine (write_nil s _ w).mono ?_
  rintro e w1 ⟨rfl, rfl⟩
  go_wp2_with fail
  go_ret
  exact ⟨rfl, rfl⟩

/-- What a crash leaves: the bytes, whether torn, the error. -/
def tornS (l : List UInt8) (t : Bool) (s : List UInt8) (keep : Int) : Bool := if (writeS l t s keep).2 = 0 then true else t
theorem LogAt.setTorn {B b : Nat} {w : World} {v : Value} {l : List UInt8} {t : Bool} (h : LogAt B w b v l t) (u : Bool) : LogAt B (w.setCell ⟨b, 1, none⟩ (.bool u)) b v l u :=
  ⟨h.1, by have := h.2.1; simp [World.setCell, Array.getElem?_modify, this], h.2.2.kept (grown_setCell w b 1 (.bool u)) (.inr fun e => h.apart e.symm)⟩
theorem kept_set (w : World) (b i : Nat) (u : Value) (r : Option Nat) : KeptL w (w.setCell ⟨b, i, none⟩ u) b r :=
  ⟨rfl, rfl, rfl, by simp [World.setCell], fun k _ hk _ => (grown_setCell w b i u).block k ‹_› (by simpa using hk)⟩
set_option maxRecDepth 100000 in
theorem crash_any {B b : Nat} {w : World} {v : Value} {l s : List UInt8} {t : Bool} (h : LogAt B w b v l t) (hl : l.length ≤ 65536) (hs : s.length ≤ maxLen) (hBw : B ≤ w.heap.size) (keep : Int) :
    Calls Tryz.prog 44 #[.pointer (some ⟨b, 0, none⟩), .string ⟨s.toArray⟩, .int .i64 keep] w fun e w' => e = .returned (.int .i64 (writeS l t s keep).2) ∧ (∃ v', LogAt B w' b v' (writeS l t s keep).1 (tornS l t s keep)) ∧ KeptL w w' b v.ownBlock := by
  go_enter Tryz.func44, Tryz.ntmps44
  go_wp2_with fail
  refine (write_any h hl hs hBw keep).mono ?_
  rintro e w1 ⟨rfl, ⟨v', hL⟩, hk⟩
  obtain ⟨x, hx⟩ : ∃ x, (writeS l t s keep).2 = x := ⟨_, rfl⟩
  have HT := Lib.hid (show tornS l t s keep = if x = 0 then true else t by rw [tornS, hx])
  rw [hx]
  have HX := Lib.hid hx
  have HL := Lib.hid hL
  have HK := Lib.hid hk
  have c1 := hL.cell1
  have hf := hL.free
  clear h hL hk hx
  by_cases h0 : x = 0
  · subst h0
    have HE := Lib.hid (HT.out.trans (if_pos rfl))
    go_wp2_with fail
    go_ret
    exact ⟨by rw [HX.out]; rfl, ⟨v', by rw [HE.out]; exact HL.out.setTorn true⟩, HK.out.trans (kept_set _ _ _ _ _)⟩
  · have HE := Lib.hid (HT.out.trans (if_neg h0))
    have h0' : (x == 0) = false := by simpa using h0
    go_wp2_with fail
    go_ret
    exact ⟨by rw [HX.out]; rfl, ⟨v', by rw [HE.out]; exact HL.out⟩, HK.out⟩
theorem crash_nil (s : ByteArray) (keep : Int) (w : World) : Calls Tryz.prog 44 #[.pointer none, .string s, .int .i64 keep] w fun e w' => e = .returned (.int .i64 12) ∧ w = w' := by
  go_enter Tryz.func44, Tryz.ntmps44
  go_wp2_with fail
  refine (write_nil s _ w).mono ?_
  rintro e w1 ⟨rfl, rfl⟩
  go_wp2_with fail
  go_ret
  exact ⟨rfl, rfl⟩

theorem log_text {B b : Nat} {w : World} {A : Option Addr} {n cap : Nat} {l : List UInt8} {t : Bool} (h : LogAt B w b (.slice A l.length cap) l t) (W : World) (hW : W.heap = w.heap) :
    (convert 112 9 (.slice A l.length cap)).run Tryz.prog W = .ok (.string ⟨l.toArray⟩) W := by
  rcases h.2.2.2 with ⟨hv, h0⟩ | ⟨g, cap', cur, hv, _, hg, _, _, _, ht⟩
  · have : l = [] := List.length_eq_zero_iff.1 h0
    subst this
    cases hv
    exact Lib.run_convert_nil_bytes W 112 9 5 0 Tryz.underlying112 Tryz.underlying5 Tryz.underlying9
  · cases hv
    refine run_convert_bytes_back (P := Tryz.prog) W 112 9 5 ⟨g, 0, none⟩ cap l Tryz.underlying112 Tryz.underlying5 Tryz.underlying9 (fun j hj => ?_)
    have hg' : W.heap[g]? = some (.cells cur 5 (0, 0)) := by rw [hW]; exact hg
    have := h.2.2.cellAt j (by omega)
    rw [addr_add, Nat.zero_add, cell_of_row _ _ _ _ _ _ hg', ← cell_of_row _ _ _ _ _ _ hg, this]
    simp [bcells, hj]

theorem size_nil (w : World) : Calls Tryz.prog 27 #[.pointer none] w fun e w' => e = .returned (.int .i64 0) ∧ w = w' := by
  go_enter Tryz.func27, Tryz.ntmps27
  go_wp2_with fail
  go_ret
  exact ⟨rfl, rfl⟩
theorem all_nil (w : World) : Calls Tryz.prog 28 #[.pointer none] w fun e w' => e = .returned (.slice none 0 0) ∧ w = w' := by
  go_enter Tryz.func28, Tryz.ntmps28
  go_wp2_with fail
  go_ret
  exact ⟨rfl, rfl⟩
theorem recover_nil (w : World) : Calls Tryz.prog 53 #[.pointer none] w fun e w' => e = .returned (.slice none 0 0) ∧ w = w' := by
  go_enter Tryz.func53, Tryz.ntmps53
  go_wp2_with fail
  go_ret
  exact ⟨rfl, rfl⟩
set_option maxRecDepth 100000 in
theorem size_any {B b : Nat} {w : World} {v : Value} {l : List UInt8} {t : Bool} (h : LogAt B w b v l t) :
    Calls Tryz.prog 27 #[.pointer (some ⟨b, 0, none⟩)] w fun e w' => e = .returned (.int .i64 (l.length : Nat)) ∧ w = w' := by
  obtain ⟨A, cap, rfl⟩ := h.form
  have c0 := h.cell0
  clear h
  go_enter Tryz.func27, Tryz.ntmps27
  go_wp2_with fail
  go_ret
  exact ⟨rfl, rfl⟩
set_option maxRecDepth 100000 in
theorem all_any {B b : Nat} {w : World} {v : Value} {l : List UInt8} {t : Bool} (h : LogAt B w b v l t) (hl : l.length ≤ 65536) :
    Calls Tryz.prog 28 #[.pointer (some ⟨b, 0, none⟩)] w fun e w' => ∃ a cap, e = .returned (.slice a (scanS l).1.length cap) ∧ StrsO w.heap.size w' (.slice a (scanS l).1.length cap) (scanS l).1 ∧ Below w.heap.size w w' := by
  obtain ⟨A, cap, rfl⟩ := h.form
  have c0 := h.cell0
  have hcv := log_text (n := 0) h w rfl
  clear h
  go_enter Tryz.func28, Tryz.ntmps28
  go_wp2_with fail
  refine (scan_any l (by omega) _).mono ?_
  rintro e w1 ⟨a, cap1, rfl, hv, hb⟩
  go_wp2_with fail
  go_ret
  exact ⟨a, cap1, rfl, hv, hb⟩

theorem own_take {w : World} {B n k cap : Nat} {e : TypeId} {A : Option Addr} {xs : List Value} (h : w.ownsRow B e 1 (.slice A n cap) n xs) (hk : k ≤ n) : w.ownsRow B e 1 (.slice A k cap) k (xs.take k) := by
  refine ⟨by rw [List.length_take, h.1]; omega, ?_⟩
  rcases h.2 with ⟨hv, h0⟩ | ⟨g, cap', cur, hv, hg, hr, hn, hc, hs, ht⟩
  · simp only [Value.slice.injEq] at hv
    obtain ⟨rfl, rfl, rfl⟩ := hv
    have : k = 0 := by omega
    subst this
    exact .inl ⟨rfl, rfl⟩
  · simp only [Value.slice.injEq] at hv
    obtain ⟨rfl, _, rfl⟩ := hv
    exact .inr ⟨g, cap, cur, rfl, hg, hr, by omega, hc, hs, by rw [← ht, List.take_take, Nat.mul_one, Nat.mul_one, Nat.min_eq_left (by omega)]⟩
theorem own_cap {w : World} {B n cap : Nat} {e : TypeId} {A : Option Addr} {xs : List Value} (h : w.ownsRow B e 1 (.slice A n cap) n xs) : n ≤ cap ∧ cap ≤ maxLen := by
  rcases h.2 with ⟨hv, h0⟩ | ⟨g, cap', cur, hv, hg, hr, hn, hc, hs, ht⟩
  · simp only [Value.slice.injEq] at hv
    exact ⟨by omega, by rw [hv.2.2]; exact Nat.zero_le _⟩
  · simp only [Value.slice.injEq] at hv
    obtain ⟨rfl, _, rfl⟩ := hv
    exact ⟨hn, hc⟩
theorem scan_le (l : List UInt8) : (scanS l).2 ≤ l.length := by
  obtain ⟨tail, h1, h2, _⟩ := scan_form _ l (Nat.le_refl _)
  have := congrArg List.length h1
  rw [List.length_append] at this
  omega
theorem LogAt.setRow {B b : Nat} {w : World} {v v2 : Value} {l l2 : List UInt8} {t : Bool} (h : LogAt B w b v l t) (hown : w.ownsRow B 5 1 v2 l2.length (bcells l2)) : LogAt B (w.setCell ⟨b, 0, none⟩ v2) b v2 l2 t :=
  ⟨h.1, by have := h.2.1; simp [World.setCell, Array.getElem?_modify, this], hown.kept (grown_setCell w b 0 v2) (.inr fun e => own_apart h.2.1 hown (by decide) e.symm)⟩
theorem StrsV.grownQ {w w' : World} {v : Value} {L : List (List UInt8)} {X : Nat} {cs : Array Value} {T : TypeId} {fr : Nat × Nat} (h : StrsV w v L) (hX : w.heap[X]? = some (.cells cs T fr)) (hn : ∀ (i : Nat) (s : ByteArray), cs[i]? ≠ some (.string s)) (hg : w.grownBy w' (some X)) : StrsV w' v L := by
  obtain ⟨a, cap, rfl, hl, hs⟩ := h
  refine ⟨a, cap, rfl, hl, fun hp => ?_⟩
  obtain ⟨b, off, ha, hlt, hc⟩ := hs hp
  have hne : b ≠ X := by
    rintro rfl
    have h2 := hc 0 _ (List.getElem?_eq_getElem hp)
    rw [cell_of_row _ _ _ _ _ _ hX] at h2
    exact hn _ _ h2
  exact ⟨b, off, ha, Nat.lt_of_lt_of_le hlt hg.size, fun i l hi => (World.cell?_of_block (a := ⟨b, _, none⟩) (hg.block b hlt (by simpa using hne))).trans (hc i l hi)⟩
theorem not_str (v : Value) (A : Option Addr) (n cap : Nat) (t : Bool) (hv : v = .slice A n cap) : ∀ (i : Nat) (s : ByteArray), (#[v, .bool t] : Array Value)[i]? ≠ some (.string s) := by
  subst hv
  intro i s
  match i with
  | 0 => simp
  | 1 => simp
  | _ + 2 => simp
theorem bcells_take (l : List UInt8) (n : Nat) : (bcells l).take n = bcells (l.take n) := by simp [bcells, List.map_take]

set_option maxRecDepth 100000 in
set_option maxHeartbeats 1000000 in
theorem recover_any {B b : Nat} {w : World} {v : Value} {l : List UInt8} {t : Bool} (h : LogAt B w b v l t) (hl : l.length ≤ 65536) :
    Calls Tryz.prog 53 #[.pointer (some ⟨b, 0, none⟩)] w fun e w' => ∃ a cap, e = .returned (.slice a (scanS l).1.length cap) ∧ StrsO w.heap.size w' (.slice a (scanS l).1.length cap) (scanS l).1 ∧ (∃ v', LogAt B w' b v' (l.take (scanS l).2) false) ∧ KeptL w w' b none := by
  obtain ⟨A, cap, rfl⟩ := h.form
  have c0 := h.cell0
  have hcv := log_text (n := 0) h w rfl
  have hle := scan_le l
  have H := Lib.hid h
  clear h
  go_enter Tryz.func53, Tryz.ntmps53
  go_wp2_with fail
  refine (scan_any l (by omega) _).mono ?_
  rintro e w1 ⟨a, cap1, rfl, hv, hb⟩
  have h2 := H.out.below hb
  have hcap := own_cap h2.2.2
  have HT := Lib.hid (own_take h2.2.2 hle)
  clear c0 hcv
  have c0 := h2.cell0
  have c1 := h2.cell1
  have hf := h2.free
  have H2 := Lib.hid h2
  have HV := Lib.hid hv
  have HB := Lib.hid hb
  clear h2 hv hb
  generalize hn : (scanS l).2 = n at *
  generalize hL : (scanS l).1 = L at *
  have HN := Lib.hid hn
  have HLL := Lib.hid hL
  clear hn hL
  have hn1 : (n : Int) ≤ (cap : Int) := by omega
  go_wp2_with fail
  go_ret
  have h2 := H2.out
  have ht := HT.out
  rw [bcells_take] at ht
  have hnl : (l.take n).length = n := by rw [List.length_take]; omega
  have h3 : LogAt B (w1.setCell ⟨b, 0, none⟩ (.slice A n cap)) b (.slice A n cap) (l.take n) t := h2.setRow (by rw [hnl]; exact ht)
  have h4 := h3.setTorn false
  have hv1 : StrsO w.heap.size (w1.setCell ⟨b, 0, none⟩ (.slice A n cap)) (.slice a L.length cap1) L := World.ownsRow.kept HV.out (grown_setCell w1 b 0 (.slice A n cap)) (.inr fun e => own_apart h2.2.1 HV.out (by decide) e.symm)
  have hv : StrsO w.heap.size ((w1.setCell ⟨b, 0, none⟩ (.slice A n cap)).setCell ⟨b, 1, none⟩ (.bool false)) (.slice a L.length cap1) L := World.ownsRow.kept hv1 (grown_setCell _ b 1 (.bool false)) (.inr fun e => own_apart h3.2.1 hv1 (by decide) e.symm)
  have hb := HB.out
  have hk : KeptL w w1 b none := ⟨hb.os, hb.tape, hb.output, hb.size, fun k hk _ _ => hb.block k hk⟩
  refine ⟨a, cap1, by rw [HLL.out]; rfl, by rw [HLL.out]; exact hv, ⟨_, by rw [HN.out]; exact h4⟩, (hk.trans (kept_set _ _ _ _ _)).trans (kept_set _ _ _ _ _)⟩
/-- Another row stays as it was. -/
theorem own_keptL {B b n : Nat} {e : TypeId} {w w' : World} {v : Value} {xs : List Value} {r : Option Nat} (h : w.ownsRow B e 1 v n xs) (hk : KeptL w w' b r) (hvb : v.ownBlock ≠ some b) (hvr : v.ownBlock = none ∨ v.ownBlock ≠ r) : w'.ownsRow B e 1 v n xs := by
  refine ⟨h.1, ?_⟩
  rcases h.2 with h2 | ⟨g, cap, cur, rfl, hg, hr, hrest⟩
  · exact .inl h2
  · refine .inr ⟨g, cap, cur, rfl, hg, ?_, hrest⟩
    rw [hk.block g (Array.getElem?_eq_some_iff.1 hr).1 (fun e => hvb (by rw [e]; rfl)) (fun e => by
      rcases hvr with hv | hv
      · simp [Value.ownBlock] at hv
      · exact hv (by rw [← e]; rfl)), hr]
theorem own_types {B B' n m : Nat} {e e' : TypeId} {w : World} {v u : Value} {xs ys : List Value} (h : w.ownsRow B e 1 v n xs) (h' : w.ownsRow B' e' 1 u m ys) (hne : e ≠ e') : v.ownBlock = none ∨ v.ownBlock ≠ u.ownBlock := by
  rcases h.2 with ⟨rfl, _⟩ | ⟨g, cap, cur, rfl, _, hg, _⟩
  · exact .inl rfl
  · right
    intro he
    exact own_apart (b := g) hg h' (fun h => hne h.symm) he
/-- A row of texts stays as it was, whatever becomes of a log. -/
theorem StrsO.kept {B B' b : Nat} {w w' : World} {v u : Value} {L : List (List UInt8)} {l : List UInt8} {t : Bool} {r : Option Nat} (h : StrsO B w v L) (hl : LogAt B' w b u l t) (hk : KeptL w w' b r) (hr : r = none ∨ r = u.ownBlock) : StrsO B w' v L := by
  refine own_keptL h hk (fun e => own_apart hl.2.1 h (by decide) e.symm) ?_
  rcases hr with rfl | rfl
  · rcases Classical.em (v.ownBlock = none) with h1 | h1
    · exact .inl h1
    · exact .inr h1
  · exact own_types h hl.2.2 (by decide)
end Go.Proofs.YtomfmejodmfioaaGreat
