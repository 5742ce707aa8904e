/- The contracts of a strings.Builder that a call made itself. A builder's writes, and what they leave as it was. -/
import Derived.Test.YtomfmejodmfioaaGreatKCodec
import Derived.Test.YtomfmejodmfioaaGreatShelf
import Derived.Lib.Builder
import Derived.Lib.AppendStr
import Derived.Lib.UnsafeStr
import Derived.Laws.Externs
namespace Go.Proofs.YtomfmejodmfioaaGreat
open Go.RowKit Go.ChangeShapes Go.WideShapes Go.Joins
set_option linter.unusedVariables false

/-- Block b is a builder of the call's own (from B on) that holds the bytes l. -/
def BldAt (B b : Nat) (l : List UInt8) (w : World) : Prop := Lib.IsBuilder 132 5 B b (bcells l) w

theorem below_grown {w w' : World} (h : Below w.heap.size w w') : w.grownBy w' none := ⟨h.os, h.tape, h.output, h.size, fun k hk _ => h.block k hk⟩
theorem BldAt.lt {B b : Nat} {l : List UInt8} {w : World} (h : BldAt B b l w) : b < w.heap.size := by
  rcases h with h | h
  · exact h.lt
  · exact h.lt
theorem BldAt.grown {B b : Nat} {l : List UInt8} {w w' : World} {row : Option Nat} (h : BldAt B b l w) (hg : w.grownBy w' row) (hr : ∀ k, row = some k → k < B) : BldAt B b l w' := by
  have key : ∀ p, Lib.BuilderAt 132 5 B b p (bcells l) w → Lib.BuilderAt 132 5 B b p (bcells l) w' := by
    intro p h
    have hlt := h.lt
    obtain ⟨hB, v, hbk, hown, hne⟩ := h
    refine ⟨hB, v, ?_, ?_, hne⟩
    · rw [hg.block b hlt (fun e => by have := hr b e.symm; omega)]
      exact hbk
    · rcases row with _ | k
      · refine hown.kept hg ?_
        rcases hv : v.ownBlock with _ | g
        · exact .inl rfl
        · exact .inr (by simp)
      · refine hown.kept hg (.inr ?_)
        intro e
        have h1 := hr k rfl
        have h2 := (hown.lt k e).1
        omega
  rcases h with h | h
  · exact .inl (key _ h)
  · exact .inr (key _ h)
theorem BldAt.below {B b : Nat} {l : List UInt8} {w w' : World} (h : BldAt B b l w) (hb : Below w.heap.size w w') : BldAt B b l w' := h.grown (below_grown hb) (by intro k hk; cases hk)
theorem BldAt.fresh (w : World) : BldAt w.heap.size w.heap.size [] (w.alloc (.cells #[.pointer none, .slice none 0 0] 132)) := Lib.fresh_isBuilder _ _ w

theorem bld_info : (Tryz.prog.info? 132).map (·.size) = some 2 := by kernel_rfl
theorem bld_lies : liesAt Tryz.prog Tryz.prog.depth 132 (2 / Tryz.prog.cellsOf 132) 0 132 1 = true := by kernel_rfl

set_option maxHeartbeats 1000000 in
set_option maxRecDepth 100000 in
theorem chk_used (b : Nat) (w : World) (h0 : w.cell? ⟨b, 0, none⟩ = some (.pointer (some ⟨b, 0, none⟩))) :
    Calls Tryz.prog 95 #[.pointer (some ⟨b, 0, none⟩)] w fun e w' => e = .returned (.tuple #[]) ∧ w' = w := by
  obtain ⟨j, hj, _⟩ := Option.map_eq_some_iff.1 bld_info
  go_enter Tryz.func95, Tryz.ntmps95
  go_wp2
  rw [Lib.run_neq_ptr_same w _ Tryz.underlying130 hj]
  go_wp2
  go_end0
  exact ⟨rfl, rfl⟩

set_option maxHeartbeats 1000000 in
set_option maxRecDepth 100000 in
theorem chk_fresh (b : Nat) (w : World) (h0 : w.cell? ⟨b, 0, none⟩ = some (.pointer none)) (hsh : w.shape? b = some (132, 2)) (hfz : w.frozen? ⟨b, 0, none⟩ = false) :
    Calls Tryz.prog 95 #[.pointer (some ⟨b, 0, none⟩)] w fun e w' => e = .returned (.tuple #[]) ∧ w' = w.setCell ⟨b, 0, none⟩ (.pointer (some ⟨b, 0, none⟩)) := by
  obtain ⟨j, hj, hjs⟩ := Option.map_eq_some_iff.1 bld_info
  go_enter Tryz.func95, Tryz.ntmps95
  go_wp2
  rw [Lib.run_to_unsafe w ⟨b, 0, none⟩ Tryz.underlying130 Tryz.underlying182 hj (by rw [hjs]; decide) hsh (Nat.zero_lt_succ 1)]
  simp only [Result.andThen]
  rw [Oper.upon_value]
  go_wp2
  rw [run_callFunc_extern Tryz.func106 (by kernel_rfl) (by kernel_rfl) (by kernel_rfl) (e := Extern.AbiNoEscape.same) (by kernel_rfl)]
  rw [Lib.run_noEscape]
  simp only [Result.andThen]
  rw [Oper.upon_value]
  go_wp2
  rw [Lib.run_from_unsafe w ⟨b, 0, none⟩ Tryz.underlying182 Tryz.underlying130 hj hsh bld_lies]
  simp only [Result.andThen]
  rw [Oper.upon_value]
  go_wp2
  go_end0
  exact ⟨rfl, rfl⟩

theorem chk_any (B b : Nat) (bs : List Value) (w : World) (h : Lib.IsBuilder 132 5 B b bs w) :
    Calls Tryz.prog 95 #[.pointer (some ⟨b, 0, none⟩)] w fun e w' => e = .returned (.tuple #[]) ∧ (Lib.BuilderAt 132 5 B b (.pointer (some ⟨b, 0, none⟩)) bs w' ∧ Below B w w') := by
  rcases h with h | h
  · refine (chk_fresh b w h.cell0 h.shape h.frozen0).mono ?_
    rintro e w' ⟨rfl, rfl⟩
    exact ⟨rfl, h.used _, (Below.refl B w).setCell (p := ⟨b, 0, none⟩) h.1 _⟩
  · refine (chk_used b w h.cell0).mono ?_
    rintro e w' ⟨rfl, rfl⟩
    exact ⟨rfl, h, Below.refl B _⟩

set_option maxHeartbeats 2000000 in
set_option maxRecDepth 100000 in
theorem wstr_any {B b : Nat} {l : List UInt8} {w : World} (s : List UInt8) (h : BldAt B b l w) (hlen : l.length + s.length ≤ 100000000) (hBw : B ≤ w.heap.size) :
    Calls Tryz.prog 93 #[.pointer (some ⟨b, 0, none⟩), .string ⟨s.toArray⟩] w fun e w' => e = .returned (.tuple #[.int .i64 s.length, .nilIface]) ∧ BldAt B b (l ++ s) w' ∧ Below B w w' := by
  obtain ⟨i0, hi, hz0, hz1, hz2⟩ := info_parts u8_info
  have hbl : (bcells l).length = l.length := bcells_len l
  go_enter Tryz.func93, Tryz.ntmps93
  go_wp2_with fail
  refine (chk_any B b (bcells l) _ h).mono ?_
  rintro e w1 ⟨rfl, h1, hb1⟩
  obtain ⟨hB, v, hbk, hown, hne⟩ := h1
  have c0 : w1.cell? ⟨b, 0, none⟩ = some (.pointer (some ⟨b, 0, none⟩)) := by rw [Lib.cell_of_heap hbk]; rfl
  have c1 : w1.cell? ⟨b, 1, none⟩ = some v := by rw [Lib.cell_of_heap hbk]; rfl
  go_wp2_with (at_builtin; refine Lib.wpList_append_own_string _ rfl _ _ 112 9 rfl B 5 i0 Tryz.underlying112 Tryz.underlying9 hi hz0 hz1 hz2 _ _ _ rfl hown ⟨s.toArray⟩ rfl ?c3 ?c4 ?c5 ?_)
  case c3 => rw [hbl]; unfold maxLen; simp [ByteArray.size]; omega
  case c4 => rw [hbl]; simp [ByteArray.size]; omega
  case c5 => have := hb1.size; omega
  intro v' w2 hown' hgrow _
  have hlt : b < w1.heap.size := by
    rcases Nat.lt_or_ge b w1.heap.size with h' | h'
    · exact h'
    · simp [Array.getElem?_eq_none h'] at hbk
  have hb2 : w2.heap[b]? = some (.cells #[.pointer (some ⟨b, 0, none⟩), v] 132 (0, 0)) := by
    rw [hgrow.block b hlt (fun e => hne e.symm)]
    exact hbk
  have d0 : w2.cell? ⟨b, 0, none⟩ = some (.pointer (some ⟨b, 0, none⟩)) := by rw [Lib.cell_of_heap hb2]; rfl
  have d1 : w2.cell? ⟨b, 1, none⟩ = some v := by rw [Lib.cell_of_heap hb2]; rfl
  have f1 : w2.frozen? ⟨b, 1, none⟩ = false := Lib.frozen_of_heap hb2 1
  obtain ⟨ao, n', cap, rfl⟩ : ∃ ao n' cap, v' = .slice ao n' cap := by
    rcases hown'.2 with ⟨hv, _⟩ | ⟨g, cap, cur, hv, _⟩
    · exact ⟨_, _, _, hv⟩
    · exact ⟨_, _, _, hv⟩
  have hsc : Lib.strCells ⟨s.toArray⟩ = bcells s := rfl
  have hap : bcells l ++ bcells s = bcells (l ++ s) := by simp [bcells]
  have hfin : BldAt B b (l ++ s) (w2.setCell ⟨b, 1, none⟩ (.slice ao n' cap)) := by
    have h := Lib.BuilderAt.put (T := 132) (e := 5) hB hb2 (bs' := bcells l ++ Lib.strCells ⟨s.toArray⟩) (by rw [List.length_append, Lib.strCells_length, bcells_len]; exact hown') (by decide)
    rw [hsc, hap] at h
    exact .inr h
  have HF := Lib.hid hfin
  clear hfin hsc hap hbl
  go_wp2
  go_ret2
  exact ⟨rfl, HF.out, (hb1.grown hgrow (by have := hb1.size; omega) (fun k hk => (hown.lt k hk).1)).setCell (p := ⟨b, 1, none⟩) hB _⟩

theorem bstr_any {B b : Nat} {l : List UInt8} {w : World} (h : BldAt B b l w) (hBw : B ≤ w.heap.size) :
    Calls Tryz.prog 76 #[.pointer (some ⟨b, 0, none⟩)] w fun e w' => e = .returned (.string ⟨l.toArray⟩) ∧ Below B w w' := Tryz.Builder_String_any B b l w h hBw
end Go.Proofs.YtomfmejodmfioaaGreat
namespace Go.Proofs.YtomfmejodmfioaaGreat
open Go.RowKit Go.ChangeShapes Go.WideShapes Go.Joins
set_option linter.unusedVariables false

/-- What lies in blocks of other kinds than bytes and builders is as it was. -/
def TKeep (w w' : World) : Prop := ∀ (a : Nat) (T : TypeId) (cs : Array Value) (fr : Nat × Nat), w.heap[a]? = some (.cells cs T fr) → T ≠ 5 → T ≠ 132 → w'.heap[a]? = some (.cells cs T fr)
theorem TKeep.refl (w : World) : TKeep w w := fun _ _ _ _ h _ _ => h
theorem TKeep.trans {a b c : World} (h : TKeep a b) (g : TKeep b c) : TKeep a c := fun x T cs fr hx h1 h2 => g x T cs fr (h x T cs fr hx h1 h2) h1 h2
theorem TKeep.grown {w w' : World} {g : Option Nat} (hg : w.grownBy w' g) (ht : ∀ k, g = some k → ∃ cs T fr, w.heap[k]? = some (.cells cs T fr) ∧ (T = 5 ∨ T = 132)) : TKeep w w' := fun a T cs fr ha h1 h2 => by
  rw [hg.block a (Array.getElem?_eq_some_iff.1 ha).1 (fun e => by
    obtain ⟨cs', T', fr', h, ht⟩ := ht a e.symm
    rw [ha] at h
    injection h with h
    injection h with _ h _
    rcases ht with ht | ht
    · exact h1 (h.trans ht)
    · exact h2 (h.trans ht))]
  exact ha
theorem TKeep.below {w w' : World} (h : Below w.heap.size w w') : TKeep w w' := fun a T cs fr ha _ _ => (h.block a (Array.getElem?_eq_some_iff.1 ha).1).trans ha
theorem chk_k (B b : Nat) (bs : List Value) (w : World) (h : Lib.IsBuilder 132 5 B b bs w) :
    Calls Tryz.prog 95 #[.pointer (some ⟨b, 0, none⟩)] w fun e w' => e = .returned (.tuple #[]) ∧ (Lib.BuilderAt 132 5 B b (.pointer (some ⟨b, 0, none⟩)) bs w' ∧ Below B w w' ∧ TKeep w w') := by
  rcases h with h | h
  · obtain ⟨hB, v, hbk, _⟩ := h
    have hbk' := hbk
    have h : Lib.BuilderAt 132 5 B b (.pointer none) bs w := ⟨hB, v, hbk, by assumption⟩
    refine (chk_fresh b w h.cell0 h.shape h.frozen0).mono ?_
    rintro e w' ⟨rfl, rfl⟩
    exact ⟨rfl, h.used _, (Below.refl B w).setCell (p := ⟨b, 0, none⟩) h.1 _, TKeep.grown (grown_setCell w b 0 _) (fun k hk => by cases hk; exact ⟨_, _, _, hbk', .inr rfl⟩)⟩
  · refine (chk_used b w h.cell0).mono ?_
    rintro e w' ⟨rfl, rfl⟩
    exact ⟨rfl, h, Below.refl B _, TKeep.refl _⟩
theorem own_kind {w : World} {base : Nat} {e : TypeId} {size : Nat} {v : Value} {n : Nat} {xs : List Value} (h : w.ownsRow base e size v n xs) : ∀ k, v.ownBlock = some k → ∃ cs T fr, w.heap[k]? = some (.cells cs T fr) ∧ T = e := by
  intro k hk
  rcases h.2 with ⟨rfl, _⟩ | ⟨g, cap, cur, rfl, hb, hg, _⟩
  · simp [Value.ownBlock] at hk
  · have : g = k := by simpa [Value.ownBlock] using hk
    subst this
    exact ⟨_, _, _, hg, rfl⟩

set_option maxHeartbeats 2000000 in
set_option maxRecDepth 100000 in
theorem wstr_k {B b : Nat} {l : List UInt8} {w : World} (s : List UInt8) (h : BldAt B b l w) (hlen : l.length + s.length ≤ 100000000) (hBw : B ≤ w.heap.size) :
    Calls Tryz.prog 93 #[.pointer (some ⟨b, 0, none⟩), .string ⟨s.toArray⟩] w fun e w' => e = .returned (.tuple #[.int .i64 s.length, .nilIface]) ∧ BldAt B b (l ++ s) w' ∧ Below B w w' ∧ TKeep w w' := by
  obtain ⟨i0, hi, hz0, hz1, hz2⟩ := info_parts u8_info
  have hbl : (bcells l).length = l.length := bcells_len l
  go_enter Tryz.func93, Tryz.ntmps93
  go_wp2_with fail
  refine (chk_k B b (bcells l) _ h).mono ?_
  rintro e w1 ⟨rfl, h1, hb1, k1⟩
  obtain ⟨hB, v, hbk, hown, hne⟩ := h1
  have c0 : w1.cell? ⟨b, 0, none⟩ = some (.pointer (some ⟨b, 0, none⟩)) := by rw [Lib.cell_of_heap hbk]; rfl
  have c1 : w1.cell? ⟨b, 1, none⟩ = some v := by rw [Lib.cell_of_heap hbk]; rfl
  go_wp2_with (at_builtin; refine Lib.wpList_append_own_string _ rfl _ _ 112 9 rfl B 5 i0 Tryz.underlying112 Tryz.underlying9 hi hz0 hz1 hz2 _ _ _ rfl hown ⟨s.toArray⟩ rfl ?c3 ?c4 ?c5 ?_)
  case c3 => rw [hbl]; unfold maxLen; simp [ByteArray.size]; omega
  case c4 => rw [hbl]; simp [ByteArray.size]; omega
  case c5 => have := hb1.size; omega
  intro v' w2 hown' hgrow _
  have hlt : b < w1.heap.size := by
    rcases Nat.lt_or_ge b w1.heap.size with h' | h'
    · exact h'
    · simp [Array.getElem?_eq_none h'] at hbk
  have hb2 : w2.heap[b]? = some (.cells #[.pointer (some ⟨b, 0, none⟩), v] 132 (0, 0)) := by
    rw [hgrow.block b hlt (fun e => hne e.symm)]
    exact hbk
  have d0 : w2.cell? ⟨b, 0, none⟩ = some (.pointer (some ⟨b, 0, none⟩)) := by rw [Lib.cell_of_heap hb2]; rfl
  have d1 : w2.cell? ⟨b, 1, none⟩ = some v := by rw [Lib.cell_of_heap hb2]; rfl
  have f1 : w2.frozen? ⟨b, 1, none⟩ = false := Lib.frozen_of_heap hb2 1
  obtain ⟨ao, n', cap, rfl⟩ : ∃ ao n' cap, v' = .slice ao n' cap := by
    rcases hown'.2 with ⟨hv, _⟩ | ⟨g, cap, cur, hv, _⟩
    · exact ⟨_, _, _, hv⟩
    · exact ⟨_, _, _, hv⟩
  have hsc : Lib.strCells ⟨s.toArray⟩ = bcells s := rfl
  have hap : bcells l ++ bcells s = bcells (l ++ s) := by simp [bcells]
  have hfin : BldAt B b (l ++ s) (w2.setCell ⟨b, 1, none⟩ (.slice ao n' cap)) := by
    have h := Lib.BuilderAt.put (T := 132) (e := 5) hB hb2 (bs' := bcells l ++ Lib.strCells ⟨s.toArray⟩) (by rw [List.length_append, Lib.strCells_length, bcells_len]; exact hown') (by decide)
    rw [hsc, hap] at h
    exact .inr h
  have K2 : TKeep w1 w2 := TKeep.grown hgrow (fun k hk => by
    obtain ⟨cs, T, fr, h1, h2⟩ := own_kind hown k hk
    exact ⟨cs, T, fr, h1, .inl h2⟩)
  have K3 : TKeep w2 (w2.setCell ⟨b, 1, none⟩ (.slice ao n' cap)) := TKeep.grown (grown_setCell w2 b 1 _) (fun k hk => by cases hk; exact ⟨_, _, _, hb2, .inr rfl⟩)
  have HK := Lib.hid ((k1.trans K2).trans K3)
  have HF := Lib.hid hfin
  clear hfin hsc hap hbl k1 K2 K3
  go_wp2
  go_ret2
  exact ⟨rfl, HF.out, (hb1.grown hgrow (by have := hb1.size; omega) (fun k hk => (hown.lt k hk).1)).setCell (p := ⟨b, 1, none⟩) hB _, HK.out⟩

set_option maxHeartbeats 2000000 in
set_option maxRecDepth 100000 in
theorem wbyte_k {B b : Nat} {l : List UInt8} {w : World} (c : UInt8) {x : Int} (hx : x = (c.toNat : Int)) (h : BldAt B b l w) (hlen : l.length + 1 ≤ 100000000) (hBw : B ≤ w.heap.size) :
    Calls Tryz.prog 75 #[.pointer (some ⟨b, 0, none⟩), .int .u8 x] w fun e w' => e = .returned .nilIface ∧ BldAt B b (l ++ [c]) w' ∧ Below B w w' ∧ TKeep w w' := by
  obtain ⟨i0, hi, hz0, hz1, hz2⟩ := info_parts u8_info
  have hbl : (bcells l).length = l.length := bcells_len l
  have HX := Lib.hid hx
  clear hx
  go_enter Tryz.func75, Tryz.ntmps75
  go_wp2_with fail
  refine (chk_k B b (bcells l) _ h).mono ?_
  rintro e w1 ⟨rfl, h1, hb1, k1⟩
  obtain ⟨hB, v, hbk, hown, hne⟩ := h1
  have c0 : w1.cell? ⟨b, 0, none⟩ = some (.pointer (some ⟨b, 0, none⟩)) := by rw [Lib.cell_of_heap hbk]; rfl
  have c1 : w1.cell? ⟨b, 1, none⟩ = some v := by rw [Lib.cell_of_heap hbk]; rfl
  go_wp2_with (at_builtin; refine wpList_append_own _ rfl _ _ 112 rfl B 5 i0 (.int .u8 0) 1 1 Tryz.underlying112 hi hz0 hz1 hz2 rfl (by decide) _ _ _ rfl (hown.alloc _) ⟨w1.heap.size, 0, none⟩ 1 1 [.int .u8 x] rfl rfl ?c1 ?c2 ?c3 ?c4 ?c5 ?_)
  case c1 => first | exact World.news_of_block (heap_alloc_new _ _) | exact fun _ _ h => h
  case c2 => intro u hu; simp at hu; subst hu; rfl
  case c3 => rw [hbl]; unfold maxLen; omega
  case c4 => rw [hbl]; omega
  case c5 => have := hb1.size; first | omega | (simp; omega)
  intro v' w2 hown' hgrow _
  have hlt : b < w1.heap.size := by
    rcases Nat.lt_or_ge b w1.heap.size with h' | h'
    · exact h'
    · simp [Array.getElem?_eq_none h'] at hbk
  have hbk1 : (w1.alloc (.cells #[.int .u8 x] 5)).heap[b]? = some (.cells #[.pointer (some ⟨b, 0, none⟩), v] 132 (0, 0)) := (Below.heap_alloc w1 _ b hlt).trans hbk
  have hb2 : w2.heap[b]? = some (.cells #[.pointer (some ⟨b, 0, none⟩), v] 132 (0, 0)) := by
    rw [hgrow.block b (by simp; omega) (fun e => hne e.symm)]
    exact hbk1
  have d0 : w2.cell? ⟨b, 0, none⟩ = some (.pointer (some ⟨b, 0, none⟩)) := by rw [Lib.cell_of_heap hb2]; rfl
  have d1 : w2.cell? ⟨b, 1, none⟩ = some v := by rw [Lib.cell_of_heap hb2]; rfl
  have f1 : w2.frozen? ⟨b, 1, none⟩ = false := Lib.frozen_of_heap hb2 1
  obtain ⟨ao, n', cap, rfl⟩ : ∃ ao n' cap, v' = .slice ao n' cap := by
    rcases hown'.2 with ⟨hv, _⟩ | ⟨g, cap, cur, hv, _⟩
    · exact ⟨_, _, _, hv⟩
    · exact ⟨_, _, _, hv⟩
  have hap : bcells l ++ [.int .u8 x] = bcells (l ++ [c]) := by simp [bcells, HX.out]
  have hfin : BldAt B b (l ++ [c]) (w2.setCell ⟨b, 1, none⟩ (.slice ao n' cap)) := by
    have h := Lib.BuilderAt.put (T := 132) (e := 5) hB hb2 (bs' := bcells l ++ [.int .u8 x]) (by rw [List.length_append, bcells_len]; exact hown') (by decide)
    rw [hap] at h
    exact .inr h
  have K2 : TKeep (w1.alloc (.cells #[.int .u8 x] 5)) w2 := TKeep.grown hgrow (fun k hk => by
    obtain ⟨cs, T, fr, h1, h2⟩ := own_kind (hown.alloc (.cells #[.int .u8 x] 5)) k hk
    exact ⟨cs, T, fr, h1, .inl h2⟩)
  have K1 : TKeep w1 (w1.alloc (.cells #[.int .u8 x] 5)) := TKeep.below ((Below.refl _ _).alloc (Nat.le_refl _) _)
  have K3 : TKeep w2 (w2.setCell ⟨b, 1, none⟩ (.slice ao n' cap)) := TKeep.grown (grown_setCell w2 b 1 _) (fun k hk => by cases hk; exact ⟨_, _, _, hb2, .inr rfl⟩)
  have HK := Lib.hid (((k1.trans K1).trans K2).trans K3)
  have HF := Lib.hid hfin
  have HB := Lib.hid (((hb1.alloc (by have := hb1.size; omega) (.cells #[.int .u8 x] 5)).grown hgrow (by have := hb1.size; simp; omega) (fun k hk => (hown.lt k hk).1)).setCell (p := ⟨b, 1, none⟩) hB (.slice ao n' cap))
  clear hfin hap hbl hown' hgrow hown hbk1 c0 c1 k1 K1 K2 K3
  go_wp2
  go_ret
  exact ⟨rfl, HF.out, HB.out, HK.out⟩
end Go.Proofs.YtomfmejodmfioaaGreat
