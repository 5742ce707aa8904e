/- The desk's ints, reading. -/
import Derived.Test.YtnaabaahfjklhaaGreatWireInts
namespace Go.Proofs.YtnaabaahfjklhaaGreat
open Go.RowKit Go.ChangeShapes Go.WideShapes Go.Joins Go.Deep
set_option linter.unusedVariables false

/-- n numbers with signs, read one behind the other. -/
def rdIs : Nat → List UInt8 → Int → List Int × List UInt8 × Int
  | 0, l, e => ([], l, e)
  | n + 1, l, e => ((rdIs n l e).1 ++ [zag (rdU (rdIs n l e).2.1 (rdIs n l e).2.2).1], (rdU (rdIs n l e).2.1 (rdIs n l e).2.2).2.1, (rdU (rdIs n l e).2.1 (rdIs n l e).2.2).2.2)
theorem rdIs_len (n : Nat) (l : List UInt8) (e : Int) : (rdIs n l e).1.length = n := by
  induction n with
  | zero => rfl
  | succ n ih => simp [rdIs, ih]
theorem rdU_short (l : List UInt8) (e : Int) : (rdU l e).2.1.length ≤ l.length := by
  unfold rdU
  split
  · simp
  · exact Nat.le_refl _
theorem rdIs_short (n : Nat) (l : List UInt8) (e : Int) : (rdIs n l e).2.1.length ≤ l.length := by
  induction n with
  | zero => exact Nat.le_refl _
  | succ n ih => exact Nat.le_trans (rdU_short _ _) ih
/-- What becomes of block a's cells where numbers are stored. -/
def updB (a : Nat) (P : List ((Nat × Nat) × Int)) (cs : Array Value) : Array Value := P.foldl (fun c p => if p.1.1 = a then c.setIfInBounds p.1.2 (.int .i64 p.2) else c) cs
theorem updB_snoc (a : Nat) (P : List ((Nat × Nat) × Int)) (p : (Nat × Nat) × Int) (cs : Array Value) : updB a (P ++ [p]) cs = if p.1.1 = a then (updB a P cs).setIfInBounds p.1.2 (.int .i64 p.2) else updB a P cs := by
  simp [updB, List.foldl_append]
theorem updB_size (a : Nat) (P : List ((Nat × Nat) × Int)) (cs : Array Value) : (updB a P cs).size = cs.size := by
  unfold updB
  induction P generalizing cs with
  | nil => rfl
  | cons p P ih =>
    rw [List.foldl_cons, ih]
    split <;> simp
/-- Only the reader r, and the numbers in P, have changed. -/
structure ReadTo (w w' : World) (r : Nat) (P : List ((Nat × Nat) × Int)) : Prop where
  os : w'.os = w.os
  tape : w'.tape = w.tape
  output : w'.output = w.output
  size : w.heap.size ≤ w'.heap.size
  cells : ∀ a cs T fr, a ≠ r → w.heap[a]? = some (.cells cs T fr) → w'.heap[a]? = some (.cells (updB a P cs) T fr)
  other : ∀ k, k < w.heap.size → k ≠ r → (∀ p ∈ P, p.1.1 ≠ k) → w'.heap[k]? = w.heap[k]?
theorem ReadTo.refl (w : World) (r : Nat) : ReadTo w w r [] := ⟨rfl, rfl, rfl, Nat.le_refl _, fun a cs T fr _ h => h, fun _ _ _ _ => rfl⟩
theorem ReadTo.grown {w w1 w2 : World} {r : Nat} {P : List ((Nat × Nat) × Int)} (h : ReadTo w w1 r P) (hg : w1.grownBy w2 (some r)) : ReadTo w w2 r P :=
  ⟨hg.os.trans h.os, hg.tape.trans h.tape, hg.output.trans h.output, Nat.le_trans h.size hg.size,
   fun a cs T fr ha hc => by
     have h1 := h.cells a cs T fr ha hc
     rw [hg.block a (Array.getElem?_eq_some_iff.1 h1).1 (by simpa using ha)]
     exact h1,
   fun k hk hr hp => (hg.block k (Nat.lt_of_lt_of_le hk h.size) (by simpa using hr)).trans (h.other k hk hr hp)⟩
theorem ReadTo.store {w w1 : World} {r a i : Nat} {v : Int} {P : List ((Nat × Nat) × Int)} (h : ReadTo w w1 r P) : ReadTo w (w1.setCell ⟨a, i, none⟩ (.int .i64 v)) r (P ++ [((a, i), v)]) := by
  have G := grown_setCell w1 a i (.int .i64 v)
  refine ⟨G.os.trans h.os, G.tape.trans h.tape, G.output.trans h.output, Nat.le_trans h.size G.size, fun x cs T fr hx hc => ?_, fun k hk hr hp => ?_⟩
  · have h1 := h.cells x cs T fr hx hc
    rw [updB_snoc]
    by_cases hxa : a = x
    · subst hxa
      simp [World.setCell, Array.getElem?_modify, h1]
    · rw [if_neg hxa, G.block x (Array.getElem?_eq_some_iff.1 h1).1 (by simpa using fun e => hxa e.symm)]
      exact h1
  · have hka : a ≠ k := hp ((a, i), v) (by simp)
    exact (G.block k (Nat.lt_of_lt_of_le hk h.size) (by simpa using fun e => hka e.symm)).trans (h.other k hk hr fun p hp' => hp p (by simp [hp']))
/-- A place where a number may be stored, in no block of the desk's own. -/
def Slot (w : World) (a i : Nat) : Prop := ∃ cs T, w.heap[a]? = some (.cells cs T (0, 0)) ∧ T ≠ 123 ∧ T ≠ 118 ∧ T ≠ 146 ∧ ∃ x, cs[i]? = some (.int .i64 x)
structure SlotsAt (w : World) (P : Nat) (As : List (Nat × Nat)) : Prop where
  row : BlkAt w P 123 (As.map fun A : Nat × Nat => .pointer (some ⟨A.1, A.2, none⟩))
  slots : ∀ (i : Nat) (A : Nat × Nat), As[i]? = some A → Slot w A.1 A.2
theorem ReadTo.same {w w1 : World} {r b : Nat} {P : List ((Nat × Nat) × Int)} {T : TypeId} {cs : List Value} (h : ReadTo w w1 r P) (hb : BlkAt w b T cs) (hr : b ≠ r) (hP : ∀ p ∈ P, p.1.1 ≠ b) : BlkAt w1 b T cs :=
  (h.other b hb.lt hr hP).trans hb

set_option maxRecDepth 100000 in
set_option maxHeartbeats 4000000 in

theorem ints_read {w : World} {r d P cap : Nat} {l : List UInt8} {e : Int} {mv : Value} {As : List (Nat × Nat)} (hD : BlkAt w d 118 [mv, .pointer none, .pointer (some ⟨r, 0, none⟩)]) (hP : SlotsAt w P As)
    (hR : RdAt w r l e) (hl : l.length ≤ 1000000) (hn : As.length ≤ 100) :
    Calls Tryz.prog 56 #[.pointer (some ⟨d, 0, none⟩), .slice (some ⟨P, 0, none⟩) As.length cap] w fun en w' => en = .returned (.tuple #[]) ∧ RdAt w' r (rdIs As.length l e).2.1 (rdIs As.length l e).2.2 ∧ ReadTo w w' r (As.zip (rdIs As.length l e).1) := by
  have hdr : d ≠ r := by
    rintro rfl
    unfold RdAt at hR
    rw [hD] at hR
    simp at hR
  have hPr : P ≠ r := by
    rintro rfl
    unfold RdAt at hR
    rw [hP.row] at hR
    simp at hR
  go_enter Tryz.func56, Tryz.ntmps56
  go_wp2_with fail
  go_loopw [8] (fun i wr => ∃ k : Nat, k ≤ As.length ∧ i = .int .i64 k ∧ RdAt wr r (rdIs k l e).2.1 (rdIs k l e).2.2 ∧ ReadTo w wr r ((As.take k).zip (rdIs k l e).1)) (fun i _ => As.length - (intOf i).toNat)
  case atStart => exact ⟨0, Nat.zero_le _, rfl, hR, by simpa using ReadTo.refl w r⟩
  case round =>
    obtain ⟨k, hk, rfl, hRr, hT⟩ := hrel
    by_cases hlt : k < As.length
    · obtain ⟨⟨X, j⟩, hAk⟩ : ∃ A, As[k]? = some A := ⟨_, List.getElem?_eq_getElem hlt⟩
      have hne : ∀ q, (∃ T cs, w.heap[q]? = some (.cells cs T (0, 0)) ∧ (T = 123 ∨ T = 118 ∨ T = 146)) → ∀ p ∈ (As.take k).zip (rdIs k l e).1, p.1.1 ≠ q := by
        rintro q ⟨T, cs, hq, hT⟩ p hp rfl
        obtain ⟨i, hi⟩ := List.getElem?_of_mem (List.mem_of_mem_take (List.of_mem_zip hp).1)
        obtain ⟨cs', T', h1, h2, h3, h4, _⟩ := hP.slots i _ hi
        rw [hq] at h1
        simp only [Option.some.injEq, Obj.cells.injEq] at h1
        obtain ⟨_, rfl, _⟩ := h1
        rcases hT with rfl | rfl | rfl
        · exact h2 rfl
        · exact h3 rfl
        · exact h4 rfl
      have hDr := hT.same hD hdr (hne d ⟨_, _, hD, .inr (.inl rfl)⟩)
      have hPw := hT.same hP.row hPr (hne P ⟨_, _, hP.row, .inl rfl⟩)
      obtain ⟨cs, T, hX, hX1, hX2, hX3, x, hx⟩ := hP.slots k _ hAk
      have hXr : X ≠ r := by
        rintro rfl
        unfold RdAt at hR
        rw [hX] at hR
        simp only [Option.some.injEq, Obj.cells.injEq] at hR
        exact hX3 hR.2.1
      have hXw := hT.cells X cs T (0, 0) hXr hX
      have hjs : j < (updB X ((As.take k).zip (rdIs k l e).1) cs).size := by rw [updB_size]; exact (Array.getElem?_eq_some_iff.1 hx).1
      have hpc : wr.cell? ⟨P, k, none⟩ = some (.pointer (some ⟨X, j, none⟩)) := hPw.cell (by rw [List.getElem?_map, hAk]; rfl)
      have cd1 : wr.cell? ⟨d, 1, none⟩ = some (.pointer none) := hDr.cell rfl
      have cd2 : wr.cell? ⟨d, 2, none⟩ = some (.pointer (some ⟨r, 0, none⟩)) := hDr.cell rfl
      have hsh := Nat.le_trans (rdIs_short k l e) hl
      have HX := Lib.hid hXw
      have HJ := Lib.hid hjs
      have HZ : Hid ((As.take (k + 1)).zip (rdIs (k + 1) l e).1 = (As.take k).zip (rdIs k l e).1 ++ [((X, j), zag (rdU (rdIs k l e).2.1 (rdIs k l e).2.2).1)]) := by
        show (As.take (k + 1)).zip (rdIs (k + 1) l e).1 = _
        rw [List.take_add_one, hAk, Option.toList_some]
        simp only [rdIs]
        rw [List.zip_append (by rw [List.length_take, rdIs_len]; omega)]
        rfl
      clear hPw hDr hAk hX hx hXw hjs hne
      go_wp2_with fail
      refine (rint_any (by exact hRr) hsh).mono ?_
      rintro en w2 ⟨rfl, hR2, hg⟩
      have hT2 := hT.grown hg
      have hX2 := (hg.block X (Array.getElem?_eq_some_iff.1 HX.out).1 (by simpa using hXr)).trans HX.out
      obtain ⟨u, hu⟩ : ∃ u, w2.cell? ⟨X, j, none⟩ = some u := ⟨_, by rw [cell_of_row _ _ _ _ _ _ hX2]; exact Array.getElem?_eq_getElem HJ.out⟩
      have hf : w2.frozen? ⟨X, j, none⟩ = false := by simp [World.frozen?, hX2]
      have HT := Lib.hid hT2
      have HR := Lib.hid hR2
      clear hRr hT hT2 hR2 hX2 hg hpc cd1 cd2
      go_wp2_with fail
      go_roundw
      case rel => exact ⟨k + 1, by omega, by go_num, by
        have := HR.out
        unfold RdAt at this ⊢
        rw [(grown_setCell w2 X j _).block r (Array.getElem?_eq_some_iff.1 this).1 (by simpa using fun e => hXr e.symm)]
        exact this, by rw [HZ.out]; exact HT.out.store⟩
      case measure => simp [intOf]; omega
    · obtain rfl : k = As.length := by omega
      rw [List.take_length] at hT
      go_wp2_with fail
      go_end0
      exact ⟨rfl, hRr, hT⟩
/-- ints, reading, what is read by its names. -/
theorem ints_rd {w : World} {r d P cap n : Nat} {l : List UInt8} {e : Int} {mv : Value} {As : List (Nat × Nat)} {vs : List Int} {l2 : List UInt8} {e2 : Int} (hr : Hid (rdIs n l e = (vs, l2, e2))) (hn : As.length = n)
    (hD : BlkAt w d 118 [mv, .pointer none, .pointer (some ⟨r, 0, none⟩)]) (hP : SlotsAt w P As) (hR : RdAt w r l e) (hl : l.length ≤ 1000000) (hn2 : n ≤ 100) :
    Calls Tryz.prog 56 #[.pointer (some ⟨d, 0, none⟩), .slice (some ⟨P, 0, none⟩) n cap] w fun en w' => en = .returned (.tuple #[]) ∧ RdAt w' r l2 e2 ∧ ReadTo w w' r (As.zip vs) := by
  subst hn
  refine (ints_read hD hP hR hl hn2).mono ?_
  rintro en w' ⟨rfl, h1, h2⟩
  rw [hr.out] at h1 h2
  exact ⟨rfl, h1, h2⟩
end Go.Proofs.YtnaabaahfjklhaaGreat
