/- Sums of bytes, in plain Lean: what a byte makes of a sum; unlike texts of one length that differ in a byte have unlike sums. No program in sight. The contracts of package crc's table: a new one, how often it was made, how it is made. The contract of sync.Once's Do at a table: made at the first asking, and never again. The contracts of the sums: the program's, by its table, and the document's, bit by bit. The contracts of texts with their sums. -/
import Derived.WalkKit
import Derived.Laws.BitsAllLaws
import Derived.Test.YtomfmejodmfioaaGreatKCodec
import Derived.WalkSpells
import Derived.WalkLawsBesides
import Derived.BigQuiet
import Derived.StillTailTactics
import Derived.Lib.SmallJoins
import Derived.Lib.Hide
import Derived.Outline
import Derived.Defers
import Derived.RegionTactic
import Derived.RegionCalls
import Derived.ChangeAlike
import Derived.Laws.Pointers
import Derived.Laws.LoneSync
import Derived.Laws.IdiomStrings
namespace Go.Proofs.YtomfmejodmfioaaGreat
set_option linter.unusedVariables false

/-- A number of 32 bits. -/
def F32 (c : Nat) : Prop := c < 4294967296
/-- The polynomial. -/
def poly : Nat := 3988292384
/-- One bit. -/
def st (c : Nat) : Nat := if c % 2 = 1 then c / 2 ^^^ poly else c / 2
/-- Some bits. -/
def stn : Nat → Nat → Nat
  | 0, c => c
  | k + 1, c => stn k (st c)

theorem xor32 {a b : Nat} (ha : F32 a) (hb : F32 b) : F32 (a ^^^ b) := Nat.xor_lt_two_pow (n := 32) ha hb
theorem st_fit {c : Nat} (h : F32 c) : F32 (st c) := by
  unfold st
  split
  · exact xor32 (by unfold F32 at *; omega) (by unfold F32 poly; omega)
  · unfold F32 at *; omega
theorem stn_fit (k : Nat) {c : Nat} (h : F32 c) : F32 (stn k c) := by
  induction k generalizing c with
  | zero => exact h
  | succ k ih => exact ih (st_fit h)
theorem stn_snoc (k : Nat) (c : Nat) : stn (k + 1) c = st (stn k c) := by
  induction k generalizing c with
  | zero => rfl
  | succ k ih => rw [stn, ih]; rfl

theorem xor_half (a b : Nat) : (a ^^^ b) / 2 = a / 2 ^^^ b / 2 := by
  exact Nat.xor_div_two
theorem xor_mod2 (a b : Nat) : (a ^^^ b) % 2 = (a + b) % 2 := by
  have h := Nat.xor_mod_two_eq_one (a := a) (b := b)
  by_cases h1 : a % 2 = 1 <;> by_cases h2 : b % 2 = 1
  · have : ¬ (a ^^^ b) % 2 = 1 := fun e => h.1 e (by simp [h1, h2])
    omega
  · have : (a ^^^ b) % 2 = 1 := h.2 (by simp [h1, h2])
    omega
  · have : (a ^^^ b) % 2 = 1 := h.2 (by simp [h1, h2])
    omega
  · have : ¬ (a ^^^ b) % 2 = 1 := fun e => h.1 e (by simp [h1, h2])
    omega

theorem st_xor (a b : Nat) : st (a ^^^ b) = st a ^^^ st b := by
  unfold st
  rw [xor_half, xor_mod2]
  have pp : ∀ x y : Nat, x ^^^ y = (x ^^^ poly) ^^^ (y ^^^ poly) := fun x y => by
    rw [Nat.xor_assoc, ← Nat.xor_assoc poly, Nat.xor_comm poly y, Nat.xor_assoc y, Nat.xor_self, Nat.xor_zero]
  by_cases h1 : a % 2 = 1 <;> by_cases h2 : b % 2 = 1
  · rw [if_neg (by omega), if_pos h1, if_pos h2]
    exact pp _ _
  · rw [if_pos (by omega), if_pos h1, if_neg h2, Nat.xor_assoc, Nat.xor_assoc, Nat.xor_comm (b / 2)]
  · rw [if_pos (by omega), if_neg h1, if_pos h2, Nat.xor_assoc]
  · rw [if_neg (by omega), if_neg h1, if_neg h2]
theorem stn_xor (k a b : Nat) : stn k (a ^^^ b) = stn k a ^^^ stn k b := by
  induction k generalizing a b with
  | zero => rfl
  | succ k ih => rw [stn, st_xor, ih]; rfl

theorem st_even (h : Nat) : st (2 * h) = h := by
  unfold st
  rw [if_neg (by omega)]
  omega
theorem stn_shift (h : Nat) : stn 8 (256 * h) = h := by
  have e : 256 * h = 2 * (2 * (2 * (2 * (2 * (2 * (2 * (2 * h))))))) := by omega
  rw [e]
  simp only [stn, st_even]

/-- One byte more. -/
def crcB (c b : Nat) : Nat := stn 8 (c ^^^ b)
theorem split_byte (c : Nat) : c = c % 256 ^^^ 256 * (c / 256) := by
  apply Nat.eq_of_testBit_eq
  intro i
  rw [Nat.testBit_xor, show (256 : Nat) = 2 ^ 8 from rfl, Nat.testBit_mod_two_pow, Nat.testBit_two_pow_mul, Nat.testBit_div_two_pow]
  by_cases h : i < 8
  · simp [h, show ¬ i ≥ 8 by omega]
  · simp [h, show i ≥ 8 by omega, show i - 8 + 8 = i by omega]
theorem crc_table (c b : Nat) : stn 8 (c % 256 ^^^ b) ^^^ c / 256 = crcB c b := by
  unfold crcB
  conv => rhs; rw [split_byte c]
  rw [Nat.xor_assoc, Nat.xor_comm (256 * (c / 256)) b, ← Nat.xor_assoc, stn_xor 8 (c % 256 ^^^ b), stn_shift]

theorem crcB_fit {c b : Nat} (hc : F32 c) (hb : b < 256) : F32 (crcB c b) := stn_fit 8 (xor32 hc (by unfold F32; omega))

theorem st_inj {a b : Nat} (ha : F32 a) (hb : F32 b) (h : st a = st b) : a = b := by
  have top : ∀ x : Nat, F32 x → (x / 2 ^^^ poly).testBit 31 = true := fun x hx => by
    rw [Nat.testBit_xor, Nat.testBit_lt_two_pow (show x / 2 < 2 ^ 31 by unfold F32 at hx; omega)]
    rfl
  have low : ∀ x : Nat, F32 x → (x / 2).testBit 31 = false := fun x hx => Nat.testBit_lt_two_pow (show x / 2 < 2 ^ 31 by unfold F32 at hx; omega)
  unfold st at h
  by_cases h1 : a % 2 = 1 <;> by_cases h2 : b % 2 = 1
  · rw [if_pos h1, if_pos h2] at h
    have := congrArg (· ^^^ poly) h
    simp only [Nat.xor_assoc, Nat.xor_self, Nat.xor_zero] at this
    omega
  · rw [if_pos h1, if_neg h2] at h
    have := top a ha
    rw [h, low b hb] at this
    exact absurd this (by decide)
  · rw [if_neg h1, if_pos h2] at h
    have := top b hb
    rw [← h, low a ha] at this
    exact absurd this (by decide)
  · rw [if_neg h1, if_neg h2] at h
    omega
theorem stn_inj (k : Nat) {a b : Nat} (ha : F32 a) (hb : F32 b) (h : stn k a = stn k b) : a = b := by
  induction k generalizing a b with
  | zero => exact h
  | succ k ih => exact st_inj ha hb (ih (st_fit ha) (st_fit hb) h)
theorem xor_cancel {a b c : Nat} (h : a ^^^ c = b ^^^ c) : a = b := by
  have := congrArg (· ^^^ c) h
  simpa only [Nat.xor_assoc, Nat.xor_self, Nat.xor_zero] using this

/-- A text's sum so far. -/
def crcL : Nat → List UInt8 → Nat
  | c, [] => c
  | c, b :: r => crcL (crcB c b.toNat) r
theorem crcL_fit {c : Nat} (hc : F32 c) (l : List UInt8) : F32 (crcL c l) := by
  induction l generalizing c with
  | nil => exact hc
  | cons b r ih => exact ih (crcB_fit hc b.toNat_lt)
theorem crcL_append (c : Nat) (l r : List UInt8) : crcL c (l ++ r) = crcL (crcL c l) r := by
  induction l generalizing c with
  | nil => rfl
  | cons b t ih => exact ih _
theorem crcL_snoc (c : Nat) (l : List UInt8) (b : UInt8) : crcL c (l ++ [b]) = crcB (crcL c l) b.toNat := crcL_append c l [b]
theorem crcL_inj {a b : Nat} (ha : F32 a) (hb : F32 b) (l : List UInt8) (h : crcL a l = crcL b l) : a = b := by
  induction l generalizing a b with
  | nil => exact h
  | cons x r ih =>
    have hx : F32 x.toNat := by have := x.toNat_lt; unfold F32; omega
    exact xor_cancel (stn_inj 8 (xor32 ha hx) (xor32 hb hx) (ih (crcB_fit ha x.toNat_lt) (crcB_fit hb x.toNat_lt) h))

def ones : Nat := 4294967295
theorem ones_fit : F32 ones := by unfold F32 ones; omega
/-- A text's sum. -/
def crcOf (l : List UInt8) : Nat := ones - crcL ones l
theorem crcOf_fit (l : List UInt8) : F32 (crcOf l) := by unfold crcOf ones F32; omega
/-- A text's sum, with one byte of it another. -/
theorem crcOf_set (l : List UInt8) {k : Nat} (hk : k < l.length) {c : UInt8} (hne : c ≠ l[k]) : crcOf (l.set k c) ≠ crcOf l := by
  intro h
  have e : l = l.take k ++ l[k] :: l.drop (k + 1) := by simp
  have e' : l.set k c = l.take k ++ c :: l.drop (k + 1) := by rw [List.set_eq_take_append_cons_drop, if_pos hk]
  have fit := fun r => crcL_fit ones_fit r
  have h1 : crcL ones (l.set k c) = crcL ones l := by
    have a := fit (l.set k c)
    have b := fit l
    unfold crcOf at h
    unfold F32 ones at *
    omega
  rw [e'] at h1
  conv at h1 => rhs; rw [e]
  rw [crcL_append, crcL_append] at h1
  have fx : ∀ x : UInt8, F32 x.toNat := fun x => by have := x.toNat_lt; unfold F32; omega
  have h2 := crcL_inj (crcB_fit (fit _) c.toNat_lt) (crcB_fit (fit _) l[k].toNat_lt) _ h1
  have h3 := stn_inj 8 (xor32 (fit _) (fx _)) (xor32 (fit _) (fx _)) h2
  rw [Nat.xor_comm, Nat.xor_comm (crcL ones (l.take k))] at h3
  exact hne (UInt8.toNat_inj.1 (xor_cancel h3))

/-- The sum's four bytes. -/
def four (n : Nat) : List UInt8 := [UInt8.ofNat (n / 16777216), UInt8.ofNat (n / 65536 % 256), UInt8.ofNat (n / 256 % 256), UInt8.ofNat (n % 256)]
theorem four_inj {a b : Nat} (ha : F32 a) (hb : F32 b) (h : four a = four b) : a = b := by
  unfold four at h
  simp only [List.cons.injEq, and_true] at h
  obtain ⟨h1, h2, h3, h4⟩ := h
  have t := fun (x y : Nat) (hx : x < 256) (hy : y < 256) (h : UInt8.ofNat x = UInt8.ofNat y) => (show x = y by
    have := congrArg UInt8.toNat h
    simp only [UInt8.toNat_ofNat'] at this
    omega)
  unfold F32 at *
  have := t _ _ (by omega) (by omega) h1
  have := t _ _ (by omega) (by omega) h2
  have := t _ _ (by omega) (by omega) h3
  have := t _ _ (by omega) (by omega) h4
  omega
/-- A text with its sum. -/
def frame (l : List UInt8) : List UInt8 := l ++ four (crcOf l)
theorem frame_len (l : List UInt8) : (frame l).length = l.length + 4 := by simp [frame, four]
/-- Are bytes a text with its sum? -/
def whole (l : List UInt8) : Bool := decide (4 ≤ l.length) && decide (frame (l.take (l.length - 4)) = l)
theorem whole_frame (l : List UInt8) : whole (frame l) = true := by
  have : (frame l).take ((frame l).length - 4) = l := by rw [frame_len]; simp [frame]
  unfold whole
  rw [this]
  simp [frame_len]
theorem frame_take (l : List UInt8) : (frame l).take ((frame l).length - 4) = l := by rw [frame_len]; simp [frame]
/-- A text with its sum, of which a byte was changed, is none. -/
theorem whole_set (l : List UInt8) {k : Nat} (hk : k < (frame l).length) {c : UInt8} (hne : c ≠ (frame l)[k]) : whole ((frame l).set k c) = false := by
  have hlen := frame_len l
  by_cases h : whole ((frame l).set k c) = false
  · exact h
  exfalso
  have h : whole ((frame l).set k c) = true := by simpa using h
  simp only [whole, List.length_set, hlen, Bool.and_eq_true, decide_eq_true_eq] at h
  obtain ⟨_, h⟩ := h
  rw [show l.length + 4 - 4 = l.length by omega] at h
  by_cases hl : k < l.length
  · have e1 : ((frame l).set k c).take l.length = l.set k c := by
      rw [frame, List.set_append_left _ _ hl, List.take_left' (by simp)]
    have e2 : (frame l).set k c = l.set k c ++ four (crcOf l) := by rw [frame, List.set_append_left _ _ hl]
    rw [e1, e2, frame] at h
    have h4 := (List.append_inj' h (by simp [four])).2
    have := four_inj (crcOf_fit _) (crcOf_fit _) h4
    refine crcOf_set l hl ?_ this
    intro hc
    exact hne (by rw [hc]; simp [frame, hl])
  · have e1 : ((frame l).set k c).take l.length = l := by
      rw [frame, List.set_append_right _ _ (by omega), List.take_left' (by simp)]
    rw [e1] at h
    have := congrArg (fun x => x[k]?) h
    simp only [List.getElem?_set_self hk, List.getElem?_eq_getElem hk, Option.some.injEq] at this
    exact hne this.symm
end Go.Proofs.YtomfmejodmfioaaGreat
namespace Go.Proofs.YtomfmejodmfioaaGreat
open Go.RowKit Go.ChangeShapes Go.WideShapes Go.Joins
set_option linter.unusedVariables false

/-- The table's rows as cells. -/
def rowOf (f : Nat → Nat) : List Value := (List.range 256).map fun i => .int .u32 (f i : Int)
def tabCells (d s m : Int) (f : Nat → Nat) : List Value := .int .u32 d :: .int .i32 s :: .int .u32 0 :: .int .i64 m :: rowOf f
/-- Block b is a table: whether it was done, its lock, how often it was made, its rows. -/
def TabAt (w : World) (b : Nat) (d s m : Int) (f : Nat → Nat) : Prop := w.heap[b]? = some (.cells (tabCells d s m f).toArray 202 (0, 0))

theorem rowOf_get (f : Nat → Nat) {i : Nat} (h : i < 256) : (rowOf f)[i]? = some (.int .u32 (f i : Int)) := by simp [rowOf, h]
theorem rowOf_congr {f g : Nat → Nat} (h : ∀ i, i < 256 → f i = g i) : rowOf f = rowOf g := by
  unfold rowOf
  refine List.map_congr_left fun i hi => ?_
  rw [h i (by simpa using hi)]
theorem rowOf_set (f : Nat → Nat) (k v : Nat) : (rowOf f).set k (.int .u32 (v : Int)) = rowOf fun i => if i = k then v else f i := by
  unfold rowOf
  apply List.ext_getElem
  · simp
  · intro i h1 h2
    simp only [List.getElem_set, List.getElem_map, List.getElem_range]
    by_cases h : k = i
    · rw [if_pos h, if_pos h.symm]
    · rw [if_neg h, if_neg (Ne.symm h)]

section
variable {w w' : World} {b : Nat} {d s m : Int} {f : Nat → Nat}
theorem TabAt.lt (h : TabAt w b d s m f) : b < w.heap.size := (Array.getElem?_eq_some_iff.1 h).1
theorem TabAt.c0 (h : TabAt w b d s m f) : w.cell? ⟨b, 0, none⟩ = some (.int .u32 d) := by
  rw [cell_of_row _ _ 0 _ _ _ h]; simp [tabCells]
theorem TabAt.c1 (h : TabAt w b d s m f) : w.cell? ⟨b, 1, none⟩ = some (.int .i32 s) := by
  rw [cell_of_row _ _ 1 _ _ _ h]; simp [tabCells]
theorem TabAt.c3 (h : TabAt w b d s m f) : w.cell? ⟨b, 3, none⟩ = some (.int .i64 m) := by
  rw [cell_of_row _ _ 3 _ _ _ h]; simp [tabCells]
theorem TabAt.row (h : TabAt w b d s m f) {i : Nat} (hi : i < 256) : w.cell? ⟨b, 4 + i, none⟩ = some (.int .u32 (f i : Int)) := by
  rw [cell_of_row _ _ (4 + i) _ _ _ h, List.getElem?_toArray, Nat.add_comm 4 i]
  show (rowOf f)[i]? = _
  exact rowOf_get f hi
theorem TabAt.free (h : TabAt w b d s m f) (i : Nat) : w.frozen? ⟨b, i, none⟩ = false := by unfold TabAt at h; simp [World.frozen?, h]
theorem TabAt.below (h : TabAt w b d s m f) (hb : Below w.heap.size w w') : TabAt w' b d s m f := (hb.block b h.lt).trans h
theorem TabAt.grown {c : Nat} (h : TabAt w b d s m f) (hg : w.grownBy w' (some c)) (hne : b ≠ c) : TabAt w' b d s m f := (hg.block _ h.lt (by simpa using hne)).trans h
theorem TabAt.drew (h : TabAt w b d s m f) : TabAt w.drew b d s m f := h
theorem TabAt.drewN (h : TabAt w b d s m f) (n : Nat) : TabAt (w.drewN n) b d s m f := h
theorem TabAt.setAny (h : TabAt w b d s m f) (i : Nat) (v : Value) : (w.setCell ⟨b, i, none⟩ v).heap[b]? = some (.cells ((tabCells d s m f).set i v).toArray 202 (0, 0)) := by
  unfold TabAt at h
  simp [World.setCell, Array.getElem?_modify, h]
theorem TabAt.set0 (h : TabAt w b d s m f) (x : Int) : TabAt (w.setCell ⟨b, 0, none⟩ (.int .u32 x)) b x s m f := h.setAny 0 _
theorem TabAt.set1 (h : TabAt w b d s m f) (x : Int) : TabAt (w.setCell ⟨b, 1, none⟩ (.int .i32 x)) b d x m f := h.setAny 1 _
theorem TabAt.set3 (h : TabAt w b d s m f) (x : Int) : TabAt (w.setCell ⟨b, 3, none⟩ (.int .i64 x)) b d s x f := h.setAny 3 _
theorem TabAt.setRow (h : TabAt w b d s m f) (k v : Nat) : TabAt (w.setCell ⟨b, 4 + k, none⟩ (.int .u32 (v : Int))) b d s m (fun i => if i = k then v else f i) := by
  unfold TabAt
  rw [h.setAny, Nat.add_comm 4 k]
  unfold tabCells
  rw [← rowOf_set]
  rfl
theorem TabAt.congr (h : TabAt w b d s m f) {g : Nat → Nat} (hg : ∀ i, i < 256 → f i = g i) : TabAt w b d s m g := by
  unfold TabAt tabCells at h ⊢
  rw [← rowOf_congr hg]
  exact h
end

set_option maxRecDepth 100000 in
set_option maxHeartbeats 1000000 in
theorem new_any (w : World) : Calls Tryz.prog 109 #[] w fun e w' => e = .returned (.pointer (some ⟨w.heap.size, 0, none⟩)) ∧ TabAt w' w.heap.size 0 0 0 (fun _ => 0) ∧ Below w.heap.size w w' := by
  have hz : ∀ w, (zeroValue 202).run Tryz.prog w = .ok (.agg (tabCells 0 0 0 fun _ => 0).toArray) w := fun w => by kernel_rfl
  go_enter Tryz.func109, Tryz.ntmps109
  go_wp2_with fail
  go_ret
  exact ⟨rfl, heap_alloc_new _ _, (Below.refl _ _).alloc (Nat.le_refl _) _⟩

theorem st_code {c : Nat} (h : F32 c) : bits .xor .u32 ((c : Int) / 2) (bits .and .u32 3988292384 (-bits .and .u32 (c : Int) 1 % 4294967296)) = (st c : Int) := by
  have h1 : bits .and .u32 (c : Int) 1 = ((c % 2 : Nat) : Int) := by
    have := u32_and_nat c 1 h (by omega)
    rw [show ((1 : Nat) : Int) = 1 from rfl, nat_mask1] at this
    exact this
  have e : (c : Int) / 2 = ((c / 2 : Nat) : Int) := by omega
  rw [h1, e]
  unfold F32 at h
  unfold st poly
  by_cases h2 : c % 2 = 1
  · rw [if_pos h2, h2, show (-((1 : Nat) : Int)) % 4294967296 = ((4294967295 : Nat) : Int) from rfl]
    rw [show (3988292384 : Int) = ((3988292384 : Nat) : Int) from rfl, u32_and_nat _ _ (by omega) (by omega), show 3988292384 &&& 4294967295 = 3988292384 from by decide, u32_xor_nat _ _ (by omega) (by omega)]
  · rw [if_neg h2, show c % 2 = 0 by omega, show (-((0 : Nat) : Int)) % 4294967296 = ((0 : Nat) : Int) from rfl]
    rw [show (3988292384 : Int) = ((3988292384 : Nat) : Int) from rfl, u32_and_nat _ _ (by omega) (by omega), Nat.and_zero, u32_xor_nat _ _ (by omega) (by omega), Nat.xor_zero]

set_option maxRecDepth 100000 in
set_option maxHeartbeats 1000000 in
theorem make_any {w : World} {b : Nat} {d s : Int} {f : Nat → Nat} (h : TabAt w b d s 0 f) :
    Calls Tryz.prog 112 #[.pointer (some ⟨b, 0, none⟩)] w fun e w' => e = .returned (.tuple #[]) ∧ TabAt w' b d s 1 (stn 8) ∧ w.grownBy w' (some b) := by
  have HX := Lib.hid h
  clear h
  go_enter Tryz.func112, Tryz.ntmps112
  go_wp2_with fail
  go_loopw [4] (fun i wr => ∃ k : Nat, ∃ g : Nat → Nat, k ≤ 256 ∧ i = .int .i64 k ∧ TabAt wr b d s 0 g ∧ (∀ i, i < k → g i = stn 8 i) ∧ w.grownBy wr (some b)) (fun i _ => 256 - (intOf i).toNat)
  case atStart => exact ⟨0, f, by omega, rfl, HX.out, fun i hi => by omega, World.grownBy.refl _ _⟩
  case round =>
    obtain ⟨k, g, hk, rfl, hT, hg8, hg⟩ := hrel
    have HT := Lib.hid hT
    have HG8 := Lib.hid hg8
    have HG := Lib.hid hg
    clear hT hg8 hg
    by_cases hlt : k < 256
    · have hkw : IntKind.u32.wrap (k : Int) = k := by rw [IntKind.wrap_u32']; omega
      have hf := HT.out.free (4 + k)
      have hc := HT.out.row hlt
      obtain ⟨wo, rfl⟩ : ∃ wo : World, wo = wr := ⟨_, rfl⟩
      go_wp2_with fail
      go_loop [3, 9] (fun c i => ∃ j : Nat, j ≤ 8 ∧ i = .int .i64 j ∧ c = .int .u32 (stn j k : Nat)) (fun _ i => 8 - (intOf i).toNat)
      case atStart => exact ⟨0, by omega, rfl, rfl⟩
      case round =>
        obtain ⟨j, hj, rfl, rfl⟩ := hrel
        by_cases hlj : j < 8
        · have HS := Lib.hid (st_code (stn_fit j (show F32 k by unfold F32; omega)))
          have HN := Lib.hid (stn_snoc j k)
          generalize stn j k = x at *
          go_wp2_with fail
          go_round
          case rel => exact ⟨j + 1, by omega, by go_num, by rw [HS.out, HN.out]⟩
          case measure => simp [intOf]; omega
        · have h8 : j = 8 := by omega
          subst h8
          have HV := Lib.hid (show ∃ v, v = stn 8 k from ⟨_, rfl⟩)
          obtain ⟨v, hv⟩ := HV.out
          rw [← hv]
          have HV := Lib.hid hv
          clear hv
          go_wp2_with fail
          go_roundw
          case rel =>
            refine ⟨k + 1, _, by omega, by go_num, HT.out.setRow k v, ?_, HG.out.trans (grown_setCell _ _ _ _)⟩
            intro i hi
            by_cases hik : i = k
            · rw [if_pos hik, HV.out, hik]
            · rw [if_neg hik]
              exact HG8.out i (by omega)
          case measure => simp [intOf]; omega
    · have h8 : k = 256 := by omega
      subst h8
      have hT := HT.out.congr HG8.out
      have hadd := run_call_add (P := Tryz.prog) Tryz.func120 (by kernel_rfl) (by kernel_rfl) (by kernel_rfl) .i64 (by kernel_rfl) (y := 1) (s := 1) hT.c3 (hT.free 3) (by simp [go_sem]; rfl)
      have HT1 := Lib.hid hT
      clear hT
      go_wp2
      go_end0
      exact ⟨rfl, HT1.out.set3 1, HG.out.trans (grown_setCell _ _ _ _)⟩
end Go.Proofs.YtomfmejodmfioaaGreat
namespace Go.Proofs.YtomfmejodmfioaaGreat
open Go.RowKit Go.ChangeShapes Go.WideShapes Go.Joins
set_option linter.unusedVariables false

theorem disable (w : World) : (callFunc 125 #[]).run Tryz.prog w = .ok (.value (.tuple #[])) w := run_call_mark0 Tryz.func125 (by kernel_rfl) (by kernel_rfl) (by kernel_rfl) .disable (by kernel_rfl) w
theorem enable (w : World) : (callFunc 127 #[]).run Tryz.prog w = .ok (.value (.tuple #[])) w := run_call_mark0 Tryz.func127 (by kernel_rfl) (by kernel_rfl) (by kernel_rfl) .enable (by kernel_rfl) w
theorem acquire (a : Addr) (w : World) : (callFunc 128 #[.pointer (some a)]).run Tryz.prog w = .ok (.value (.tuple #[])) w := run_call_marked Tryz.func128 (by kernel_rfl) (by kernel_rfl) (by kernel_rfl) .acquire (by kernel_rfl) a w
theorem releaseMerge (a : Addr) (w : World) : (callFunc 130 #[.pointer (some a)]).run Tryz.prog w = .ok (.value (.tuple #[])) w := run_call_marked Tryz.func130 (by kernel_rfl) (by kernel_rfl) (by kernel_rfl) .releaseMerge (by kernel_rfl) a w

set_option maxHeartbeats 1000000 in
theorem store_deferred (a : Addr) (x : Value) (u : FrameMode) (w : World) (hc : w.cell? a = some x) (hz : w.frozen? a = false) :
    CallsD Tryz.prog 119 #[.pointer (some a), .bool true] u w fun e u' w' => u' = u ∧ (e = .returned (.tuple #[]) ∧ w' = w.drew.setCell a (.int .u32 1)) := by
  have hc' : w.drew.cell? a = some x := by go_simp
  have hz' : w.drew.frozen? a = false := by go_simp
  have hst := run_call_store (P := Tryz.prog) Tryz.func123 (by kernel_rfl) (by kernel_rfl) (by kernel_rfl) (by kernel_rfl) (k := .u32) (y := 1) hc' hz'
  go_enter_d Tryz.func119, Tryz.ntmps119
  go_wp2
  go_region_calls
  all_goals (go_end0; exact ⟨rfl, rfl⟩)

set_option maxRecDepth 100000 in
set_option maxHeartbeats 1000000 in
theorem unlock_deferred (a : Addr) (u : FrameMode) (w : World) (hc : w.cell? a = some (.int .i32 1)) (hz : w.frozen? a = false) :
    CallsD Tryz.prog 118 #[.pointer (some a)] u w fun e u' w' => u' = u ∧ (e = .returned (.tuple #[]) ∧ w' = w.setCell a (.int .i32 0)) := by
  have hd := disable
  have he := enable
  have hr := releaseMerge
  have hadd := run_call_add (P := Tryz.prog) Tryz.func131 (by kernel_rfl) (by kernel_rfl) (by kernel_rfl) .i32 (by kernel_rfl) (y := -1) (s := 0) hc hz (by simp [go_sem]; rfl)
  have hcv := run_convert_to_unsafe (P := Tryz.prog) (src := 214) (dst := 182) Tryz.underlying214 Tryz.underlying182 (by kernel_rfl) hc
  go_enter_d Tryz.func118, Tryz.ntmps118
  go_wp2
  go_end0
  go_wp2
  go_end0
  exact ⟨rfl, rfl⟩

set_option maxRecDepth 100000 in
set_option maxHeartbeats 1000000 in
theorem lock_free (a : Addr) (w : World) (hc : w.cell? a = some (.int .i32 0)) (hz : w.frozen? a = false) :
    Calls Tryz.prog 117 #[.pointer (some a)] w fun e w' => e = .returned (.tuple #[]) ∧ w' = w.setCell a (.int .i32 1) := by
  have hd := disable
  have he := enable
  have ha := acquire
  have hcas := run_call_cas_hit (P := Tryz.prog) Tryz.func126 (by kernel_rfl) (by kernel_rfl) (by kernel_rfl) .i32 (by kernel_rfl) (y := 1) hc hz
  have hc' : (w.setCell a (.int .i32 1)).cell? a = some (.int .i32 1) := World.cell?_setCell_same w a _ hc
  have hcv := run_convert_to_unsafe (P := Tryz.prog) (src := 214) (dst := 182) Tryz.underlying214 Tryz.underlying182 (by kernel_rfl) hc'
  go_enter Tryz.func117, Tryz.ntmps117
  go_wp2
  first | go_end0 | (simp only [Exit.inBlock, Exit.then]; refine bodyPost_ret (results_none rfl _ _ _) rfl ?_) | refine bodyPost_ret (results_none rfl _ _ _) rfl ?_
  go_wp2
  go_end0
  exact ⟨rfl, rfl⟩

/-- A table that is new, or made. -/
def TabOk (w : World) (b : Nat) (m : Int) : Prop := (m = 0 ∧ ∃ f, TabAt w b 0 0 0 f) ∨ (m = 1 ∧ TabAt w b 1 0 1 (stn 8))

set_option maxRecDepth 100000 in
set_option maxHeartbeats 1600000 in
theorem slow_any {w : World} {b : Nat} {f : Nat → Nat} (h : TabAt w b 0 0 0 f) :
    Calls Tryz.prog 114 #[.pointer (some ⟨b, 0, none⟩), .func (.func 112) #[.pointer (some ⟨b, 0, none⟩)] #[]] w fun e w' => e = .returned (.tuple #[]) ∧ TabAt w' b 1 0 1 (stn 8) ∧ w.grownBy w' (some b) := by
  have h1 := h.set1 1
  have hc1 := h.c1
  have hf1 := h.free 1
  have hl := run_call_load (P := Tryz.prog) Tryz.func116 (by kernel_rfl) (by kernel_rfl) (by kernel_rfl) .u32 (by kernel_rfl) h1.c0
  have H1 := Lib.hid h1
  clear h1 h
  have hnot : ∀ (x : Bool) (w : World), (Op.unary .not (.bool x)).run Tryz.prog w = .ok (.bool (!x)) w := fun _ _ => rfl
  go_enter_defers Tryz.func114, Tryz.ntmps114
  go_wp2_with (first
    | (go_at_call 117; refine (lock_free ⟨b, 1, none⟩ _ (by assumption) (by assumption)).mono ?_; rintro e w' ⟨rfl, rfl⟩)
    | (go_at_call 113; go_in))
  refine (make_any (by exact H1.out)).mono ?_
  rintro e w2 ⟨rfl, hT, hg⟩
  have hg := (grown_setCell w b 1 (.int .i32 1)).trans hg
  clear hl hc1 hf1 H1
  go_wp2_with fail
  refine leaves_cons (f := 119) (args := #[.pointer (some ⟨b, 0, none⟩), .bool true]) (by simp) (by simp [go_sem]) ?_
  refine (store_deferred ⟨b, 0, none⟩ (.int .u32 0) .returning _ hT.c0 (hT.free 0)).mono ?_
  rintro e u' w'' ⟨rfl, rfl, rfl⟩
  have hT1 := hT.drew.set0 1
  have hg1 := (drewN_grown (n := 1) (grown_setCell w2.drew b 0 (.int .u32 1)))
  refine leaves_cons (f := 118) (args := #[.pointer (some ⟨b, 1, none⟩)]) (by simp [settle]) (by simp [go_sem]) ?_
  refine (unlock_deferred ⟨b, 1, none⟩ _ _ hT1.c1 (hT1.free 1)).mono ?_
  rintro e u' w'' ⟨rfl, rfl, rfl⟩
  have fin := And.intro (hT1.set1 0) ((hg.trans hg1).trans (grown_setCell _ b 1 (.int .i32 0)))
  simpa [Leaves, settle, results, Tryz.results114] using fin

set_option maxRecDepth 100000 in
set_option maxHeartbeats 1600000 in
/-- Do, at a table: it is made, once. -/
theorem do_any {w : World} {b : Nat} {m : Int} (h : TabOk w b m) :
    Calls Tryz.prog 111 #[.pointer (some ⟨b, 0, none⟩), .func (.func 112) #[.pointer (some ⟨b, 0, none⟩)] #[]] w fun e w' => e = .returned (.tuple #[]) ∧ TabAt w' b 1 0 1 (stn 8) ∧ w.grownBy w' (some b) := by
  have hnot : ∀ (x : Bool) (w : World), (Op.unary .not (.bool x)).run Tryz.prog w = .ok (.bool (!x)) w := fun _ _ => rfl
  rcases h with ⟨_, f, h⟩ | ⟨_, h⟩
  · have hl := run_call_load (P := Tryz.prog) Tryz.func116 (by kernel_rfl) (by kernel_rfl) (by kernel_rfl) .u32 (by kernel_rfl) h.c0
    go_enter Tryz.func111, Tryz.ntmps111
    go_wp2_with (go_at_call 113; go_in)
    refine (slow_any (by exact h)).mono ?_
    rintro e w1 ⟨rfl, hT, hg⟩
    go_wp2_with fail
    go_end0
    exact ⟨rfl, hT, hg⟩
  · have hl := run_call_load (P := Tryz.prog) Tryz.func116 (by kernel_rfl) (by kernel_rfl) (by kernel_rfl) .u32 (by kernel_rfl) h.c0
    go_enter Tryz.func111, Tryz.ntmps111
    go_wp2
    go_end0
    exact ⟨rfl, h, World.grownBy.refl _ _⟩
end Go.Proofs.YtomfmejodmfioaaGreat
namespace Go.Proofs.YtomfmejodmfioaaGreat
open Go.RowKit Go.ChangeShapes Go.WideShapes Go.Joins
set_option linter.unusedVariables false

theorem takeB_snoc (l : List UInt8) {k : Nat} {c : UInt8} (h : l[k]? = some c) : l.take (k + 1) = l.take k ++ [c] := by
  obtain ⟨hk, e⟩ := List.getElem?_eq_some_iff.1 h
  rw [List.take_succ_eq_append_getElem hk, e]

/-- A byte more of a sum. -/
theorem crcL_next (l : List UInt8) {k : Nat} {c : UInt8} (h : l[k]? = some c) : crcL ones (l.take (k + 1)) = crcB (crcL ones (l.take k)) c.toNat := by
  rw [takeB_snoc l h, crcL_snoc]

theorem xor_byte (C : Nat) (c : UInt8) : bits .xor .u8 ((C : Int) % 256) (c.toNat : Int) = ((C % 256 ^^^ c.toNat : Nat) : Int) := by
  have := c.toNat_lt
  rw [show (C : Int) % 256 = ((C % 256 : Nat) : Int) by omega]
  exact u8_xor_nat _ _ (by omega) this
theorem byte_lt (C : Nat) (c : UInt8) : C % 256 ^^^ c.toNat < 256 := Nat.xor_lt_two_pow (n := 8) (Nat.mod_lt _ (by omega)) c.toNat_lt
theorem sum_code {C : Nat} (hC : F32 C) (c : UInt8) : bits .xor .u32 ((stn 8 (C % 256 ^^^ c.toNat) : Nat) : Int) ((C : Int) / 256) = (crcB C c.toNat : Int) := by
  have h1 := byte_lt C c
  have h2 := stn_fit 8 (show F32 (C % 256 ^^^ c.toNat) by unfold F32; omega)
  unfold F32 at *
  rw [show (C : Int) / 256 = ((C / 256 : Nat) : Int) by omega, u32_xor_nat _ _ h2 (by omega), crc_table]
theorem xor_ones32 (a : Nat) (ha : a < 4294967296) : 4294967295 ^^^ a = 4294967295 - a := by
  have h := congrArg BitVec.toNat (BitVec.xor_allOnes (x := BitVec.ofNat 32 a))
  rw [BitVec.toNat_xor, BitVec.toNat_not, BitVec.toNat_ofNat, BitVec.toNat_allOnes] at h
  have e : a % 2 ^ 32 = a := Nat.mod_eq_of_lt (by omega)
  rw [e, Nat.xor_comm] at h
  exact h
theorem not_code {C : Nat} (hC : F32 C) : bits .xor .u32 IntKind.u32.max (C : Int) = ((ones - C : Nat) : Int) := by
  unfold F32 at hC
  rw [show IntKind.u32.max = ((4294967295 : Nat) : Int) from by decide +kernel, u32_xor_nat _ _ (by omega) hC, xor_ones32 _ hC]
  rfl

set_option maxRecDepth 100000 in
set_option maxHeartbeats 1000000 in
theorem sum_any {w : World} {b : Nat} {m : Int} (h : TabOk w b m) (l : List UInt8) (hl : l.length ≤ 1000000) :
    Calls Tryz.prog 110 #[.pointer (some ⟨b, 0, none⟩), .string ⟨l.toArray⟩] w fun e w' => e = .returned (.int .u32 (crcOf l)) ∧ TabAt w' b 1 0 1 (stn 8) ∧ w.grownBy w' (some b) := by
  have hmf : ∀ (fn : Fn) (first cap : Array Value) (w : World), (Instr.makeFunc fn first cap).run Tryz.prog w = .ok (.func fn first cap) w := fun _ _ _ _ => rfl
  go_enter Tryz.func110, Tryz.ntmps110
  go_wp2_with fail
  refine (do_any (by exact h)).mono ?_
  rintro e w1 ⟨rfl, hT, hg⟩
  clear h
  have HT1 := Lib.hid hT
  have HG1 := Lib.hid hg
  clear hT hg
  go_wp2_with fail
  go_loopw [5, 17] (fun c i wr => ∃ k C : Nat, k ≤ l.length ∧ i = .int .i64 k ∧ c = .int .u32 C ∧ C = crcL ones (l.take k) ∧ TabAt wr b 1 0 1 (stn 8) ∧ w.grownBy wr (some b)) (fun _ i _ => l.length - (intOf i).toNat)
  case atStart => exact ⟨0, ones, by omega, rfl, rfl, rfl, HT1.out, HG1.out⟩
  case round =>
    obtain ⟨k, C, hk, rfl, rfl, hC, hT, hg⟩ := hrel
    have HC := Lib.hid hC
    have HT := Lib.hid hT
    have HG := Lib.hid hg
    have HF := Lib.hid (show F32 C from hC ▸ crcL_fit ones_fit _)
    clear hC hT hg
    by_cases hlt : k < l.length
    · obtain ⟨c, hc⟩ : ∃ c, l[k]? = some c := ⟨_, List.getElem?_eq_getElem hlt⟩
      have hix := index_at l k c hc
      have hrow := HT.out.row (byte_lt C c)
      have hx := xor_byte C c
      have hX : ((C % 256 ^^^ c.toNat : Nat) : Int) < 256 := by have := byte_lt C c; omega
      have hX0 : (0 : Int) ≤ ((C % 256 ^^^ c.toNat : Nat) : Int) := by omega
      have HS := Lib.hid (sum_code HF.out c)
      have HN := Lib.hid (crcL_next l hc)
      clear hc
      generalize C % 256 ^^^ c.toNat = X at *
      generalize stn 8 X = Y at *
      go_wp2_with fail
      go_quiet (fail)
      go_wp2_with fail
      go_roundw
      case rel => exact ⟨k + 1, crcB C c.toNat, by omega, by go_num, by rw [HS.out], by rw [HN.out, HC.out], HT.out.drewN _, grown_drewN HG.out _⟩
      case measure => simp [intOf]; omega
    · have HN := Lib.hid (not_code HF.out)
      have HL := Lib.hid (show crcOf l = ones - C by rw [crcOf, HC.out, List.take_of_length_le (by omega)])
      go_wp2_with fail
      go_ret
      exact ⟨by rw [HL.out, ← HN.out]; rfl, HT.out, HG.out⟩

set_option maxHeartbeats 400000 in
theorem sum_nil (s : ByteArray) (w : World) : Calls Tryz.prog 110 #[.pointer none, .string s] w fun e w' => e = .returned (.int .u32 0) ∧ w = w' := by
  go_enter Tryz.func110, Tryz.ntmps110
  go_wp2_with fail
  go_ret
  exact ⟨rfl, rfl⟩

theorem half_code {x : Nat} (h : F32 x) : bits .xor .u32 ((x : Int) / 2 % 4294967296) 3988292384 = ((x / 2 ^^^ poly : Nat) : Int) := by
  unfold F32 at h
  rw [show (x : Int) / 2 % 4294967296 = ((x / 2 : Nat) : Int) by omega, show (3988292384 : Int) = ((3988292384 : Nat) : Int) from rfl, u32_xor_nat _ _ (by omega) (by omega)]
  rfl
theorem half_fit {x : Nat} (h : F32 x) : (x : Int) / 2 % 4294967296 = ((x / 2 : Nat) : Int) := by
  unfold F32 at h
  omega
theorem xor_code {C : Nat} (h : F32 C) (c : UInt8) : bits .xor .u32 (C : Int) ((c.toNat : Int) % 4294967296) = ((C ^^^ c.toNat : Nat) : Int) := by
  have := c.toNat_lt
  rw [show (c.toNat : Int) % 4294967296 = (c.toNat : Int) by omega]
  exact u32_xor_nat _ _ h (by omega)

end Go.Proofs.YtomfmejodmfioaaGreat
namespace Go.Proofs.YtomfmejodmfioaaGreat
open Go.RowKit Go.ChangeShapes Go.WideShapes Go.Joins
set_option linter.unusedVariables false

/-- The four bytes as far as they are laid. -/
def fourTo (n k : Nat) : List UInt8 := (four n).take k ++ List.replicate (4 - k) 0
theorem fourTo_len (n k : Nat) (hk : k ≤ 4) : (fourTo n k).length = 4 := by
  simp [fourTo, four]
  omega
theorem four_byte (n k : Nat) (hn : F32 n) (hk : k < 4) : (four n)[k]? = some (UInt8.ofNat (n / 2 ^ (24 - 8 * k) % 256)) := by
  unfold F32 at hn
  have h : k = 0 ∨ k = 1 ∨ k = 2 ∨ k = 3 := by omega
  rcases h with rfl | rfl | rfl | rfl
  · simp only [four, List.getElem?_cons_zero, show 2 ^ (24 - 8 * 0) = 16777216 from rfl]
    rw [Nat.mod_eq_of_lt (by omega)]
  · rfl
  · rfl
  · simp [four]
theorem fourTo_set (n k : Nat) (hn : F32 n) (hk : k < 4) : (fourTo n k).set k (UInt8.ofNat (n / 2 ^ (24 - 8 * k) % 256)) = fourTo n (k + 1) := by
  have hb := four_byte n k hn hk
  obtain ⟨h1, h2⟩ := List.getElem?_eq_some_iff.1 hb
  rw [← h2]
  have h : k = 0 ∨ k = 1 ∨ k = 2 ∨ k = 3 := by omega
  rcases h with rfl | rfl | rfl | rfl <;> rfl

theorem arr4_len : Tryz.prog.arrayLen 190 = 4 := by kernel_rfl
theorem arr4_elem : Tryz.prog.elem 190 = 5 := by kernel_rfl
theorem arr4_under : Tryz.prog.underlying 190 = some (.array (Tryz.prog.arrayLen 190) (Tryz.prog.elem 190)) := by kernel_rfl
set_option maxRecDepth 100000 in
theorem slice4 (B : Nat) (W : World) : (Instr.sliceAt 190 (.pointer (some ⟨B, 0, none⟩)) none none none).run Tryz.prog W = .ok (.slice (some ⟨B, 0, none⟩) 4 4) W := by
  rw [run_sliceAt_array_all W 190 _ arr4_under, arr4_len]
  rfl

set_option maxRecDepth 100000 in
set_option maxHeartbeats 1000000 in
theorem frame_any (l : List UInt8) (hl : l.length ≤ 1000000) (w : World) :
    Calls Tryz.prog 104 #[.string ⟨l.toArray⟩] w fun e w' => e = .returned (.tuple #[.string ⟨(frame l).toArray⟩, .int .u32 (crcOf l)]) ∧ Below w.heap.size w w' := by
  go_enter Tryz.func104, Tryz.ntmps104
  go_wp2_with fail
  refine (new_any _).mono ?_
  rintro e w1 ⟨rfl, hT, hb1⟩
  go_wp2_with fail
  refine (sum_any (.inl ⟨rfl, _, hT⟩) l hl).mono ?_
  rintro e w2 ⟨rfl, hT2, hg2⟩
  have hb2 := grown_below hb1 hg2 (Nat.le_refl _)
  have HN := Lib.hid (show ∃ n, n = crcOf l ∧ F32 n from ⟨_, rfl, crcOf_fit l⟩)
  obtain ⟨n, hn, hf⟩ := HN.out
  rw [← hn]
  have Hn := Lib.hid hn
  have HF := Lib.hid hf
  clear hT hg2 hT2 hb1 hn hf HN
  go_wp2_with fail
  have hz := hb2.size
  go_loopw [10] (fun i wr => ∃ k : Nat, k ≤ 4 ∧ i = .int .i64 k ∧ wr.heap[w2.heap.size]? = some (.cells (bcells (fourTo n k)).toArray 190 (0, 0)) ∧ Below w.heap.size w wr) (fun i _ => 4 - (intOf i).toNat)
  case atStart => exact ⟨0, by omega, rfl, heap_alloc_new _ _, hb2.alloc hz _⟩
  case round =>
    obtain ⟨k, hk, rfl, hB, hb⟩ := hrel
    have HB := Lib.hid hB
    have hf : wr.frozen? ⟨w2.heap.size, k, none⟩ = false := by simp [World.frozen?, hB]
    by_cases hlt : k < 4
    · have hc : wr.cell? ⟨w2.heap.size, k, none⟩ = some (.int .u8 (((fourTo n k).getD k 0).toNat : Int)) := by
        rw [cell_of_row _ _ _ _ _ _ hB]
        have := fourTo_len n k hk
        simp [bcells, List.getD, List.getElem?_eq_getElem (show k < (fourTo n k).length by omega)]
      clear hB
      have hs0 : (0 : Int) ≤ 24 - 8 * k := by omega
      go_wp2_with fail
      refine ⟨⟨k + 1, by omega, by go_num, ?_, hb.setCell hz _⟩, by simp [intOf]; omega⟩
      have e : ((n : Int) / 2 ^ (24 - 8 * k) % 256) = ((UInt8.ofNat (n / 2 ^ (24 - 8 * k) % 256)).toNat : Int) := by
        rw [UInt8.toNat_ofNat']
        push_cast
        omega
      rw [e, ← fourTo_set n k HF.out hlt]
      exact set_heap HB.out _
    · have h4 : k = 4 := by omega
      subst h4
      have hsl := slice4 w2.heap.size wr
      have hcv := text_of (n := 4) hB (by rw [fourTo_len _ _ (by omega)]; omega) 4
      rw [List.take_of_length_le (by rw [fourTo_len _ _ (by omega)]; omega), show fourTo n 4 = four n by simp [fourTo, four]] at hcv
      clear hB
      have h4l : (four n).length = 4 := rfl
      go_wp2_with fail
      go_ret2
      exact ⟨by rw [← Hn.out, frame, ← Hn.out, ← ByteArray.mk_append_mk]; rfl, hb⟩

theorem take_eq (l : List UInt8) (n : Nat) : (⟨l.toArray⟩ : ByteArray).extract 0 n = ⟨(l.take n).toArray⟩ := by
  rw [ByteArray.extract_mk]
  simp

/-- What is whole: the text, or none. -/
def wholeOf (l : List UInt8) : List UInt8 := if whole l = true then l.take (l.length - 4) else []

set_option maxRecDepth 100000 in
set_option maxHeartbeats 1000000 in
theorem whole_any (l : List UInt8) (hl : l.length ≤ 1000000) (w : World) :
    Calls Tryz.prog 100 #[.string ⟨l.toArray⟩] w fun e w' => e = .returned (.tuple #[.string ⟨(wholeOf l).toArray⟩, .bool (whole l)]) ∧ Below w.heap.size w w' := by
  by_cases h4 : l.length < 4
  · have HW := Lib.hid (show whole l = false by simp [whole]; omega)
    have HO := Lib.hid (show wholeOf l = [] by rw [wholeOf, HW.out]; rfl)
    have h4' : (l.length : Int) - 4 < 0 := by omega
    go_enter Tryz.func100, Tryz.ntmps100
    go_wp2_with fail
    go_ret2
    exact ⟨by rw [HW.out, HO.out]; rfl, Below.refl _ _⟩
  · have h4' : (0 : Int) ≤ (l.length : Int) - 4 := by omega
    have HT := Lib.hid (take_eq l (l.length - 4))
    have ht : (l.take (l.length - 4)).length ≤ 1000000 := by rw [List.length_take]; omega
    by_cases hF : frame (l.take (l.length - 4)) = l
    · have HW := Lib.hid (show whole l = true by rw [whole, hF]; simp; omega)
      have HO := Lib.hid (show wholeOf l = l.take (l.length - 4) by rw [wholeOf, HW.out, if_pos rfl])
      have HF := Lib.hid hF
      clear hF
      go_enter Tryz.func100, Tryz.ntmps100
      go_wp2_with fail
      rw [HT.out]
      refine (frame_any _ ht _).mono ?_
      rintro e w1 ⟨rfl, hb⟩
      rw [HF.out]
      go_wp2_with fail
      go_ret2
      exact ⟨by rw [HW.out, HO.out, ← HT.out]; rfl, hb⟩
    · have HW := Lib.hid (show whole l = false by rw [whole, decide_eq_false hF, Bool.and_false])
      have HO := Lib.hid (show wholeOf l = [] by rw [wholeOf, HW.out]; rfl)
      go_enter Tryz.func100, Tryz.ntmps100
      go_wp2_with fail
      rw [HT.out]
      refine (frame_any _ ht _).mono ?_
      rintro e w1 ⟨rfl, hb⟩
      generalize frame (l.take (l.length - 4)) = G at *
      have hne : (G == l) = false := by simpa using hF
      go_wp2_with fail
      go_ret2
      exact ⟨by rw [HW.out, HO.out]; rfl, hb⟩

theorem four_text {n : Nat} (hn : F32 n) (w : World) :
    (convert 112 9 (.slice (some ⟨w.heap.size, 0, none⟩) 4 4)).run Tryz.prog (w.alloc (.cells #[.int .u8 ((n : Int) / 16777216 % 256), .int .u8 ((n : Int) / 65536 % 256), .int .u8 ((n : Int) / 256 % 256), .int .u8 ((n : Int) % 256)] 5)) =
      .ok (.string ⟨(four n).toArray⟩) (w.alloc (.cells #[.int .u8 ((n : Int) / 16777216 % 256), .int .u8 ((n : Int) / 65536 % 256), .int .u8 ((n : Int) / 256 % 256), .int .u8 ((n : Int) % 256)] 5)) := by
  have e : (bcells (four n)).toArray = #[.int .u8 ((n : Int) / 16777216 % 256), .int .u8 ((n : Int) / 65536 % 256), .int .u8 ((n : Int) / 256 % 256), .int .u8 ((n : Int) % 256)] := by
    unfold F32 at hn
    simp only [bcells, four, List.map_cons, List.map_nil, UInt8.toNat_ofNat']
    have h1 : ((n / 16777216 % 2 ^ 8 : Nat) : Int) = (n : Int) / 16777216 % 256 := by omega
    have h2 : ((n / 65536 % 256 % 2 ^ 8 : Nat) : Int) = (n : Int) / 65536 % 256 := by omega
    have h3 : ((n / 256 % 256 % 2 ^ 8 : Nat) : Int) = (n : Int) / 256 % 256 := by omega
    have h4 : ((n % 256 % 2 ^ 8 : Nat) : Int) = (n : Int) % 256 := by omega
    rw [h1, h2, h3, h4]
  have := text_of (W := w.alloc (.cells (bcells (four n)).toArray 5)) (B := w.heap.size) (n := 4) (l := four n) (T := 5) (heap_alloc_new _ _) (by simp [four]) 4
  rw [e] at this
  exact this

end Go.Proofs.YtomfmejodmfioaaGreat
