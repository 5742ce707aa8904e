/- A text turned into bytes of the call's own, and back. -/
import Derived.Test.YtoiaigbagfalmaaCommon
namespace Go.Proofs.Ytoiaigbagfalmaa
open Go.RowKit Go.ChangeShapes Go.WideShapes Go.Joins
set_option linter.unusedVariables false

/-- Block B begins with the bytes l, which may be written. -/
def ByAt (w : World) (B : Nat) (l : List UInt8) : Prop := ∃ (T : TypeId) (zs : List UInt8), w.heap[B]? = some (.cells (bcells (l ++ zs)).toArray T ((l ++ zs).length, (l ++ zs).length + 1))

theorem bytes_row (l : List UInt8) (cap : Nat) : bytesRow ⟨l.toArray⟩ cap = (bcells (l ++ List.replicate (cap - l.length) 0)).toArray := by
  simp [bytesRow, bcells, ByteArray.size]

theorem bytes_of (l : List UInt8) (W : World) : ∃ (cap : Nat) (zs : List UInt8), (convert 9 56 (.string ⟨l.toArray⟩)).run Try.prog W =
    .ok (.slice (some ⟨W.heap.size, 0, none⟩) l.length cap) (W.drew.alloc (.cells (bcells (l ++ zs)).toArray 5 ((l ++ zs).length, (l ++ zs).length + 1))) := by
  refine ⟨grownCap W l.length 0 5, List.replicate (grownCap W l.length 0 5 - l.length) 0, ?_⟩
  have h := run_bytes_of_string (P := Try.prog) W 9 56 5 ⟨l.toArray⟩ Try.underlying9 Try.underlying56 Try.underlying5
  have hs : (⟨l.toArray⟩ : ByteArray).size = l.length := by simp [ByteArray.size]
  rw [hs, bytes_row] at h
  rw [h]
  simp [bcells]

section
variable {w w' : World} {B k : Nat} {l : List UInt8}
theorem ByAt.made (l zs : List UInt8) (T : TypeId) (W : World) : ByAt (W.drew.alloc (.cells (bcells (l ++ zs)).toArray T ((l ++ zs).length, (l ++ zs).length + 1))) W.heap.size l := ⟨T, zs, heap_alloc_new _ _⟩
theorem ByAt.made' (l zs : List UInt8) (T : TypeId) (W : World) : ByAt (W.alloc (.cells (bcells (l ++ zs)).toArray T (l.length + zs.length, l.length + zs.length + 1))).drew W.heap.size l := ⟨T, zs, by rw [List.length_append]; exact heap_alloc_new _ _⟩
theorem ByAt.lt (h : ByAt w B l) : B < w.heap.size := by
  obtain ⟨T, zs, h⟩ := h
  exact (Array.getElem?_eq_some_iff.1 h).1
theorem ByAt.cell (h : ByAt w B l) {c : UInt8} (hk : l[k]? = some c) : w.cell? ⟨B, k, none⟩ = some (.int .u8 (c.toNat : Int)) := by
  obtain ⟨T, zs, h⟩ := h
  have hl := (List.getElem?_eq_some_iff.1 hk).1
  rw [cell_of_row _ _ _ _ _ _ h, List.getElem?_toArray, bcells, List.getElem?_map, List.getElem?_append_left hl, hk]
  rfl
theorem ByAt.free (h : ByAt w B l) (hk : k < l.length) : w.frozen? ⟨B, k, none⟩ = false := by
  obtain ⟨T, zs, h⟩ := h
  simp only [World.frozen?, h, List.length_append]
  rw [decide_eq_false (by omega)]
  rfl
theorem ByAt.below (h : ByAt w B l) (hb : Below w.heap.size w w') : ByAt w' B l := by
  have hl := h.lt
  obtain ⟨T, zs, h⟩ := h
  exact ⟨T, zs, (hb.block B hl).trans h⟩
theorem ByAt.grown {c : Nat} (h : ByAt w B l) (hg : w.grownBy w' (some c)) (hne : B ≠ c) : ByAt w' B l := by
  have hl := h.lt
  obtain ⟨T, zs, h⟩ := h
  exact ⟨T, zs, (hg.block _ hl (by simpa using hne)).trans h⟩
theorem ByAt.set (h : ByAt w B l) (hk : k < l.length) (c : UInt8) : ByAt (w.setCell ⟨B, k, none⟩ (.int .u8 (c.toNat : Int))) B (l.set k c) := by
  obtain ⟨T, zs, h⟩ := h
  refine ⟨T, zs, ?_⟩
  rw [show l.set k c ++ zs = (l ++ zs).set k c by rw [List.set_append_left _ _ hk], List.length_set, ← bcells_set]
  simp [World.setCell, Array.getElem?_modify, h]
theorem ByAt.text (h : ByAt w B l) (cap : Nat) : (convert 56 9 (.slice (some ⟨B, 0, none⟩) l.length cap)).run Try.prog w = .ok (.string ⟨l.toArray⟩) w :=
  run_convert_bytes_back (P := Try.prog) w 56 9 5 ⟨B, 0, none⟩ cap l Try.underlying56 Try.underlying5 Try.underlying9 (fun j hj => by
    rw [addr_add, Nat.zero_add]
    exact h.cell (List.getElem?_eq_getElem hj))
end

theorem xor_bytes (d c : UInt8) : bits .xor .u8 (d.toNat : Int) (c.toNat : Int) = ((d ^^^ c).toNat : Int) := by
  rw [u8_xor_nat _ _ d.toNat_lt c.toNat_lt, UInt8.toNat_xor]
/-- Bytes of which one is turned, as a text. -/
theorem ByAt.turned {w : World} {B j : Nat} {l : List UInt8} (h : ByAt w B l) (hj : j < l.length) (d c : UInt8) (cap : Nat) :
    (convert 56 9 (.slice (some ⟨B, 0, none⟩) l.length cap)).run Try.prog (w.setCell ⟨B, j, none⟩ (.int .u8 (bits .xor .u8 (d.toNat : Int) (c.toNat : Int)))) = .ok (.string ⟨(l.set j (d ^^^ c)).toArray⟩) (w.setCell ⟨B, j, none⟩ (.int .u8 (bits .xor .u8 (d.toNat : Int) (c.toNat : Int)))) := by
  rw [xor_bytes]
  have := (h.set hj (d ^^^ c)).text cap
  rwa [List.length_set] at this
theorem xor_ne {d c : UInt8} (h : c ≠ 0) : d ^^^ c ≠ d := by
  intro e
  have e2 := congrArg (fun x => d ^^^ x) e
  simp only [← UInt8.xor_assoc, UInt8.xor_self, UInt8.zero_xor] at e2
  exact h e2
theorem byte_zero {c : UInt8} : c = 0 ↔ (c.toNat : Int) = 0 := by
  rw [← UInt8.toNat_inj]
  simp

theorem u8_byte {x : Int} (h : (Lit.int .u8 x).wf = true) : ∃ c : UInt8, x = (c.toNat : Int) := by
  have : 0 ≤ x ∧ x ≤ 255 := by simpa [Lit.wf, IntKind.min, IntKind.max, IntKind.signed, IntKind.bits] using h
  exact ⟨UInt8.ofNat x.toNat, by rw [UInt8.toNat_ofNat']; omega⟩
theorem ret_bool {a : Bool} (h : a = true) : Ending.returned (.bool a) = .returned (.bool true) := by rw [h]

/-- A place among n, of whatever number. -/
theorem place_mod (cut : Int) (n : Nat) (h0 : 0 < n) (h1 : n < 9223372036854775808) : ∃ j : Nat, wrap64 ((IntKind.u64.wrap cut).tmod (n : Int)) = j ∧ j < n := by
  have h : 0 ≤ IntKind.u64.wrap cut := by
    simp only [IntKind.wrap_u64]
    omega
  rw [Int.tmod_eq_emod_of_nonneg h]
  have h2 := Int.emod_nonneg (IntKind.u64.wrap cut) (show (n : Int) ≠ 0 by omega)
  have h3 := Int.emod_lt_of_pos (IntKind.u64.wrap cut) (show (0 : Int) < n by omega)
  rw [IntWalk.wrap64_in _ ⟨by omega, by omega⟩]
  exact ⟨((IntKind.u64.wrap cut) % n).toNat, by omega, by omega⟩
end Go.Proofs.Ytoiaigbagfalmaa
