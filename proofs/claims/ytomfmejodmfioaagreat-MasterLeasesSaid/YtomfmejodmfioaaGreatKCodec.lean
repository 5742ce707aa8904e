/- The frame of every law of this seat: arguments read behind the call as they read before, because nothing that was there has turned. No program in sight. Small facts that all texts share: bytes as cells, worlds that grow, numbers of 64 bits. Numbers as bytes, in plain Lean: how a number is written in groups of seven bits, and how it is read. No program in sight. The contracts of the writing half of package codec. The contracts of the writing half of package codec: numbers with a sign, texts. The contracts of the reading half of package codec. The contract of number: what a number at the beginning of bytes is. The contracts of the reader's methods: what each reads, and what is left. Worlds that grow: writes to blocks of the call's own. A text turned into bytes of the call's own, and back. The contracts of the document's reader: a text, a place in it, an error. More contracts of the document's reader: a number with a sign, a text. The last contract of the document's reader: a text. Numbers as bytes, in plain Lean: what is written is read as it was; bytes that are a number are those it is written in. What the readers hand on: how long, how large, and that what was read stands there. -/
import Derived.Test.YtomfmejodmfioaaGreatRows
import Derived.WalkKit
import Derived.ProofKit
import Derived.OpenShut
import Derived.ChangeOld
import Derived.Below
import Derived.WalkSpells
import Derived.WalkLawsBesides
import Derived.BigQuiet
import Derived.Deep.QuietTactic
import Derived.StillTailTactics
import Derived.Lib.SmallJoins
import Derived.Lib.Hide
import Derived.Outline
import Derived.Deep.AppendLies
import Derived.Deep.LoopGhost
import Derived.Deep.RegionHeld3
import Derived.Laws.IdiomStrings
import Derived.Laws.BitsAllLaws
import Derived.Laws.Bits64
import Derived.Laws.BitsLemmas
import Derived.Laws.LoneSync
import Derived.Laws.ShiftsVarLaws
namespace Go.Proofs.YtomfmejodmfioaaGreat
open Go.ChangeShapes Go.WideShapes Go.ChangeAt Go.RowKit
set_option linter.unusedVariables false

theorem own : ownKnob Tryz.prog.godebug = none := by kernel_rfl
theorem laidOut : laidOutB Tryz.prog = true := by kernel_rfl

theorem trodAll_keep {H : Type} {enc : TypeId × Value → H} {P : Program} {W W' : World} (hl : laidOutB P = true) (bel : Below W.heap.size W W') :
    ∀ (ts : List TypeId) (vs : List Value) (ds : List (DataW H)) (ps : List MemPlace), (∀ t ∈ ts, P.readableRec t = true ∧ t < P.types.size) → DataW.TrodAll enc P W 0 (fun _ => true) true ts vs ds ps →
      DataW.TrodAll enc P W' 0 (fun b => decide (b < W.heap.size)) true ts vs ds ps
  | [], [], [], ps, _, h => by simpa [DataW.TrodAll] using h
  | t :: ts, v :: vs, d :: ds, ps, hp, h => by
    obtain ⟨p, q, h1, h2, e⟩ := h
    have lt : ∀ x ∈ p, x.block < W.heap.size := by
      obtain ⟨m, hm⟩ := h1
      exact DataW.trod_lt m _ _ _ hm
    exact ⟨p, q, Below.trod hl (hp t (by simp)).1 (hp t (by simp)).2 h1 bel lt, trodAll_keep hl bel ts vs ds q (fun u hu => hp u (by simp [hu])) h2, e⟩
  | [], [], _ :: _, ps, _, h => by simp [DataW.TrodAll] at h
  | [], _ :: _, _, ps, _, h => by simp [DataW.TrodAll] at h
  | _ :: _, [], _, ps, _, h => by simp [DataW.TrodAll] at h
  | _ :: _, _ :: _, [], ps, _, h => by simp [DataW.TrodAll] at h

theorem trodAll_len {H : Type} {enc : TypeId × Value → H} {P : Program} {W : World} {b : Nat} {sp : Nat → Bool} {hd : Bool} :
    ∀ (ts : List TypeId) (vs : List Value) (ds : List (DataW H)) (ps : List MemPlace), DataW.TrodAll enc P W b sp hd ts vs ds ps → ds.length = ts.length
  | [], [], [], ps, _ => rfl
  | t :: ts, v :: vs, d :: ds, ps, h => by
    obtain ⟨p, q, h1, h2, e⟩ := h
    simp [trodAll_len ts vs ds q h2]
  | [], [], _ :: _, ps, h => by simp [DataW.TrodAll] at h
  | [], _ :: _, _, ps, h => by simp [DataW.TrodAll] at h
  | _ :: _, [], _, ps, h => by simp [DataW.TrodAll] at h
  | _ :: _, _ :: _, [], ps, h => by simp [DataW.TrodAll] at h

/-- A law's last step: it handed back true, and nothing that was there has turned. -/
theorem law_post {H : Type} {enc : TypeId × Value → H} {f : Func} {s : ChangeSpec} {W W' : World} {args : Array Value} {ds gs : List (DataW H)} {before : List MemPlace} {ts : List TypeId}
    (hts : f.params.toList = ts) (hp : ∀ t ∈ ts, Tryz.prog.readableRec t = true ∧ t < Tryz.prog.types.size)
    (hW : DataW.Whole enc Tryz.prog f.params.toList s.vars false W args.toList ds gs before) (hv : s.vars = [])
    (hs : ∀ ds : List (DataW H), ds.length = ts.length → s.fn H ds = { results := [.lit (.bool true)], args := ds })
    (hr : f.resultTypes = #[4]) (bel : Below W.heap.size W W') : s.post enc Tryz.prog f false true false false W args (.bool true) W' := by
  have hW' := hW
  obtain ⟨p, q, hA, hV, rfl, hfz, hnd⟩ := hW
  rw [hv] at hV
  obtain ⟨rfl, rfl⟩ := trodVars_none hV
  rw [hts] at hA
  have hlen := trodAll_len _ _ _ _ hA
  have e : s.fn H (ds ++ []) = { results := [.lit (.bool true)], args := ds } := by rw [List.append_nil]; exact hs ds hlen
  refine ⟨ds, [], p ++ [], [], p, [], hW', ?_, ?_, ?_, bel.frame _, fun h => by cases h⟩
  · rw [e, hr]
    exact trodAll_mk1 (shut_bool Tryz.underlying4 true)
  · rw [e, hts]
    exact trodAll_keep laidOut bel ts _ ds p hp hA
  · rw [e, hv]
    rfl

end Go.Proofs.YtomfmejodmfioaaGreat
namespace Go.Proofs.YtomfmejodmfioaaGreat
open Go.RowKit Go.ChangeShapes Go.WideShapes Go.Joins
set_option linter.unusedVariables false

def W64 (x : Int) : Prop := (Lit.int .i64 x).wf = true
theorem W64.bd {x : Int} (h : W64 x) : -9223372036854775808 ≤ x ∧ x ≤ 9223372036854775807 := by
  simpa [W64, Lit.wf, IntKind.min, IntKind.max, IntKind.signed, IntKind.bits] using h
theorem W64.mk {x : Int} (h1 : -9223372036854775808 ≤ x) (h2 : x ≤ 9223372036854775807) : W64 x := by
  simpa [W64, Lit.wf, IntKind.min, IntKind.max, IntKind.signed, IntKind.bits] using And.intro h1 h2
/-- A number of 64 bits. -/
def F64 (q : Nat) : Prop := q < 18446744073709551616
theorem addr_add (b off n : Nat) : (⟨b, off, none⟩ : Addr).add n = ⟨b, off + n, none⟩ := by
  unfold Addr.add
  split <;> simp_all
/-- Bytes as cells. -/
def bcells (l : List UInt8) : List Value := l.map fun c => .int .u8 (c.toNat : Int)
theorem bcells_len (l : List UInt8) : (bcells l).length = l.length := by simp [bcells]
theorem bcells_set (l : List UInt8) (k : Nat) (c : UInt8) : (bcells l).toArray.setIfInBounds k (.int .u8 (c.toNat : Int)) = (bcells (l.set k c)).toArray := by
  simp [bcells, List.map_set]
theorem bcells_snoc (l : List UInt8) (c : UInt8) : bcells (l ++ [c]) = bcells l ++ [.int .u8 (c.toNat : Int)] := by simp [bcells]
theorem set_heap {w : World} {B k : Nat} {l : List UInt8} {T : TypeId} (h : w.heap[B]? = some (.cells (bcells l).toArray T (0, 0))) (c : UInt8) :
    (w.setCell ⟨B, k, none⟩ (.int .u8 (c.toNat : Int))).heap[B]? = some (.cells (bcells (l.set k c)).toArray T (0, 0)) := by
  rw [← bcells_set]
  simp [World.setCell, Array.getElem?_modify, h]
/-- The bytes at a block's beginning, as a text. -/
theorem text_of {W : World} {B n : Nat} {l : List UInt8} {T : TypeId} (h : W.heap[B]? = some (.cells (bcells l).toArray T (0, 0))) (hn : n ≤ l.length) (c : Nat) :
    (convert 112 9 (.slice (some ⟨B, 0, none⟩) n c)).run Tryz.prog W = .ok (.string ⟨(l.take n).toArray⟩) W := by
  have e : n = (l.take n).length := by simp; omega
  have := run_convert_bytes_back (P := Tryz.prog) W 112 9 5 ⟨B, 0, none⟩ c (l.take n) Tryz.underlying112 Tryz.underlying5 Tryz.underlying9 (fun j hj => by
    rw [addr_add, Nat.zero_add, cell_of_row _ _ _ _ _ _ h]
    have hjl : j < l.length := by simp at hj; omega
    simp [bcells, hjl])
  rw [← e] at this
  exact this
theorem u8_info : (Tryz.prog.info? 5).map (fun i => (i.zero, i.size, i.bytes)) = some (some (.int .u8 0), 1, 1) := by kernel_rfl
theorem grown_setCell (w : World) (b i : Nat) (u : Value) : w.grownBy (w.setCell ⟨b, i, none⟩ u) (some b) :=
  ⟨rfl, rfl, rfl, by simp [World.setCell], fun k _ hk => Below.heap_setCell _ _ _ _ (fun e => hk (by rw [e]))⟩
theorem grown_two {a b c : World} {k : Nat} (h : a.grownBy b (some k)) (h' : b.grownBy c (some k)) : a.grownBy c (some k) := h.trans h'
theorem grown_drewN {w w' : World} {row : Option Nat} (h : w.grownBy w' row) (n : Nat) : w.grownBy (w'.drewN n) row := ⟨h.os, h.tape, h.output, h.size, h.block⟩
theorem drewN_grown {w w' : World} {row : Option Nat} {n : Nat} (h : (w.drewN n).grownBy w' row) : w.grownBy w' row := ⟨h.os, h.tape, h.output, h.size, h.block⟩
theorem grown_below {w0 w w' : World} {k : Nat} (h : Below w0.heap.size w0 w) (hg : w.grownBy w' (some k)) (hk : w0.heap.size ≤ k) : Below w0.heap.size w0 w' := h.grown hg h.size (by intro j hj; cases hj; exact hk)
theorem below_drewN {n : Nat} {w w' : World} (h : Below n w w') (k : Nat) : Below n w (w'.drewN k) := ⟨h.os, h.tape, h.output, h.size, h.block⟩
theorem below_step {w0 w w' : World} (h : Below w0.heap.size w0 w) (b : Below w.heap.size w w') : Below w0.heap.size w0 w' := h.trans (b.mono h.size)
theorem quiet_left {P : Program} {f : FuncId} {args : Array Value} {w : World} {n : Nat} {v : Value}
    (h : Calls P f args (w.drewN n) fun e w' => e = .returned v ∧ w.drewN n = w') : Calls P f args (w.drewN n) fun e w'' => e = .returned v ∧ ∃ m, w'' = w.drewN m :=
  h.mono fun _ _ ⟨he, hm⟩ => ⟨he, n, hm.symm⟩
theorem index_at (S : List UInt8) (k : Nat) (c : UInt8) (hc : S[k]? = some c) (w : World) : (Instr.index 9 (.string ⟨S.toArray⟩) (.int .i64 (k : Int))).run Tryz.prog w = .ok (.int .u8 (c.toNat : Int)) w := by
  have hlt := (List.getElem?_eq_some_iff.1 hc).1
  have he := (List.getElem?_eq_some_iff.1 hc).2
  rw [run_index_string _ _ _ _ _ Tryz.underlying9]
  have hsz : (⟨S.toArray⟩ : ByteArray).size = S.length := by simp [ByteArray.size]
  rw [dif_pos ⟨by omega, by rw [hsz]; omega⟩]
  have hb : (⟨S.toArray⟩ : ByteArray)[((k : Int)).toNat]'(by rw [hsz]; omega) = c := he
  rw [hb]
theorem ret_int {k : IntKind} {a b : Int} (h : a = b) : Ending.returned (.int k a) = .returned (.int k b) := by rw [h]
theorem ret3 {k : IntKind} {a b : Int} {x y : Value} (h : a = b) : Ending.returned (.tuple #[.int k a, x, y]) = .returned (.tuple #[.int k b, x, y]) := by rw [h]
theorem ret_str {a b : ByteArray} (h : a = b) : Ending.returned (.string a) = .returned (.string b) := by rw [h]
theorem extract_drop (l : List UInt8) {n : Nat} (hn : n ≤ l.length) : (⟨l.toArray⟩ : ByteArray).extract n l.length = ⟨(l.drop n).toArray⟩ := by
  rw [ByteArray.extract_mk, List.take_of_length_le (by simp)]
theorem extract_mid (l : List UInt8) (a n : Nat) : (⟨l.toArray⟩ : ByteArray).extract a (a + n) = ⟨((l.drop a).take n).toArray⟩ := by
  rw [ByteArray.extract_mk, Nat.add_sub_cancel_left]
theorem u64_nat {x : Int} (h : (Lit.int .u64 x).wf = true) : ∃ n : Nat, x = n ∧ F64 n := by
  have : 0 ≤ x ∧ x ≤ 18446744073709551615 := by simpa [Lit.wf, IntKind.min, IntKind.max, IntKind.signed, IntKind.bits] using h
  exact ⟨x.toNat, by omega, by unfold F64; omega⟩
theorem str_list (s : ByteArray) : ∃ l : List UInt8, s = ⟨l.toArray⟩ ∧ s.size = l.length := ⟨s.data.toList, by cases s; rfl, Array.length_toList.symm⟩
theorem trod_one_int {H : Type} {enc : TypeId × Value → H} {W : World} {base : Nat} {sp : Nat → Bool} {hd : Bool} {n : Nat} {c : Value} {x : DataW H × List MemPlace} (h : DataW.trod enc Tryz.prog W base sp hd n 3 [c] = some x) : ∃ z, c = .int .i64 z ∧ W64 z := by
  obtain ⟨z, g, rfl, w⟩ := DataW.trod_int Tryz.underlying3 h
  simp at g
  exact ⟨z, g, w⟩
end Go.Proofs.YtomfmejodmfioaaGreat
namespace Go.Proofs.YtomfmejodmfioaaGreat

/-- A number's bytes, at most k + 1 of them. -/
def encF : Nat → Nat → List UInt8
  | 0, n => [UInt8.ofNat n]
  | k + 1, n => if n < 128 then [UInt8.ofNat n] else UInt8.ofNat (n % 128 + 128) :: encF k (n / 128)
def enc (n : Nat) : List UInt8 := encF 9 n

theorem encF_len (k n : Nat) : 1 ≤ (encF k n).length ∧ (encF k n).length ≤ k + 1 := by
  induction k generalizing n with
  | zero => simp [encF]
  | succ k ih =>
    unfold encF
    split
    · simp
    · have := ih (n / 128)
      simp only [List.length_cons]
      omega

/-- One more group, the others ahead of it. -/
theorem encF_small {k n : Nat} (h : n < 128) : encF k n = [UInt8.ofNat n] := by
  cases k <;> simp [encF, h]
theorem encF_big {k n : Nat} (h : 128 ≤ n) : encF (k + 1) n = UInt8.ofNat (n % 128 + 128) :: encF k (n / 128) := by
  rw [encF, if_neg (by omega)]

/-- What a number at the beginning of bytes is: the number, how long it is, what is wrong (3: a form that may not be; 4: cut off). -/
def scan : List UInt8 → Nat → Nat → Nat × Nat × Nat
  | [], _, _ => (0, 0, 4)
  | c :: r, i, acc =>
    if i = 9 ∧ 1 < c.toNat ∨ 0 < i ∧ c.toNat = 0 then (0, 0, 3)
    else if c.toNat < 128 then (acc + c.toNat % 128 * 128 ^ i, i + 1, 0)
    else scan r (i + 1) (acc + c.toNat % 128 * 128 ^ i)
def num (l : List UInt8) : Nat × Nat × Nat := scan l 0 0

end Go.Proofs.YtomfmejodmfioaaGreat
namespace Go.Proofs.YtomfmejodmfioaaGreat
open Go.RowKit Go.ChangeShapes Go.WideShapes Go.Joins
set_option linter.unusedVariables false

theorem arr10_len : Tryz.prog.arrayLen 181 = 10 := by kernel_rfl
theorem arr10_elem : Tryz.prog.elem 181 = 5 := by kernel_rfl
theorem arr10_under : Tryz.prog.underlying 181 = some (.array (Tryz.prog.arrayLen 181) (Tryz.prog.elem 181)) := by kernel_rfl
theorem slice10 (B k : Nat) (hk : k ≤ 9) (W : World) : (Instr.sliceAt 181 (.pointer (some ⟨B, 0, none⟩)) none (some (.int .i64 ((k : Int) + 1))) none).run Tryz.prog W = .ok (.slice (some ⟨B, 0, none⟩) (k + 1) 10) W := by
  rw [run_sliceAt_array_h W 181 _ arr10_under .i64 ((k : Int) + 1) (by omega) (by rw [arr10_len]; omega), arr10_elem, Tryz.sizeOf5, arr10_len]
  simp [Result.andThen, slicedAt, Addr.add]

theorem u8_or128 (q : Nat) : bits .or .u8 ((q : Int) % 256) 128 = ((UInt8.ofNat (q % 128 + 128)).toNat : Int) := by
  have h1 : ((q : Int) % 256) = ((q % 256 : Nat) : Int) := by omega
  rw [h1]
  have h2 : ∀ a : Fin 256, bits .or .u8 ((a.val : Nat) : Int) 128 = (((a.val % 128 + 128 : Nat)) : Int) := by decide +kernel
  have := h2 ⟨q % 256, Nat.mod_lt _ (by omega)⟩
  rw [this]
  simp only [UInt8.toNat_ofNat']
  omega

theorem enc_step {n k q : Nat} {l : List UInt8} (hE : enc n = l.take k ++ encF (9 - k) q) (hl : l.length = 10) (hq : 128 ≤ q) (hQ : q < 2 * 128 ^ (9 - k)) (hk : k ≤ 9) :
    k + 1 ≤ 9 ∧ enc n = (l.set k (UInt8.ofNat (q % 128 + 128))).take (k + 1) ++ encF (9 - (k + 1)) (q / 128) ∧ q / 128 < 2 * 128 ^ (9 - (k + 1)) := by
  have hk9 : k ≠ 9 := by
    rintro rfl
    simp at hQ
    omega
  obtain ⟨j, hj⟩ : ∃ j, 9 - k = j + 1 := ⟨9 - k - 1, by omega⟩
  have hj' : 9 - (k + 1) = j := by omega
  refine ⟨by omega, ?_, ?_⟩
  · rw [hE, hj, hj', encF_big hq, List.take_succ_eq_append_getElem (by simp; omega), List.getElem_set_self, List.take_set_of_le (Nat.le_refl _), List.append_assoc]
    rfl
  · rw [hj'] 
    rw [hj, Nat.pow_succ] at hQ
    omega

theorem enc_last {n k q : Nat} {l : List UInt8} (hE : enc n = l.take k ++ encF (9 - k) q) (hl : l.length = 10) (hq : q < 128) (hk : k ≤ 9) :
    enc n = (l.set k (UInt8.ofNat q)).take (k + 1) := by
  rw [hE, encF_small hq, List.take_succ_eq_append_getElem (by simp; omega), List.getElem_set_self, List.take_set_of_le (Nat.le_refl _)]

set_option maxRecDepth 10000 in
set_option maxHeartbeats 1000000 in
theorem cuint_any (n : Nat) (hn : F64 n) (w : World) :
    Calls Tryz.prog 94 #[.int .u64 n] w fun e w' => e = .returned (.string ⟨(enc n).toArray⟩) ∧ Below w.heap.size w w' := by
  go_enter Tryz.func94, Tryz.ntmps94
  go_wp2_with fail
  go_loopw [0, 4] (fun m i wr => ∃ k q : Nat, ∃ l : List UInt8, k ≤ 9 ∧ i = .int .i64 k ∧ m = .int .u64 q ∧ F64 q ∧ wr.heap[w.heap.size]? = some (.cells (bcells l).toArray 181 (0, 0)) ∧ l.length = 10 ∧ enc n = l.take k ++ encF (9 - k) q ∧ q < 2 * 128 ^ (9 - k) ∧ Below w.heap.size w wr) (fun m _ _ => (intOf m).toNat)
  case atStart => exact ⟨0, n, List.replicate 10 0, by omega, rfl, rfl, hn, heap_alloc_new _ _, rfl, rfl, by unfold F64 at hn; omega, (Below.refl _ _).alloc (Nat.le_refl _) _⟩
  case round =>
    obtain ⟨k, q, l, hk, rfl, rfl, hq, hB, hl, he, hqk, hb⟩ := hrel
    have HB := Lib.hid hB
    have HE := Lib.hid he
    have HL := Lib.hid hl
    have HQ := Lib.hid hqk
    have hBlt : w.heap.size < wr.heap.size := (Array.getElem?_eq_some_iff.1 hB).1
    have hf : wr.frozen? ⟨w.heap.size, k, none⟩ = false := by simp [World.frozen?, hB]
    have hc : wr.cell? ⟨w.heap.size, k, none⟩ = some (.int .u8 ((l.getD k 0).toNat : Int)) := by
      rw [cell_of_row _ _ _ _ _ _ hB]
      simp [bcells, List.getD, List.getElem?_eq_getElem (show k < l.length by omega)]
    clear hB he hl hqk
    by_cases hlt : 128 ≤ q
    · have HO := Lib.hid (u8_or128 q)
      go_wp2_with fail
      have hs := enc_step HE.out HL.out hlt HQ.out hk
      refine ⟨⟨k + 1, q / 128, l.set k (UInt8.ofNat (q % 128 + 128)), hs.1, by go_num, by go_num, ?_, ?_, by rw [List.length_set]; exact HL.out, hs.2.1, hs.2.2, hb.setCell (Nat.le_refl _) _⟩, ?_⟩
      · unfold F64 at hq ⊢; omega
      · rw [HO.out]
        exact set_heap HB.out _
      · simp [intOf]; omega
    · have hsl := slice10 w.heap.size k hk
      have hs := enc_last HE.out HL.out (by omega) hk
      have hcv := text_of (n := k + 1) (set_heap (k := k) HB.out (UInt8.ofNat q)) (by rw [List.length_set, HL.out]; omega) 10
      have e : ((UInt8.ofNat q).toNat : Int) = q := by simp; omega
      rw [e, ← hs] at hcv
      clear e hs
      go_wp2_with fail
      go_ret
      exact ⟨rfl, hb.setCell (Nat.le_refl _) _⟩

/-- The row of bytes that a call owns, as a text. -/
theorem text_own {W : World} {base n cap g : Nat} {l : List UInt8} (h : W.ownsRow base 5 1 (.slice (some ⟨g, 0, none⟩) n cap) n (bcells l)) (hn : n = l.length) :
    (convert 112 9 (.slice (some ⟨g, 0, none⟩) n cap)).run Tryz.prog W = .ok (.string ⟨l.toArray⟩) W := by
  subst hn
  refine run_convert_bytes_back (P := Tryz.prog) W 112 9 5 ⟨g, 0, none⟩ cap l Tryz.underlying112 Tryz.underlying5 Tryz.underlying9 (fun j hj => ?_)
  rw [addr_add, Nat.zero_add, h.cellAt j (by omega)]
  simp [bcells, hj]

theorem enc_next {n q : Nat} {l : List UInt8} (hE : enc n = l ++ encF (9 - l.length) q) (hq : 128 ≤ q) (hQ : q < 2 * 128 ^ (9 - l.length)) (hk : l.length ≤ 9) :
    l.length + 1 ≤ 9 ∧ enc n = (l ++ [UInt8.ofNat (q % 128 + 128)]) ++ encF (9 - (l.length + 1)) (q / 128) ∧ q / 128 < 2 * 128 ^ (9 - (l.length + 1)) := by
  have hk9 : l.length ≠ 9 := by
    intro h
    rw [h] at hQ
    simp at hQ
    omega
  obtain ⟨j, hj⟩ : ∃ j, 9 - l.length = j + 1 := ⟨9 - l.length - 1, by omega⟩
  have hj' : 9 - (l.length + 1) = j := by omega
  refine ⟨by omega, ?_, ?_⟩
  · rw [hE, hj, hj', encF_big hq, List.append_assoc]
    rfl
  · rw [hj']
    rw [hj, Nat.pow_succ] at hQ
    omega

end Go.Proofs.YtomfmejodmfioaaGreat
namespace Go.Proofs.YtomfmejodmfioaaGreat
open Go.RowKit Go.ChangeShapes Go.WideShapes Go.Joins
set_option linter.unusedVariables false

/-- A number with a sign, as one without. -/
def zig (i : Int) : Nat := if 0 ≤ i then (2 * i).toNat else (-2 * i - 1).toNat
theorem zig_fit {i : Int} (h : W64 i) : F64 (zig i) := by
  have := h.bd
  unfold F64 zig
  split <;> omega

theorem xor_ones (a : Nat) (ha : a < 18446744073709551616) : a ^^^ 18446744073709551615 = 18446744073709551615 - a := by
  have h := congrArg BitVec.toNat (BitVec.xor_allOnes (x := BitVec.ofNat 64 a))
  rw [BitVec.toNat_xor, BitVec.toNat_not, BitVec.toNat_ofNat, BitVec.toNat_allOnes] at h
  have e : a % 2 ^ 64 = a := Nat.mod_eq_of_lt (by omega)
  rw [e] at h
  exact h

theorem zig_code {i : Int} (h : W64 i) : bits .xor .u64 (IntKind.u64.wrap (IntKind.u64.wrap i * 2)) (IntKind.u64.wrap (i / 9223372036854775808)) = (zig i : Int) := by
  have hb := h.bd
  simp only [IntKind.wrap_u64]
  unfold zig
  split
  · rename_i h0
    have e1 : (i % 18446744073709551616 * 2 % 18446744073709551616) = (((2 * i).toNat : Nat) : Int) := by omega
    have e2 : (i / 9223372036854775808 % 18446744073709551616) = ((0 : Nat) : Int) := by omega
    rw [e1, e2, bits_xor_u64_nat _ _ (by omega) (by omega), Nat.xor_zero]
  · rename_i h0
    have e1 : (i % 18446744073709551616 * 2 % 18446744073709551616) = (((2 * i + 18446744073709551616).toNat : Nat) : Int) := by omega
    have e2 : (i / 9223372036854775808 % 18446744073709551616) = ((18446744073709551615 : Nat) : Int) := by omega
    rw [e1, e2, bits_xor_u64_nat _ _ (by omega) (by omega), xor_ones _ (by omega)]
    omega

theorem zig_pos {i : Int} (h : W64 i) (h0 : 0 ≤ i) : IntKind.u64.wrap (2 * IntKind.u64.wrap i) = (zig i : Int) := by
  have hb := h.bd
  simp only [IntKind.wrap_u64]
  rw [zig, if_pos h0]
  omega
theorem zig_neg {i : Int} (h : W64 i) (h0 : ¬ 0 ≤ i) : IntKind.u64.wrap (IntKind.u64.wrap (2 * IntKind.u64.wrap (wrap64 (-wrap64 (i + 1)))) + 1) = (zig i : Int) := by
  have hb := h.bd
  rw [IntWalk.wrap64_in (i + 1) ⟨by omega, by omega⟩, IntWalk.wrap64_in _ ⟨by omega, by omega⟩]
  simp only [IntKind.wrap_u64]
  rw [zig, if_neg h0]
  omega

theorem enc_len (n : Nat) : 1 ≤ (enc n).length ∧ (enc n).length ≤ 10 := encF_len 9 n

/-- A text's bytes: how long it is, and itself. -/
def encS (l : List UInt8) : List UInt8 := enc l.length ++ l

set_option maxHeartbeats 1000000 in
theorem cstr_any (l : List UInt8) (hl : l.length ≤ 1000000) (w : World) :
    Calls Tryz.prog 105 #[.string ⟨l.toArray⟩] w fun e w' => e = .returned (.string ⟨(encS l).toArray⟩) ∧ Below w.heap.size w w' := by
  have hle := (enc_len l.length).2
  go_enter Tryz.func105, Tryz.ntmps105
  go_wp2_with fail
  refine (cuint_any l.length (by unfold F64; omega) _).mono ?_
  rintro e w' ⟨rfl, hb⟩
  go_wp2_with fail
  go_ret
  exact ⟨by rw [encS, ← ByteArray.mk_append_mk]; rfl, hb⟩

end Go.Proofs.YtomfmejodmfioaaGreat
namespace Go.Proofs.YtomfmejodmfioaaGreat
open Go.RowKit Go.ChangeShapes Go.WideShapes Go.Joins
set_option linter.unusedVariables false

theorem load_law {a : Addr} {x : Int} {w : World} (hc : w.cell? a = some (.int .i64 x)) : (callFunc 103 #[.pointer (some a)]).run Tryz.prog w = .ok (.value (.int .i64 x)) w :=
  run_call_load Tryz.func103 (by kernel_rfl) (by kernel_rfl) (by kernel_rfl) .i64 (by kernel_rfl) hc
theorem cas_hit {a : Addr} {x y : Int} {w : World} (hc : w.cell? a = some (.int .i64 x)) (hz : w.frozen? a = false) :
    (callFunc 108 #[.pointer (some a), .int .i64 x, .int .i64 y]).run Tryz.prog w = .ok (.value (.bool true)) (w.setCell a (.int .i64 y)) :=
  run_call_cas_hit Tryz.func108 (by kernel_rfl) (by kernel_rfl) (by kernel_rfl) .i64 (by kernel_rfl) hc hz
theorem cas_miss {a : Addr} {x o y : Int} {w : World} (hc : w.cell? a = some (.int .i64 x)) (hz : w.frozen? a = false) (hne : ¬ x = o) :
    (callFunc 108 #[.pointer (some a), .int .i64 o, .int .i64 y]).run Tryz.prog w = .ok (.value (.bool false)) w :=
  run_call_cas_miss Tryz.func108 (by kernel_rfl) (by kernel_rfl) (by kernel_rfl) .i64 (by kernel_rfl) hc hz hne

/-- Block b is a reader with the bytes l ahead of it, and the error e. -/
def RdAt (w : World) (b : Nat) (l : List UInt8) (e : Int) : Prop := w.heap[b]? = some (.cells #[.string ⟨l.toArray⟩, .int .i64 e] 156 (0, 0))

section
variable {w w' : World} {b : Nat} {l : List UInt8} {e : Int}
theorem RdAt.lt (h : RdAt w b l e) : b < w.heap.size := (Array.getElem?_eq_some_iff.1 h).1
theorem RdAt.cell0 (h : RdAt w b l e) : w.cell? ⟨b, 0, none⟩ = some (.string ⟨l.toArray⟩) := cell_of_row _ _ 0 _ _ _ h
theorem RdAt.cell1 (h : RdAt w b l e) : w.cell? ⟨b, 1, none⟩ = some (.int .i64 e) := cell_of_row _ _ 1 _ _ _ h
theorem RdAt.free (h : RdAt w b l e) (i : Nat) : w.frozen? ⟨b, i, none⟩ = false := by unfold RdAt at h; simp [World.frozen?, h]
theorem RdAt.below (h : RdAt w b l e) (hb : Below w.heap.size w w') : RdAt w' b l e := (hb.block b h.lt).trans h
theorem RdAt.set0 (h : RdAt w b l e) (l' : List UInt8) : RdAt (w.setCell ⟨b, 0, none⟩ (.string ⟨l'.toArray⟩)) b l' e := by
  unfold RdAt at h ⊢
  simp [World.setCell, Array.getElem?_modify, h]
theorem RdAt.set1 (h : RdAt w b l e) (e' : Int) : RdAt (w.setCell ⟨b, 1, none⟩ (.int .i64 e')) b l e' := by
  unfold RdAt at h ⊢
  simp [World.setCell, Array.getElem?_modify, h]
end

theorem RdAt.drew {w : World} {b : Nat} {l : List UInt8} {e : Int} (h : RdAt w b l e) : RdAt w.drew b l e := h
theorem RdAt.drewN {w : World} {b : Nat} {l : List UInt8} {e : Int} (h : RdAt w b l e) (n : Nat) : RdAt (w.drewN n) b l e := h
theorem RdAt.grown {w w' : World} {b c : Nat} {l : List UInt8} {e : Int} (h : RdAt w b l e) (hg : w.grownBy w' (some c)) (hne : b ≠ c) : RdAt w' b l e := (hg.block _ h.lt (by simpa using hne)).trans h

set_option maxHeartbeats 400000 in
theorem read_any (l : List UInt8) (w : World) : Calls Tryz.prog 61 #[.string ⟨l.toArray⟩] w fun e w' => ∃ b, e = .returned (.pointer (some ⟨b, 0, none⟩)) ∧ RdAt w' b l 0 ∧ w.heap.size ≤ b ∧ Below w.heap.size w w' := by
  go_enter Tryz.func61, Tryz.ntmps61
  go_wp2
  go_ret
  exact ⟨w.heap.size, rfl, heap_alloc_new _ _, Nat.le_refl _, (Below.refl _ _).alloc (Nat.le_refl _) _⟩

set_option maxHeartbeats 400000 in
theorem err_any {w : World} {b : Nat} {l : List UInt8} {e : Int} (h : RdAt w b l e) : Calls Tryz.prog 63 #[.pointer (some ⟨b, 0, none⟩)] w fun en w' => en = .returned (.int .i64 e) ∧ w = w' := by
  have hl := load_law h.cell1
  have hc := h.cell1
  clear h
  go_enter Tryz.func63, Tryz.ntmps63
  go_wp2
  go_ret
  exact ⟨rfl, rfl⟩

set_option maxHeartbeats 400000 in
theorem err_nil (w : World) : Calls Tryz.prog 63 #[.pointer none] w fun en w' => en = .returned (.int .i64 12) ∧ w = w' := by
  go_enter Tryz.func63, Tryz.ntmps63
  go_wp2
  go_ret
  exact ⟨rfl, rfl⟩

/-- The first error stands. -/
def fst_ (e x : Int) : Int := if e = 0 then x else e

set_option maxHeartbeats 400000 in
theorem fail_any {w : World} {b : Nat} {l : List UInt8} {e x : Int} (h : RdAt w b l e) : Calls Tryz.prog 87 #[.pointer (some ⟨b, 0, none⟩), .int .i64 x] w fun en w' => en = .returned (.tuple #[]) ∧ RdAt w' b l (fst_ e x) ∧ w.grownBy w' (some b) := by
  have hc := h.cell1
  by_cases h0 : e = 0
  · subst h0
    have hl := fun y => cas_hit (y := y) h.cell1 (h.free 1)
    go_enter Tryz.func87, Tryz.ntmps87
    go_wp2
    go_end0
    exact ⟨rfl, by rw [fst_, if_pos rfl]; exact h.set1 x, grown_setCell _ _ _ _⟩
  · have hl := fun y => cas_miss (y := y) h.cell1 (h.free 1) h0
    go_enter Tryz.func87, Tryz.ntmps87
    go_wp2
    go_end0
    exact ⟨rfl, by rw [fst_, if_neg h0]; exact h, World.grownBy.refl _ _⟩

set_option maxHeartbeats 400000 in
theorem fail_nil (x : Int) (w : World) : Calls Tryz.prog 87 #[.pointer none, .int .i64 x] w fun en w' => en = .returned (.tuple #[]) ∧ w = w' := by
  go_enter Tryz.func87, Tryz.ntmps87
  go_wp2
  go_end0
  exact ⟨rfl, rfl⟩

/-- How many bytes are left. -/
def leftOf (l : List UInt8) (e : Int) : Int := if e = 0 then l.length else 0

set_option maxHeartbeats 400000 in
theorem left_any {w : World} {b : Nat} {l : List UInt8} {e : Int} (h : RdAt w b l e) : Calls Tryz.prog 64 #[.pointer (some ⟨b, 0, none⟩)] w fun en w' => en = .returned (.int .i64 (leftOf l e)) ∧ w = w' := by
  have hc := h.cell0
  by_cases h0 : e = 0
  · subst h0
    go_enter Tryz.func64, Tryz.ntmps64
    go_wp2_with fail
    refine (err_any (by exact h)).mono ?_
    rintro en w' ⟨rfl, rfl⟩
    go_wp2_with fail
    go_ret
    exact ⟨by rw [leftOf, if_pos rfl]; rfl, rfl⟩
  · have HE := Lib.hid (show leftOf l e = 0 by rw [leftOf, if_neg h0])
    have h0 : (e == 0) = false := by simpa using h0
    go_enter Tryz.func64, Tryz.ntmps64
    go_wp2_with fail
    refine (err_any (by exact h)).mono ?_
    rintro en w' ⟨rfl, rfl⟩
    go_wp2_with fail
    go_ret
    exact ⟨by rw [HE.out]; rfl, rfl⟩

set_option maxHeartbeats 400000 in
theorem left_nil (w : World) : Calls Tryz.prog 64 #[.pointer none] w fun en w' => en = .returned (.int .i64 0) ∧ w = w' := by
  go_enter Tryz.func64, Tryz.ntmps64
  go_wp2_with fail
  refine (err_nil _).mono ?_
  rintro en w' ⟨rfl, rfl⟩
  go_wp2_with fail
  go_ret
  exact ⟨rfl, rfl⟩
end Go.Proofs.YtomfmejodmfioaaGreat
namespace Go.Proofs.YtomfmejodmfioaaGreat
open Go.RowKit Go.ChangeShapes Go.WideShapes Go.Joins
set_option linter.unusedVariables false

theorem or_step (acc k c : Nat) (hc : c < 256) (hk : k ≤ 9) (hacc : acc < 128 ^ k) (h9 : k = 9 → c ≤ 1) :
    bits .or .u64 (acc : Int) (IntKind.u64.wrap (IntKind.u64.wrap (bits .and .u8 (c : Int) 127) * 2 ^ (7 * k))) = ((acc + c % 128 * 128 ^ k : Nat) : Int) := by
  have e1 : bits .and .u8 (c : Int) 127 = ((c % 128 : Nat) : Int) := by
    have := u8_and_nat c 127 hc (by omega)
    rw [show ((127 : Nat) : Int) = 127 from rfl] at this
    rw [this, show (127 : Nat) = 2 ^ 7 - 1 from rfl, Nat.and_two_pow_sub_one_eq_mod]
  have e2 : (128 : Nat) ^ k = 2 ^ (7 * k) := by rw [Nat.pow_mul]
  have hp : (128 : Nat) ^ k ≤ 9223372036854775808 := Nat.le_trans (Nat.pow_le_pow_right (by omega) hk) (by decide)
  have hx : c % 128 * 128 ^ k < 18446744073709551616 := by
    by_cases h : k = 9
    · have := h9 h
      have h1 : c % 128 ≤ 1 := by omega
      have := Nat.mul_le_mul h1 hp
      omega
    · have hp8 : (128 : Nat) ^ k ≤ 72057594037927936 := Nat.le_trans (Nat.pow_le_pow_right (by omega) (show k ≤ 8 by omega)) (by decide)
      have := Nat.mul_le_mul (show c % 128 ≤ 127 by omega) hp8
      omega
  rw [e1, IntKind.wrap_u64, IntKind.wrap_u64]
  have e3 : ((c % 128 : Nat) : Int) % 18446744073709551616 = ((c % 128 : Nat) : Int) := by omega
  have e4 : ((c % 128 : Nat) : Int) * 2 ^ (7 * k) = ((c % 128 * 128 ^ k : Nat) : Int) := by rw [e2]; push_cast; rfl
  rw [e3, e4]
  have e5 : ((c % 128 * 128 ^ k : Nat) : Int) % 18446744073709551616 = ((c % 128 * 128 ^ k : Nat) : Int) := by omega
  rw [e5, u64_or_nat _ _ (by omega) hx]
  have e6 : acc ||| c % 128 * 128 ^ k = acc + c % 128 * 128 ^ k := by
    rw [e2, Nat.mul_comm, Nat.or_comm, ← Nat.two_pow_add_eq_or_of_lt (by rw [← e2]; exact hacc)]
    omega
  rw [e6]

theorem scan_drop {l : List UInt8} {k : Nat} {c : UInt8} (h : l[k]? = some c) (acc : Nat) : scan (l.drop k) k acc =
    if k = 9 ∧ 1 < c.toNat ∨ 0 < k ∧ c.toNat = 0 then (0, 0, 3)
    else if c.toNat < 128 then (acc + c.toNat % 128 * 128 ^ k, k + 1, 0)
    else scan (l.drop (k + 1)) (k + 1) (acc + c.toNat % 128 * 128 ^ k) := by
  obtain ⟨hk, e⟩ := List.getElem?_eq_some_iff.1 h
  rw [List.drop_eq_getElem_cons hk, e]
  rfl

theorem acc_next {acc k c : Nat} (h : acc < 128 ^ k) (hc : c % 128 < 128) : acc + c % 128 * 128 ^ k < 128 ^ (k + 1) := by
  rw [Nat.pow_succ]
  have := Nat.mul_le_mul_right (128 ^ k) (show c % 128 ≤ 127 by omega)
  omega

set_option maxRecDepth 10000 in
set_option maxHeartbeats 1000000 in
theorem number_any (l : List UInt8) (hl : l.length ≤ 1000000) (w : World) :
    Calls Tryz.prog 107 #[.string ⟨l.toArray⟩] w fun e w' => e = .returned (.tuple #[.int .u64 (num l).1, .int .i64 (num l).2.1, .int .i64 (num l).2.2]) ∧ w = w' := by
  go_enter Tryz.func107, Tryz.ntmps107
  go_wp2_with fail
  go_loop [2, 9] (fun a i => ∃ k acc : Nat, k ≤ 9 ∧ k ≤ l.length ∧ i = .int .i64 k ∧ a = .int .u64 acc ∧ acc < 128 ^ k ∧ scan (l.drop k) k acc = num l) (fun _ i => l.length - (intOf i).toNat)
  case atStart => exact ⟨0, 0, by omega, by omega, rfl, rfl, by simp, rfl⟩
  case round =>
    obtain ⟨k, acc, hk, hkl, rfl, rfl, hacc, hs⟩ := hrel
    have HA := Lib.hid hacc
    have HS := Lib.hid hs
    clear hacc hs
    by_cases hlt : k < l.length
    · obtain ⟨c, hc⟩ : ∃ c, l[k]? = some c := ⟨_, List.getElem?_eq_getElem hlt⟩
      have hix : ∀ w, (Instr.index 9 (.string ⟨l.toArray⟩) (.int .i64 (k : Int))).run Tryz.prog w = .ok (.int .u8 (c.toNat : Int)) w := by
        intro w
        have he := (List.getElem?_eq_some_iff.1 hc).2
        rw [run_index_string _ _ _ _ _ Tryz.underlying9]
        have hsz : (⟨l.toArray⟩ : ByteArray).size = l.length := by simp [ByteArray.size]
        rw [dif_pos ⟨by omega, by rw [hsz]; omega⟩]
        have hb : (⟨l.toArray⟩ : ByteArray)[((k : Int)).toNat]'(by rw [hsz]; omega) = c := he
        rw [hb]
      have hcl : (c.toNat : Int) < 256 := by have := c.toNat_lt; omega
      have HD := Lib.hid (scan_drop hc acc)
      clear hc
      by_cases h9 : k = 9
      · have h9' : ((k : Int) == 9) = true := by simp; omega
        have h0' : (0 : Int) < k := by omega
        have H9 := Lib.hid h9
        clear h9
        by_cases h1 : 1 < (c.toNat : Int)
        · have HN := Lib.hid (show num l = (0, 0, 3) by rw [← HS.out, HD.out, if_pos (.inl ⟨H9.out, by omega⟩)])
          go_wp2_with fail
          go_ret3
          exact ⟨by rw [HN.out]; rfl, rfl⟩
        · have HO := Lib.hid (or_step acc k c.toNat (by omega) hk HA.out (fun _ => by omega))
          by_cases hz : c.toNat = 0
          · have HN := Lib.hid (show num l = (0, 0, 3) by rw [← HS.out, HD.out, if_pos (.inr ⟨by omega, hz⟩)])
            have hz' : ((c.toNat : Int) == 0) = true := by simp; omega
            have HZ := Lib.hid hz
            clear hz
            go_wp2_with fail
            go_ret3
            exact ⟨by rw [HN.out]; rfl, rfl⟩
          · have HN := Lib.hid (show num l = (acc + c.toNat % 128 * 128 ^ k, k + 1, 0) by rw [← HS.out, HD.out, if_neg (by omega), if_pos (by omega)])
            have hz' : ((c.toNat : Int) == 0) = false := by simp; omega
            have h128 : (c.toNat : Int) < 128 := by omega
            go_wp2_with fail
            go_ret3
            exact ⟨by rw [HN.out]; exact ret3 HO.out, rfl⟩
      · have HO := Lib.hid (or_step acc k c.toNat (by omega) hk HA.out (fun h => absurd h h9))
        have h9' : ((k : Int) == 9) = false := by simp; omega
        by_cases hz : 0 < k ∧ c.toNat = 0
        · have HN := Lib.hid (show num l = (0, 0, 3) by rw [← HS.out, HD.out, if_pos (.inr hz)])
          have h0 : (0 : Int) < k := by omega
          have hz' : ((c.toNat : Int) == 0) = true := by simp; omega
          have HZ := Lib.hid hz
          clear hz
          go_wp2_with fail
          go_ret3
          exact ⟨by rw [HN.out]; rfl, rfl⟩
        · by_cases h128 : (c.toNat : Int) < 128
          · have HN := Lib.hid (show num l = (acc + c.toNat % 128 * 128 ^ k, k + 1, 0) by rw [← HS.out, HD.out, if_neg (by omega), if_pos (by omega)])
            by_cases h0 : 0 < k
            · have h0' : (0 : Int) < k := by omega
              have hz' : ((c.toNat : Int) == 0) = false := by simp; omega
              go_wp2_with fail
              go_ret3
              exact ⟨by rw [HN.out]; exact ret3 HO.out, rfl⟩
            · have h0' : (k : Int) ≤ 0 := by omega
              go_wp2_with fail
              go_ret3
              exact ⟨by rw [HN.out]; exact ret3 HO.out, rfl⟩
          · have HN := Lib.hid (show scan (l.drop (k + 1)) (k + 1) (acc + c.toNat % 128 * 128 ^ k) = num l by rw [← HS.out, HD.out, if_neg (by omega), if_neg (by omega)])
            have HA' := Lib.hid (acc_next (c := c.toNat) HA.out (by omega))
            by_cases h0 : 0 < k
            · have h0' : (0 : Int) < k := by omega
              have hz' : ((c.toNat : Int) == 0) = false := by simp; omega
              go_wp2_with fail
              exact ⟨⟨k + 1, _, by omega, by omega, by go_num, by rw [HO.out], HA'.out, HN.out⟩, by simp [intOf]; omega⟩
            · have h0' : (k : Int) ≤ 0 := by omega
              go_wp2_with fail
              exact ⟨⟨k + 1, _, by omega, by omega, by go_num, by rw [HO.out], HA'.out, HN.out⟩, by simp [intOf]; omega⟩
    · have HN := Lib.hid (show num l = (0, 0, 4) by rw [← HS.out, List.drop_eq_nil_of_le (by omega)]; rfl)
      go_wp2_with fail
      go_ret3
      exact ⟨by rw [HN.out]; rfl, rfl⟩
end Go.Proofs.YtomfmejodmfioaaGreat
namespace Go.Proofs.YtomfmejodmfioaaGreat
open Go.RowKit Go.ChangeShapes Go.WideShapes Go.Joins
set_option linter.unusedVariables false

theorem scan_facts : ∀ (l : List UInt8) (i acc : Nat), i ≤ 9 → acc < 128 ^ i → (scan l i acc).2.1 ≤ i + l.length ∧ (scan l i acc).1 < 18446744073709551616 ∧
    ((scan l i acc).2.2 = 0 ∧ i < (scan l i acc).2.1 ∨ (scan l i acc).2.2 ≠ 0 ∧ (scan l i acc).2.2 ≤ 4 ∧ (scan l i acc).1 = 0 ∧ (scan l i acc).2.1 = 0)
  | [], i, acc, hi, ha => by simp [scan]
  | c :: r, i, acc, hi, ha => by
    have hp : (128 : Nat) ^ i ≤ 9223372036854775808 := Nat.le_trans (Nat.pow_le_pow_right (by omega) hi) (by decide)
    unfold scan
    split
    · simp
    · rename_i h1
      split
      · rename_i h2
        have hv : acc + c.toNat % 128 * 128 ^ i < 18446744073709551616 := by
          by_cases h : i = 9
          · have h3 : c.toNat % 128 ≤ 1 := by omega
            have := Nat.mul_le_mul h3 hp
            omega
          · have h3 := acc_next (c := c.toNat) ha (by omega)
            have hp8 : (128 : Nat) ^ (i + 1) ≤ 9223372036854775808 := Nat.le_trans (Nat.pow_le_pow_right (by omega) (show i + 1 ≤ 9 by omega)) (by decide)
            omega
        refine ⟨by simp, hv, .inl ⟨rfl, by simp⟩⟩
      · rename_i h2
        have h9 : i ≠ 9 := by
          rintro rfl
          omega
        have := scan_facts r (i + 1) (acc + c.toNat % 128 * 128 ^ i) (by omega) (acc_next ha (by omega))
        refine ⟨by simp only [List.length_cons]; omega, this.2.1, ?_⟩
        rcases this.2.2 with h | h
        · exact .inl ⟨h.1, by omega⟩
        · exact .inr h

theorem num_facts (l : List UInt8) : (num l).2.1 ≤ l.length ∧ F64 (num l).1 ∧ ((num l).2.2 = 0 ∧ 0 < (num l).2.1 ∨ (num l).2.2 ≠ 0 ∧ (num l).2.2 ≤ 4 ∧ (num l).1 = 0 ∧ (num l).2.1 = 0) := by
  have := scan_facts l 0 0 (by omega) (by decide)
  simpa [num, F64] using this

/-- What Uint reads: the number, what is left, the error. -/
def rdU (l : List UInt8) (e : Int) : Nat × List UInt8 × Int := if e = 0 then ((num l).1, l.drop (num l).2.1, ((num l).2.2 : Int)) else (0, l, e)

set_option maxRecDepth 10000 in
set_option maxHeartbeats 1000000 in
theorem ruint_any {w : World} {b : Nat} {l : List UInt8} {e : Int} (h : RdAt w b l e) (hl : l.length ≤ 1000000) :
    Calls Tryz.prog 101 #[.pointer (some ⟨b, 0, none⟩)] w fun en w' => en = .returned (.int .u64 (rdU l e).1) ∧ RdAt w' b (rdU l e).2.1 (rdU l e).2.2 ∧ w.grownBy w' (some b) := by
  obtain ⟨hlong, hfit, _⟩ := num_facts l
  by_cases h0 : e = 0
  · subst h0
    have HE := Lib.hid (show rdU l 0 = ((num l).1, l.drop (num l).2.1, ((num l).2.2 : Int)) by rw [rdU, if_pos rfl])
    have HF := Lib.hid hfit
    have hc := h.cell0
    have HX := Lib.hid h
    clear hfit
    go_enter Tryz.func101, Tryz.ntmps101
    go_wp2_with fail
    refine (err_any (by exact h)).mono ?_
    rintro en w' ⟨rfl, rfl⟩
    clear h
    go_wp2_with fail
    refine (number_any l hl _).mono ?_
    rintro en w' ⟨rfl, rfl⟩
    generalize hn : num l = N at *
    obtain ⟨n, long, er⟩ := N
    simp only at hlong HE HF
    clear hn
    go_wp2_with fail
    refine (fail_any (by exact HX.out)).mono ?_
    rintro en w1 ⟨rfl, hR, hg⟩
    have hc := hR.cell0
    have hf := hR.free 0
    have HR := Lib.hid hR
    have HG := Lib.hid hg
    clear hR hg
    have hx := extract_drop l hlong
    have HXD := Lib.hid hx
    clear hx
    go_wp2_with fail
    go_ret
    rw [HE.out, HXD.out]
    have hR := HR.out
    rw [fst_, if_pos rfl] at hR
    exact ⟨rfl, hR.set0 _, HG.out.trans (grown_setCell _ _ _ _)⟩
  · have HE := Lib.hid (show rdU l e = (0, l, e) by rw [rdU, if_neg h0])
    have h0 : (e == 0) = false := by simpa using h0
    go_enter Tryz.func101, Tryz.ntmps101
    go_wp2_with fail
    refine (err_any (by exact h)).mono ?_
    rintro en w' ⟨rfl, rfl⟩
    go_wp2_with fail
    go_ret
    rw [HE.out]
    exact ⟨rfl, h, World.grownBy.refl _ _⟩

set_option maxHeartbeats 400000 in
theorem ruint_nil (w : World) : Calls Tryz.prog 101 #[.pointer none] w fun en w' => en = .returned (.int .u64 0) ∧ w = w' := by
  go_enter Tryz.func101, Tryz.ntmps101
  go_wp2_with fail
  refine (err_nil _).mono ?_
  rintro en w' ⟨rfl, rfl⟩
  go_wp2_with fail
  go_ret
  exact ⟨rfl, rfl⟩

/-- A number without a sign, as one with. -/
def zag (n : Nat) : Int := if n % 2 = 0 then (n / 2 : Nat) else -((n / 2 : Nat) : Int) - 1

theorem xor_neg_one (x : Nat) (hx : x < 9223372036854775808) : bits .xor .i64 (x : Int) (-1) = -(x : Int) - 1 := by
  show IntKind.i64.wrap ((BitVec.ofInt 64 (x : Int) ^^^ BitVec.ofInt 64 (-1)).toNat : Int) = _
  have e : BitVec.ofInt 64 (-1) = BitVec.allOnes 64 := by decide
  rw [e, BitVec.xor_allOnes, BitVec.toNat_not, ofInt_u64 x (by omega), IntKind.wrap_i64]
  omega
theorem xor_zero_i64 (x : Nat) (hx : x < 9223372036854775808) : bits .xor .i64 (x : Int) 0 = (x : Int) := by
  show IntKind.i64.wrap ((BitVec.ofInt 64 (x : Int) ^^^ BitVec.ofInt 64 0).toNat : Int) = _
  have e : BitVec.ofInt 64 0 = 0#64 := by decide
  rw [e, BitVec.xor_zero, ofInt_u64 x (by omega), IntKind.wrap_i64]
  omega

theorem zag_code (n : Nat) (hn : F64 n) : bits .xor .i64 (wrap64 ((n : Int) / 2)) (wrap64 (-wrap64 (bits .and .u64 (n : Int) 1))) = zag n := by
  unfold F64 at hn
  have e1 : bits .and .u64 (n : Int) 1 = ((n % 2 : Nat) : Int) := by
    have := u64_and_nat n 1 hn (by omega)
    rw [show ((1 : Nat) : Int) = 1 from rfl] at this
    rw [this, Nat.and_one_is_mod]
  have e2 : wrap64 ((n : Int) / 2) = ((n / 2 : Nat) : Int) := by
    rw [IntWalk.wrap64_in _ ⟨by omega, by omega⟩]
    omega
  rw [e1, e2, IntWalk.wrap64_in ((n % 2 : Nat) : Int) ⟨by omega, by omega⟩]
  unfold zag
  split
  · rename_i h
    rw [h, show wrap64 (-((0 : Nat) : Int)) = 0 by rw [IntWalk.wrap64_in _ ⟨by omega, by omega⟩]; rfl]
    exact xor_zero_i64 (n / 2) (by omega)
  · rename_i h
    have h1 : n % 2 = 1 := by omega
    rw [h1, show wrap64 (-((1 : Nat) : Int)) = -1 by rw [IntWalk.wrap64_in _ ⟨by omega, by omega⟩]; rfl]
    exact xor_neg_one (n / 2) (by omega)

/-- What Byte reads. -/
def rdB (l : List UInt8) (e : Int) : Nat × List UInt8 × Int := if e = 0 then (match l with | [] => (0, [], 4) | c :: r => (c.toNat, r, 0)) else (0, l, e)

set_option maxRecDepth 10000 in
set_option maxHeartbeats 1000000 in
theorem rbyte_any {w : World} {b : Nat} {l : List UInt8} {e : Int} (h : RdAt w b l e) (hl : l.length ≤ 1000000) :
    Calls Tryz.prog 88 #[.pointer (some ⟨b, 0, none⟩)] w fun en w' => en = .returned (.int .u8 (rdB l e).1) ∧ RdAt w' b (rdB l e).2.1 (rdB l e).2.2 ∧ w.grownBy w' (some b) := by
  by_cases h0 : e = 0
  · subst h0
    have hc := h.cell0
    cases l with
    | nil =>
      go_enter Tryz.func88, Tryz.ntmps88
      go_wp2_with fail
      refine (err_any (by exact h)).mono ?_
      rintro en w' ⟨rfl, rfl⟩
      go_wp2_with fail
      refine (fail_any (by exact h)).mono ?_
      rintro en w1 ⟨rfl, hR, hg⟩
      go_wp2_with fail
      go_ret
      exact ⟨rfl, hR, hg⟩
    | cons c r =>
      have hf := h.free 0
      have hx := Lib.hid (extract_drop (c :: r) (n := 1) (by simp))
      go_enter Tryz.func88, Tryz.ntmps88
      go_wp2_with fail
      refine (err_any (by exact h)).mono ?_
      rintro en w' ⟨rfl, rfl⟩
      go_wp2_with fail
      go_ret
      simp only [List.length_cons] at hx
      rw [hx.out]
      exact ⟨rfl, h.set0 r, grown_setCell _ _ _ _⟩
  · have HE := Lib.hid (show rdB l e = (0, l, e) by rw [rdB.eq_def, if_neg h0])
    have h0 : (e == 0) = false := by simpa using h0
    go_enter Tryz.func88, Tryz.ntmps88
    go_wp2_with fail
    refine (err_any (by exact h)).mono ?_
    rintro en w' ⟨rfl, rfl⟩
    go_wp2_with fail
    go_ret
    rw [HE.out]
    exact ⟨rfl, h, World.grownBy.refl _ _⟩
/-- What is wrong with a text that says to have n bytes, of which 'have' are there. -/
def strErr (n er have_ : Nat) (most : Int) : Int := if er ≠ 0 then er else if most < 0 ∨ most < n then 15 else if have_ < n then 4 else 0
/-- What Str reads: the text, what is left, the error. -/
def rdS (l : List UInt8) (e most : Int) : List UInt8 × List UInt8 × Int :=
  if e ≠ 0 then ([], l, e)
  else if strErr (num l).1 (num l).2.2 (l.length - (num l).2.1) most ≠ 0 then ([], l, strErr (num l).1 (num l).2.2 (l.length - (num l).2.1) most)
  else ((l.drop (num l).2.1).take (num l).1, l.drop ((num l).2.1 + (num l).1), 0)

set_option maxRecDepth 10000 in
set_option maxHeartbeats 1000000 in
theorem rstr_bad {w : World} {b : Nat} {l : List UInt8} {most : Int} (h : RdAt w b l 0) (hl : l.length ≤ 1000000) (hm : W64 most) (hbad : strErr (num l).1 (num l).2.2 (l.length - (num l).2.1) most ≠ 0) :
    Calls Tryz.prog 99 #[.pointer (some ⟨b, 0, none⟩), .int .i64 most] w fun en w' => en = .returned (.string ⟨([] : List UInt8).toArray⟩) ∧ RdAt w' b l (strErr (num l).1 (num l).2.2 (l.length - (num l).2.1) most) ∧ w.grownBy w' (some b) := by
  obtain ⟨hlong, hfit, hf3⟩ := num_facts l
  have hc := h.cell0
  have HX := Lib.hid h
  have HMB := Lib.hid hm.bd
  have HNA := Lib.hid (number_any l hl)
  clear hm
  generalize num l = N at *
  obtain ⟨n, long, er⟩ := N
  simp only at hlong hfit hf3 hbad HNA ⊢
  have HF := Lib.hid hfit
  clear hfit
  by_cases h1 : er = 0
  · subst h1
    have hpos : 0 < long := by omega
    clear hf3
    by_cases h2 : most < 0
    · have HE := Lib.hid (show strErr n 0 (l.length - long) most = 15 by simp [strErr, h2])
      clear hbad
      by_cases h3 : n = 0
      · subst h3
        go_enter Tryz.func99, Tryz.ntmps99
        (go_wp2_with fail; refine (err_any (by exact h)).mono ?_; rintro en w' ⟨rfl, rfl⟩; clear h; go_wp2_with fail; refine (HNA.out _).mono ?_; rintro en w' ⟨rfl, rfl⟩; go_wp2_with fail; refine (fail_any (by exact HX.out)).mono ?_; rintro en w1 ⟨rfl, hR, hg⟩; go_wp2_with fail; go_ret; rw [HE.out]; exact ⟨rfl, hR, hg⟩)
      · have h3 : (0 : Int) < n := by omega
        go_enter Tryz.func99, Tryz.ntmps99
        (go_wp2_with fail; refine (err_any (by exact h)).mono ?_; rintro en w' ⟨rfl, rfl⟩; clear h; go_wp2_with fail; refine (HNA.out _).mono ?_; rintro en w' ⟨rfl, rfl⟩; go_wp2_with fail; refine (fail_any (by exact HX.out)).mono ?_; rintro en w1 ⟨rfl, hR, hg⟩; go_wp2_with fail; go_ret; rw [HE.out]; exact ⟨rfl, hR, hg⟩)
    · have h2 : 0 ≤ most := by omega
      have hmw : IntKind.u64.wrap most = most := by rw [IntKind.wrap_u64]; have := HMB.out; omega
      by_cases h3 : most < n
      · have HE := Lib.hid (show strErr n 0 (l.length - long) most = 15 by simp [strErr, h3])
        clear hbad
        go_enter Tryz.func99, Tryz.ntmps99
        (go_wp2_with fail; refine (err_any (by exact h)).mono ?_; rintro en w' ⟨rfl, rfl⟩; clear h; go_wp2_with fail; refine (HNA.out _).mono ?_; rintro en w' ⟨rfl, rfl⟩; go_wp2_with fail; refine (fail_any (by exact HX.out)).mono ?_; rintro en w1 ⟨rfl, hR, hg⟩; go_wp2_with fail; go_ret; rw [HE.out]; exact ⟨rfl, hR, hg⟩)
      · have h4 : l.length - long < n := by
          by_cases h4 : l.length - long < n
          · exact h4
          · exact absurd (by simp [strErr, h3, h4]; omega) hbad
        have HE := Lib.hid (show strErr n 0 (l.length - long) most = 4 by simp [strErr, h3, h4]; omega)
        have h3 : (n : Int) ≤ most := by omega
        have h4 : (l.length : Int) - long < n := by omega
        clear hbad
        go_enter Tryz.func99, Tryz.ntmps99
        (go_wp2_with fail; refine (err_any (by exact h)).mono ?_; rintro en w' ⟨rfl, rfl⟩; clear h; go_wp2_with fail; refine (HNA.out _).mono ?_; rintro en w' ⟨rfl, rfl⟩; go_wp2_with fail; refine (fail_any (by exact HX.out)).mono ?_; rintro en w1 ⟨rfl, hR, hg⟩; go_wp2_with fail; go_ret; rw [HE.out]; exact ⟨rfl, hR, hg⟩)
  · have HE := Lib.hid (show strErr n er (l.length - long) most = er by simp [strErr, h1])
    have h1 : ((er : Int) == 0) = false := by simp; omega
    clear hbad
    go_enter Tryz.func99, Tryz.ntmps99
    (go_wp2_with fail; refine (err_any (by exact h)).mono ?_; rintro en w' ⟨rfl, rfl⟩; clear h; go_wp2_with fail; refine (HNA.out _).mono ?_; rintro en w' ⟨rfl, rfl⟩; go_wp2_with fail; refine (fail_any (by exact HX.out)).mono ?_; rintro en w1 ⟨rfl, hR, hg⟩; go_wp2_with fail; go_ret; rw [HE.out]; exact ⟨rfl, hR, hg⟩)

set_option maxRecDepth 10000 in
set_option maxHeartbeats 1000000 in
theorem rstr_good {w : World} {b : Nat} {l : List UInt8} {most : Int} (h : RdAt w b l 0) (hl : l.length ≤ 1000000) (hm : W64 most) (hgood : strErr (num l).1 (num l).2.2 (l.length - (num l).2.1) most = 0) :
    Calls Tryz.prog 99 #[.pointer (some ⟨b, 0, none⟩), .int .i64 most] w fun en w' => en = .returned (.string ⟨((l.drop (num l).2.1).take (num l).1).toArray⟩) ∧ RdAt w' b (l.drop ((num l).2.1 + (num l).1)) 0 ∧ w.grownBy w' (some b) := by
  obtain ⟨hlong, hfit, hf3⟩ := num_facts l
  have hc := h.cell0
  have hf0 := h.free 0
  have HX := Lib.hid h
  have HMB := Lib.hid hm.bd
  have HNA := Lib.hid (number_any l hl)
  clear hm
  generalize num l = N at *
  obtain ⟨n, long, er⟩ := N
  simp only at hlong hfit hf3 hgood HNA ⊢
  have HF := Lib.hid hfit
  clear hfit
  have h1 : er = 0 := by
    by_cases h1 : er = 0
    · exact h1
    · rw [strErr, if_pos h1] at hgood; omega
  subst h1
  have h2 : 0 ≤ most := by
    by_cases h2 : most < 0
    · rw [strErr, if_neg (by omega), if_pos (.inl h2)] at hgood; omega
    · omega
  have h3 : (n : Int) ≤ most := by
    by_cases h3 : most < n
    · rw [strErr, if_neg (by omega), if_pos (.inr h3)] at hgood; omega
    · omega
  have h4 : n ≤ l.length - long := by
    by_cases h4 : l.length - long < n
    · rw [strErr, if_neg (by omega), if_neg (by omega), if_pos h4] at hgood; omega
    · omega
  have h5 : (n : Int) ≤ (l.length : Int) - long := by omega
  have h6 : long + n ≤ l.length := by omega
  have hmw : IntKind.u64.wrap most = most := by rw [IntKind.wrap_u64]; have := HMB.out; omega
  have HE1 := Lib.hid (extract_mid l long n)
  have HE2 := Lib.hid (extract_drop l h6)
  clear hf3 hgood
  go_enter Tryz.func99, Tryz.ntmps99
  go_wp2_with fail
  refine (err_any (by exact h)).mono ?_
  rintro en w' ⟨rfl, rfl⟩
  clear h
  go_wp2_with fail
  refine (HNA.out _).mono ?_
  rintro en w' ⟨rfl, rfl⟩
  go_wp2_with fail
  go_ret
  rw [HE2.out]
  exact ⟨by rw [← HE1.out]; rfl, HX.out.set0 _, grown_setCell _ _ _ _⟩

set_option maxRecDepth 10000 in
set_option maxHeartbeats 1000000 in
theorem rstr_err {w : World} {b : Nat} {l : List UInt8} {e most : Int} (h : RdAt w b l e) (h0 : e ≠ 0) :
    Calls Tryz.prog 99 #[.pointer (some ⟨b, 0, none⟩), .int .i64 most] w fun en w' => en = .returned (.string ⟨([] : List UInt8).toArray⟩) ∧ RdAt w' b l e ∧ w.grownBy w' (some b) := by
  have h0 : (e == 0) = false := by simpa using h0
  go_enter Tryz.func99, Tryz.ntmps99
  go_wp2_with fail
  refine (err_any (by exact h)).mono ?_
  rintro en w' ⟨rfl, rfl⟩
  go_wp2_with fail
  go_ret
  exact ⟨rfl, h, World.grownBy.refl _ _⟩

theorem rstr_any {w : World} {b : Nat} {l : List UInt8} {e most : Int} (h : RdAt w b l e) (hl : l.length ≤ 1000000) (hm : W64 most) :
    Calls Tryz.prog 99 #[.pointer (some ⟨b, 0, none⟩), .int .i64 most] w fun en w' => en = .returned (.string ⟨(rdS l e most).1.toArray⟩) ∧ RdAt w' b (rdS l e most).2.1 (rdS l e most).2.2 ∧ w.grownBy w' (some b) := by
  unfold rdS
  by_cases h0 : e = 0
  · subst h0
    rw [if_neg (by omega)]
    by_cases hb : strErr (num l).1 (num l).2.2 (l.length - (num l).2.1) most = 0
    · rw [if_neg (by omega)]
      exact rstr_good h hl hm hb
    · rw [if_pos hb]
      exact rstr_bad h hl hm hb
  · rw [if_pos h0]
    exact rstr_err h h0

set_option maxRecDepth 10000 in
set_option maxHeartbeats 400000 in
theorem rstr_nil (most : Int) (w : World) : Calls Tryz.prog 99 #[.pointer none, .int .i64 most] w fun en w' => en = .returned (.string ⟨([] : List UInt8).toArray⟩) ∧ w = w' := by
  go_enter Tryz.func99, Tryz.ntmps99
  go_wp2_with fail
  refine (err_nil _).mono ?_
  rintro en w' ⟨rfl, rfl⟩
  go_wp2_with fail
  go_ret
  exact ⟨rfl, rfl⟩
end Go.Proofs.YtomfmejodmfioaaGreat
namespace Go.Proofs.YtomfmejodmfioaaGreat
open Go.RowKit Go.ChangeShapes Go.WideShapes Go.Joins
set_option linter.unusedVariables false

theorem grown_far {w w1 w2 : World} {row : Option Nat} {c : Nat} (h : w.grownBy w1 row) (g : w1.grownBy w2 (some c)) (hc : w.heap.size ≤ c) : w.grownBy w2 row :=
  ⟨g.os.trans h.os, g.tape.trans h.tape, g.output.trans h.output, Nat.le_trans h.size g.size, fun k hk hr => (g.block k (Nat.lt_of_lt_of_le hk h.size) (fun e => by cases e; omega)).trans (h.block k hk hr)⟩
theorem grown_alloc {w w1 : World} {row : Option Nat} (h : w.grownBy w1 row) (o : Obj) : w.grownBy (w1.alloc o) row := h.trans (World.grownBy_alloc w1 o row)
end Go.Proofs.YtomfmejodmfioaaGreat
namespace Go.Proofs.YtomfmejodmfioaaGreat
open Go.RowKit Go.ChangeShapes Go.WideShapes Go.Joins
set_option linter.unusedVariables false

/-- Block B begins with the bytes l, which may be written. -/
def ByAt (w : World) (B : Nat) (l : List UInt8) : Prop := ∃ (T : TypeId) (zs : List UInt8), w.heap[B]? = some (.cells (bcells (l ++ zs)).toArray T ((l ++ zs).length, (l ++ zs).length + 1))

theorem bytes_row (l : List UInt8) (cap : Nat) : bytesRow ⟨l.toArray⟩ cap = (bcells (l ++ List.replicate (cap - l.length) 0)).toArray := by
  simp [bytesRow, bcells, ByteArray.size]

theorem bytes_of (l : List UInt8) (W : World) : ∃ (cap : Nat) (zs : List UInt8), (convert 9 112 (.string ⟨l.toArray⟩)).run Tryz.prog W =
    .ok (.slice (some ⟨W.heap.size, 0, none⟩) l.length cap) (W.drew.alloc (.cells (bcells (l ++ zs)).toArray 5 ((l ++ zs).length, (l ++ zs).length + 1))) := by
  refine ⟨grownCap W l.length 0 5, List.replicate (grownCap W l.length 0 5 - l.length) 0, ?_⟩
  have h := run_bytes_of_string (P := Tryz.prog) W 9 112 5 ⟨l.toArray⟩ Tryz.underlying9 Tryz.underlying112 Tryz.underlying5
  have hs : (⟨l.toArray⟩ : ByteArray).size = l.length := by simp [ByteArray.size]
  rw [hs, bytes_row] at h
  rw [h]
  simp [bcells]

section
variable {w w' : World} {B k : Nat} {l : List UInt8}
theorem ByAt.made (l zs : List UInt8) (T : TypeId) (W : World) : ByAt (W.drew.alloc (.cells (bcells (l ++ zs)).toArray T ((l ++ zs).length, (l ++ zs).length + 1))) W.heap.size l := ⟨T, zs, heap_alloc_new _ _⟩
theorem ByAt.made' (l zs : List UInt8) (T : TypeId) (W : World) : ByAt (W.alloc (.cells (bcells (l ++ zs)).toArray T (l.length + zs.length, l.length + zs.length + 1))).drew W.heap.size l := ⟨T, zs, by rw [List.length_append]; exact heap_alloc_new _ _⟩
theorem ByAt.lt (h : ByAt w B l) : B < w.heap.size := by
  obtain ⟨T, zs, h⟩ := h
  exact (Array.getElem?_eq_some_iff.1 h).1
theorem ByAt.cell (h : ByAt w B l) {c : UInt8} (hk : l[k]? = some c) : w.cell? ⟨B, k, none⟩ = some (.int .u8 (c.toNat : Int)) := by
  obtain ⟨T, zs, h⟩ := h
  have hl := (List.getElem?_eq_some_iff.1 hk).1
  rw [cell_of_row _ _ _ _ _ _ h, List.getElem?_toArray, bcells, List.getElem?_map, List.getElem?_append_left hl, hk]
  rfl
theorem ByAt.free (h : ByAt w B l) (hk : k < l.length) : w.frozen? ⟨B, k, none⟩ = false := by
  obtain ⟨T, zs, h⟩ := h
  simp only [World.frozen?, h, List.length_append]
  rw [decide_eq_false (by omega)]
  rfl
theorem ByAt.below (h : ByAt w B l) (hb : Below w.heap.size w w') : ByAt w' B l := by
  have hl := h.lt
  obtain ⟨T, zs, h⟩ := h
  exact ⟨T, zs, (hb.block B hl).trans h⟩
theorem ByAt.grown {c : Nat} (h : ByAt w B l) (hg : w.grownBy w' (some c)) (hne : B ≠ c) : ByAt w' B l := by
  have hl := h.lt
  obtain ⟨T, zs, h⟩ := h
  exact ⟨T, zs, (hg.block _ hl (by simpa using hne)).trans h⟩
theorem ByAt.set (h : ByAt w B l) (hk : k < l.length) (c : UInt8) : ByAt (w.setCell ⟨B, k, none⟩ (.int .u8 (c.toNat : Int))) B (l.set k c) := by
  obtain ⟨T, zs, h⟩ := h
  refine ⟨T, zs, ?_⟩
  rw [show l.set k c ++ zs = (l ++ zs).set k c by rw [List.set_append_left _ _ hk], List.length_set, ← bcells_set]
  simp [World.setCell, Array.getElem?_modify, h]
theorem ByAt.text (h : ByAt w B l) (cap : Nat) : (convert 112 9 (.slice (some ⟨B, 0, none⟩) l.length cap)).run Tryz.prog w = .ok (.string ⟨l.toArray⟩) w :=
  run_convert_bytes_back (P := Tryz.prog) w 112 9 5 ⟨B, 0, none⟩ cap l Tryz.underlying112 Tryz.underlying5 Tryz.underlying9 (fun j hj => by
    rw [addr_add, Nat.zero_add]
    exact h.cell (List.getElem?_eq_getElem hj))
end

theorem xor_bytes (d c : UInt8) : bits .xor .u8 (d.toNat : Int) (c.toNat : Int) = ((d ^^^ c).toNat : Int) := by
  rw [u8_xor_nat _ _ d.toNat_lt c.toNat_lt, UInt8.toNat_xor]
/-- Bytes of which one is turned, as a text. -/
theorem ByAt.turned {w : World} {B j : Nat} {l : List UInt8} (h : ByAt w B l) (hj : j < l.length) (d c : UInt8) (cap : Nat) :
    (convert 112 9 (.slice (some ⟨B, 0, none⟩) l.length cap)).run Tryz.prog (w.setCell ⟨B, j, none⟩ (.int .u8 (bits .xor .u8 (d.toNat : Int) (c.toNat : Int)))) = .ok (.string ⟨(l.set j (d ^^^ c)).toArray⟩) (w.setCell ⟨B, j, none⟩ (.int .u8 (bits .xor .u8 (d.toNat : Int) (c.toNat : Int)))) := by
  rw [xor_bytes]
  have := (h.set hj (d ^^^ c)).text cap
  rwa [List.length_set] at this
theorem xor_ne {d c : UInt8} (h : c ≠ 0) : d ^^^ c ≠ d := by
  intro e
  have e2 := congrArg (fun x => d ^^^ x) e
  simp only [← UInt8.xor_assoc, UInt8.xor_self, UInt8.zero_xor] at e2
  exact h e2
theorem byte_zero {c : UInt8} : c = 0 ↔ (c.toNat : Int) = 0 := by
  rw [← UInt8.toNat_inj]
  simp

theorem u8_byte {x : Int} (h : (Lit.int .u8 x).wf = true) : ∃ c : UInt8, x = (c.toNat : Int) := by
  have : 0 ≤ x ∧ x ≤ 255 := by simpa [Lit.wf, IntKind.min, IntKind.max, IntKind.signed, IntKind.bits] using h
  exact ⟨UInt8.ofNat x.toNat, by rw [UInt8.toNat_ofNat']; omega⟩
theorem ret_bool {a : Bool} (h : a = true) : Ending.returned (.bool a) = .returned (.bool true) := by rw [h]

/-- A place among n, of whatever number. -/
theorem place_mod (cut : Int) (n : Nat) (h0 : 0 < n) (h1 : n < 9223372036854775808) : ∃ j : Nat, wrap64 ((IntKind.u64.wrap cut).tmod (n : Int)) = j ∧ j < n := by
  have h : 0 ≤ IntKind.u64.wrap cut := by
    simp only [IntKind.wrap_u64]
    omega
  rw [Int.tmod_eq_emod_of_nonneg h]
  have h2 := Int.emod_nonneg (IntKind.u64.wrap cut) (show (n : Int) ≠ 0 by omega)
  have h3 := Int.emod_lt_of_pos (IntKind.u64.wrap cut) (show (0 : Int) < n by omega)
  rw [IntWalk.wrap64_in _ ⟨by omega, by omega⟩]
  exact ⟨((IntKind.u64.wrap cut) % n).toNat, by omega, by omega⟩
end Go.Proofs.YtomfmejodmfioaaGreat
namespace Go.Proofs.YtomfmejodmfioaaGreat
open Go.RowKit Go.ChangeShapes Go.WideShapes Go.Joins
set_option linter.unusedVariables false

section
variable {w w' : World} {b : Nat} {S : List UInt8} {a : Nat} {e : Int}
end

theorem add_step (acc k c : Nat) (hc : c < 256) (hk : k ≤ 9) (hacc : acc < 128 ^ k) (h9 : k = 9 → c ≤ 1) :
    IntKind.u64.wrap ((acc : Int) + IntKind.u64.wrap ((c : Int) % 128 * 2 ^ (7 * k))) = ((acc + c % 128 * 128 ^ k : Nat) : Int) := by
  have e2 : (128 : Nat) ^ k = 2 ^ (7 * k) := by rw [Nat.pow_mul]
  have hp : (128 : Nat) ^ k ≤ 9223372036854775808 := Nat.le_trans (Nat.pow_le_pow_right (by omega) hk) (by decide)
  have hx : acc + c % 128 * 128 ^ k < 18446744073709551616 := by
    by_cases h : k = 9
    · have := h9 h
      have h1 : c % 128 ≤ 1 := by omega
      have := Nat.mul_le_mul h1 hp
      omega
    · have hp8 : (128 : Nat) ^ k ≤ 72057594037927936 := Nat.le_trans (Nat.pow_le_pow_right (by omega) (show k ≤ 8 by omega)) (by decide)
      have := Nat.mul_le_mul (show c % 128 ≤ 127 by omega) hp8
      omega
  rw [IntKind.wrap_u64, IntKind.wrap_u64]
  have e3 : (c : Int) % 128 = ((c % 128 : Nat) : Int) := by omega
  have e4 : ((c % 128 : Nat) : Int) * 2 ^ (7 * k) = ((c % 128 * 128 ^ k : Nat) : Int) := by rw [e2]; push_cast; rfl
  rw [e3, e4]
  omega

end Go.Proofs.YtomfmejodmfioaaGreat
namespace Go.Proofs.YtomfmejodmfioaaGreat
open Go.RowKit Go.ChangeShapes Go.WideShapes Go.Joins
set_option linter.unusedVariables false

theorem zag_ref (n : Nat) (hn : F64 n) : n % 2 = 0 ∧ zag n = wrap64 (IntKind.u64.wrap ((n : Int) / 2)) ∨ n % 2 ≠ 0 ∧ zag n = wrap64 (wrap64 (-wrap64 (IntKind.u64.wrap ((n : Int) / 2))) - 1) := by
  unfold F64 at hn
  unfold zag
  have e2 : wrap64 (IntKind.u64.wrap ((n : Int) / 2)) = ((n / 2 : Nat) : Int) := by
    rw [IntKind.wrap_u64, IntWalk.wrap64_in _ ⟨by omega, by omega⟩]
    omega
  by_cases h : n % 2 = 0
  · exact .inl ⟨h, by rw [if_pos h, e2]⟩
  · refine .inr ⟨h, ?_⟩
    rw [if_neg h, e2, IntWalk.wrap64_in (-_) ⟨by omega, by omega⟩, IntWalk.wrap64_in _ ⟨by omega, by omega⟩]

end Go.Proofs.YtomfmejodmfioaaGreat
namespace Go.Proofs.YtomfmejodmfioaaGreat
open Go.RowKit Go.ChangeShapes Go.WideShapes Go.Joins
set_option linter.unusedVariables false

end Go.Proofs.YtomfmejodmfioaaGreat
namespace Go.Proofs.YtomfmejodmfioaaGreat
set_option linter.unusedVariables false

theorem toNat_ofNat {n : Nat} (h : n < 256) : (UInt8.ofNat n).toNat = n := by
  simp only [UInt8.toNat_ofNat']
  omega

theorem scan_enc : ∀ (k i m acc : Nat) (t : List UInt8), i + k = 9 → (0 < i → 0 < m) → m < 2 * 128 ^ k → scan (encF k m ++ t) i acc = (acc + m * 128 ^ i, i + (encF k m).length, 0)
  | 0, i, m, acc, t, hi, hp, hm => by
    have hm' : m < 2 := by simpa using hm
    have hi' : i = 9 := by omega
    have hp' := hp (by omega)
    simp only [encF, List.singleton_append, scan, toNat_ofNat (show m < 256 by omega)]
    rw [if_neg (by omega), if_pos (by omega), Nat.mod_eq_of_lt (by omega)]
    rfl
  | k + 1, i, m, acc, t, hi, hp, hm => by
    by_cases h : m < 128
    · rw [encF_small h]
      simp only [List.singleton_append, scan, toNat_ofNat (show m < 256 by omega)]
      rw [if_neg (by omega), if_pos (by omega), Nat.mod_eq_of_lt (by omega)]
      rfl
    · rw [encF_big (by omega)]
      simp only [List.cons_append, scan, toNat_ofNat (show m % 128 + 128 < 256 by omega)]
      rw [if_neg (by omega), if_neg (by omega), scan_enc k (i + 1) (m / 128) _ t (by omega) (by omega) (by rw [Nat.pow_succ] at hm; omega)]
      have e1 : (m % 128 + 128) % 128 = m % 128 := by omega
      have e2 : m = m % 128 + 128 * (m / 128) := by omega
      rw [e1]
      congr 1
      · rw [Nat.pow_succ]
        conv => rhs; rw [e2, Nat.add_mul]
        rw [Nat.add_assoc, Nat.mul_comm 128 (m / 128), Nat.mul_assoc, Nat.mul_comm (128 ^ i) 128]
      · simp only [List.length_cons, Prod.mk.injEq, and_true]
        omega

theorem num_enc (n : Nat) (h : F64 n) (t : List UInt8) : num (enc n ++ t) = (n, (enc n).length, 0) := by
  have := scan_enc 9 0 n 0 t rfl (by omega) (by unfold F64 at h; omega)
  simpa [num, enc] using this

theorem enc_inj {a b : Nat} (ha : F64 a) (hb : F64 b) (h : enc a = enc b) : a = b := by
  have h1 := num_enc a ha []
  have h2 := num_enc b hb []
  rw [h, h2] at h1
  exact (congrArg Prod.fst h1).symm

theorem scan_cut : ∀ (k i m acc j : Nat), i + k = 9 → (0 < i → 0 < m) → m < 2 * 128 ^ k → j < (encF k m).length → scan ((encF k m).take j) i acc = (0, 0, 4)
  | 0, i, m, acc, j, hi, hp, hm, hj => by
    have : j = 0 := by simp [encF] at hj; omega
    subst this
    rfl
  | k + 1, i, m, acc, j, hi, hp, hm, hj => by
    by_cases h : m < 128
    · rw [encF_small h] at hj ⊢
      have : j = 0 := by simp at hj; omega
      subst this
      rfl
    · rw [encF_big (by omega)] at hj ⊢
      cases j with
      | zero => rfl
      | succ j =>
        simp only [List.take_succ_cons, scan, toNat_ofNat (show m % 128 + 128 < 256 by omega)]
        rw [if_neg (by omega), if_neg (by omega)]
        exact scan_cut k (i + 1) (m / 128) _ j (by omega) (by omega) (by rw [Nat.pow_succ] at hm; omega) (by simpa using hj)

theorem num_cut (n : Nat) (h : F64 n) {j : Nat} (hj : j < (enc n).length) : num ((enc n).take j) = (0, 0, 4) :=
  scan_cut 9 0 n 0 j rfl (by omega) (by unfold F64 at h; omega) hj

theorem scan_canon : ∀ (l : List UInt8) (i acc n long : Nat), i ≤ 9 → scan l i acc = (n, long, 0) → ∃ m, n = acc + m * 128 ^ i ∧ i < long ∧ l.take (long - i) = encF (9 - i) m ∧ (0 < i → 0 < m) ∧ m < 2 * 128 ^ (9 - i)
  | [], i, acc, n, long, hi, h => by simp [scan] at h
  | c :: r, i, acc, n, long, hi, h => by
    have hc := c.toNat_lt
    have hu : UInt8.ofNat c.toNat = c := by simp
    unfold scan at h
    split at h
    · simp at h
    · rename_i h1
      split at h
      · rename_i h2
        simp only [Prod.mk.injEq] at h
        obtain ⟨rfl, rfl, _⟩ := h
        refine ⟨c.toNat, by rw [Nat.mod_eq_of_lt h2], by omega, ?_, by omega, ?_⟩
        · rw [show i + 1 - i = 1 by omega, encF_small h2, hu]
          rfl
        · by_cases h9 : i = 9
          · subst h9
            simp
            omega
          · obtain ⟨j, hj⟩ : ∃ j, 9 - i = j + 1 := ⟨9 - i - 1, by omega⟩
            rw [hj, Nat.pow_succ]
            have := Nat.pow_pos (n := j) (show 0 < 128 by omega)
            omega
      · rename_i h2
        have h9 : i ≠ 9 := by
          rintro rfl
          omega
        obtain ⟨m, hn, hlt, ht, hm, hb⟩ := scan_canon r (i + 1) _ n long (by omega) h
        have hm := hm (by omega)
        obtain ⟨j, hj⟩ : ∃ j, 9 - i = j + 1 := ⟨9 - i - 1, by omega⟩
        have hj' : 9 - (i + 1) = j := by omega
        refine ⟨c.toNat % 128 + 128 * m, ?_, by omega, ?_, by omega, ?_⟩
        · rw [hn, Nat.pow_succ, Nat.add_mul, Nat.add_assoc, Nat.mul_comm 128 m, Nat.mul_assoc, Nat.mul_comm (128 ^ i) 128]
        · rw [show long - i = long - (i + 1) + 1 by omega, List.take_succ_cons, ht, hj, hj', encF_big (by omega)]
          have e1 : (c.toNat % 128 + 128 * m) % 128 + 128 = c.toNat := by omega
          have e2 : (c.toNat % 128 + 128 * m) / 128 = m := by omega
          rw [e1, e2, hu]
        · rw [hj, Nat.pow_succ]
          rw [hj'] at hb
          omega

theorem num_canon {l : List UInt8} {n long : Nat} (h : num l = (n, long, 0)) : enc n = l.take long := by
  obtain ⟨m, hn, _, ht, _, _⟩ := scan_canon l 0 0 n long (by omega) h
  have : n = m := by rw [hn]; simp
  subst this
  exact ht.symm

theorem zag_zig (i : Int) : zag (zig i) = i := by
  unfold zag zig
  split <;> split <;> omega

/-- What the document's three writes come to, one behind the other. -/
def threeOf (n : Nat) (i : Int) (l : List UInt8) : List UInt8 := enc n ++ (enc (zig i) ++ encS l)

theorem rdU_enc (n : Nat) (h : F64 n) (t : List UInt8) : rdU (enc n ++ t) 0 = (n, t, 0) := by
  rw [rdU, if_pos rfl, num_enc n h]
  simp
theorem rdS_enc (l t : List UInt8) (hl : l.length ≤ 1000000) (most : Int) (hm : l.length ≤ most) : rdS (encS l ++ t) 0 most = (l, t, 0) := by
  have hf : F64 l.length := by unfold F64; omega
  have e : num (encS l ++ t) = (l.length, (enc l.length).length, 0) := by rw [encS, List.append_assoc]; exact num_enc _ hf _
  have hs : strErr l.length 0 ((encS l ++ t).length - (enc l.length).length) most = 0 := by
    rw [strErr, if_neg (by omega), if_neg (by omega), if_neg (by simp [encS])]
  rw [rdS, e, if_neg (by omega)]
  simp only
  rw [hs, if_neg (by omega)]
  have h1 : (encS l ++ t).drop (enc l.length).length = l ++ t := by rw [encS, List.append_assoc, List.drop_left]
  have h2 : (encS l ++ t).drop ((enc l.length).length + l.length) = t := by rw [← List.drop_drop, h1, List.drop_left]
  rw [h1, h2, List.take_left]

/-- A cut number. -/
theorem rdU_cut (n : Nat) (h : F64 n) {j : Nat} (hj : j < (enc n).length) : rdU ((enc n).take j) 0 = (0, (enc n).take j, 4) := by
  rw [rdU, if_pos rfl, num_cut n h hj]
  rfl
theorem rdS_cut (l : List UInt8) (hl : l.length ≤ 1000000) {j : Nat} (hj : j < (encS l).length) : (rdS ((encS l).take j) 0 l.length).2.2 = 4 := by
  have hf : F64 l.length := by unfold F64; omega
  by_cases h : j < (enc l.length).length
  · have e : (encS l).take j = (enc l.length).take j := by rw [encS, List.take_append_of_le_length (by omega)]
    have hs : ∀ k, strErr 0 4 k l.length = 4 := fun k => by rw [strErr, if_pos (by omega)]; rfl
    rw [rdS, if_neg (by omega), e, num_cut _ hf h]
    simp only
    rw [hs, if_pos (by omega)]
  · have e : (encS l).take j = enc l.length ++ l.take (j - (enc l.length).length) := by rw [encS, List.take_append, List.take_of_length_le (by omega)]
    have hlen : (encS l).length = (enc l.length).length + l.length := by simp [encS]
    have hs : strErr l.length 0 ((enc l.length ++ l.take (j - (enc l.length).length)).length - (enc l.length).length) l.length = 4 := by
      rw [strErr, if_neg (by omega), if_neg (by omega), if_pos (by simp; omega)]
    rw [rdS, if_neg (by omega), e, num_enc _ hf]
    simp only
    rw [hs, if_pos (by omega)]
end Go.Proofs.YtomfmejodmfioaaGreat
namespace Go.Proofs.YtomfmejodmfioaaGreat
set_option linter.unusedVariables false

theorem rdU_len (l : List UInt8) (e : Int) : (rdU l e).2.1.length ≤ l.length := by
  rw [rdU]
  split
  · simp
  · exact Nat.le_refl _
theorem rdU_fit (l : List UInt8) (e : Int) : F64 (rdU l e).1 := by
  rw [rdU]
  split
  · exact (num_facts _).2.1
  · show (0 : Nat) < _
    decide
theorem zag_fit {n : Nat} (h : F64 n) : W64 (zag n) := by
  unfold F64 at h
  unfold zag
  split
  · exact W64.mk (by omega) (by omega)
  · exact W64.mk (by omega) (by omega)
theorem rdB_len (l : List UInt8) (e : Int) : (rdB l e).2.1.length ≤ l.length := by
  rw [rdB.eq_def]
  split
  · cases l <;> simp
  · exact Nat.le_refl _
theorem rdB_fit (l : List UInt8) (e : Int) : (rdB l e).1 < 256 := by
  rw [rdB.eq_def]
  split
  · cases l with
    | nil => simp
    | cons c r => exact c.toNat_lt
  · show 0 < 256
    omega
theorem rdS_len (l : List UInt8) (e m : Int) : (rdS l e m).2.1.length ≤ l.length ∧ (rdS l e m).1.length ≤ l.length := by
  rw [rdS]
  split
  · simp
  · split
    · simp
    · simp only [List.length_drop, List.length_take]
      omega
theorem rdU_back {l l' : List UInt8} {e : Int} {n : Nat} (h : rdU l e = (n, l', 0)) : e = 0 ∧ F64 n ∧ l = enc n ++ l' := by
  by_cases h0 : e = 0
  · subst h0
    rw [rdU, if_pos rfl] at h
    simp only [Prod.mk.injEq] at h
    obtain ⟨h1, h2, h3⟩ := h
    have hf := (num_facts l).2.1
    have h3 : (num l).2.2 = 0 := by omega
    have hc := num_canon (l := l) (n := n) (long := (num l).2.1) (by rw [← h1, ← h3])
    refine ⟨rfl, h1 ▸ hf, ?_⟩
    rw [hc, ← h2, List.take_append_drop]
  · rw [rdU, if_neg h0] at h
    simp only [Prod.mk.injEq] at h
    exact absurd h.2.2 h0
theorem rdB_back {l l' : List UInt8} {e : Int} {n : Nat} (h : rdB l e = (n, l', 0)) : e = 0 ∧ l = UInt8.ofNat n :: l' := by
  rw [rdB.eq_def] at h
  by_cases h0 : e = 0
  · subst h0
    cases l with
    | nil => simp at h
    | cons c r =>
      simp only [if_pos, Prod.mk.injEq] at h
      obtain ⟨rfl, rfl, _⟩ := h
      exact ⟨rfl, by simp⟩
  · rw [if_neg h0] at h
    simp only [Prod.mk.injEq] at h
    exact absurd h.2.2 h0
theorem rdS_back {l l' s : List UInt8} {e m : Int} (h : rdS l e m = (s, l', 0)) : e = 0 ∧ l = encS s ++ l' ∧ (s.length : Int) ≤ m := by
  by_cases h0 : e = 0
  · subst h0
    rw [rdS, if_neg (by omega)] at h
    by_cases hb : strErr (num l).1 (num l).2.2 (l.length - (num l).2.1) m = 0
    · rw [if_neg (by omega)] at h
      simp only [Prod.mk.injEq, and_true] at h
      obtain ⟨h1, h2⟩ := h
      have hf := num_facts l
      have h3 : (num l).2.2 = 0 := by
        by_cases hq : (num l).2.2 = 0
        · exact hq
        · rw [strErr, if_pos hq] at hb; omega
      have h4 : 0 ≤ m ∧ ((num l).1 : Int) ≤ m := by
        by_cases hq : m < 0 ∨ m < (num l).1
        · rw [strErr, if_neg (by omega), if_pos hq] at hb; omega
        · omega
      have h5 : (num l).1 ≤ l.length - (num l).2.1 := by
        by_cases hq : l.length - (num l).2.1 < (num l).1
        · rw [strErr, if_neg (by omega), if_neg (by omega), if_pos hq] at hb; omega
        · omega
      have hl : s.length = (num l).1 := by
        rw [← h1, List.length_take, List.length_drop]
        omega
      have hc := num_canon (l := l) (n := s.length) (long := (num l).2.1) (by rw [hl, ← h3])
      refine ⟨rfl, ?_, by omega⟩
      rw [encS, hc, ← h1, ← h2, List.append_assoc, ← List.drop_drop, List.take_append_drop, List.take_append_drop]
    · rw [if_pos (by omega)] at h
      simp only [Prod.mk.injEq] at h
      exact absurd h.2.2 hb
  · rw [rdS, if_pos h0] at h
    simp only [Prod.mk.injEq] at h
    exact absurd h.2.2 h0
end Go.Proofs.YtomfmejodmfioaaGreat
