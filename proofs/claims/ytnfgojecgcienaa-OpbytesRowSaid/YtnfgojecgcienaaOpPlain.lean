/- Operations as bytes, in plain Lean. -/
import Derived.Test.YtnfgojecgcienaaCodecLaws
import Derived.Test.YtnfgojecgcienaaBlk
namespace Go.Proofs.Ytnfgojecgcienaa
set_option linter.unusedVariables false

/-- An operation: its kind, its eight numbers, its text. -/
structure OpV where
  kind : Int
  v : List Int
  cron : List UInt8
deriving DecidableEq

def opCells (o : OpV) : List Value := .int .i64 o.kind :: (icells o.v ++ [.string ⟨o.cron.toArray⟩])
def opZero : OpV := ⟨0, List.replicate 8 0, []⟩
def OpOk (o : OpV) : Prop := o.v.length = 8 ∧ W64 o.kind ∧ (∀ x ∈ o.v, W64 x) ∧ o.cron.length ≤ maxLen
/-- May an operation be? -/
def mayOp (o : OpV) : Bool := decide (0 ≤ o.kind) && (decide (o.kind ≤ 3) && decide (o.cron.length ≤ 256))
theorem mayOp_iff {o : OpV} : mayOp o = true ↔ 0 ≤ o.kind ∧ o.kind ≤ 3 ∧ o.cron.length ≤ 256 := by simp [mayOp]

/-- Numbers' bytes. -/
def encI (l : List Int) : List UInt8 := l.flatMap fun x => enc (zig x)
/-- An operation's bytes. -/
def encOp (o : OpV) : List UInt8 := UInt8.ofNat (o.kind % 256).toNat :: (encI o.v ++ encS o.cron)

theorem encI_len (l : List Int) : (encI l).length ≤ 10 * l.length := by
  induction l with
  | nil => simp [encI]
  | cons x l ih =>
    have h1 := (enc_len (zig x)).2
    have : encI (x :: l) = enc (zig x) ++ encI l := rfl
    rw [this, List.length_append, List.length_cons]
    omega
theorem encOp_len {o : OpV} (h : o.v.length = 8) : (encOp o).length ≤ 91 + o.cron.length := by
  have h1 := encI_len o.v
  have h2 := (enc_len o.cron.length).2
  simp only [encOp, encS, List.length_cons, List.length_append]
  omega
theorem opCells_len {o : OpV} (h : o.v.length = 8) : (opCells o).length = 10 := by simp [opCells, icells, h]

/-- Some numbers, read one behind the other. -/
def rdI : Nat → List UInt8 → Int → List Int × List UInt8 × Int
  | 0, l, e => ([], l, e)
  | k + 1, l, e => (zag (rdU l e).1 :: (rdI k (rdU l e).2.1 (rdU l e).2.2).1, (rdI k (rdU l e).2.1 (rdU l e).2.2).2)
/-- What is read, whatever it is. -/
def rawOp (l : List UInt8) (e : Int) : OpV × List UInt8 × Int :=
  let a := rdB l e
  let b := rdI 8 a.2.1 a.2.2
  let c := rdS b.2.1 b.2.2 256
  (⟨a.1, b.1, c.1⟩, c.2)
/-- What is taken: the operation, what is left, the error. -/
def takeOp (l : List UInt8) (e : Int) : OpV × List UInt8 × Int :=
  let r := rawOp l e
  let e' := if mayOp r.1 = true then r.2.2 else fst_ r.2.2 3
  (if e' = 0 then r.1 else opZero, r.2.1, e')
/-- What is read of bytes. -/
def readOp (l : List UInt8) : OpV × Bool :=
  let t := takeOp l 0
  if t.2.2 = 0 ∧ t.2.1 = [] then (t.1, true) else (opZero, false)
end Go.Proofs.Ytnfgojecgcienaa
