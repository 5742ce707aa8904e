/-
  No cell of these rows narrows 'for every input' (looked for: loops, veiled, ifaces, maps, wideKeys, modest, calm, conditions, laid).
  DERIVED. THE GIVEN ROWS OF THIS SEAT. 4 by the template 'for every input the law returns true; each argument reads behind the call as it read before'; 0 by the template 'total and deterministic' (their statements: YtnfgojecgcienaaTotals.lean).
  GIVEN WITH THE SEED: the statements are not yours to turn. If you find one false, say at which input.
  Laid BY PROGRAM, IN A SANDBOX (cutbox-rows.mjs): the forced cells as the released guide's own fill.sh prints them over the translation 425a0daf8ae6d615… (all of the seat's roots in one cut). By AI agents, Wed Nov 11 2026. No macro, syntax, notation, axiom, sorry.
-/
import Derived.Test.YtnfgojecgcienaaChecked
import GoSem.Claim
import GoSem.ClaimJoined
import GoSem.ClaimMapViews
import Derived.JoinedTies
import Derived.KernelRfl
namespace Go.Proofs.Ytnfgojecgcienaa
/- THE CELL 'sum', in the pinned program and in every row, IS THE sha256 OF THE DUMP (.gsa) THAT YtnfgojecgcienaaProg.lean LOADS. Nothing in Lean hashes anything: it is a label: what it is worth is what the hold of that sum in a sandbox is worth. -/
noncomputable def Try.pinned : Pinned := { name := "ytnfgojecgcienaa", sum := "425a0daf8ae6d615eed5778852c9d98e59429c6970ca0e7ff9aae707cd11ae0a", checked := Try.checked }
namespace Rows
def none {H : Type} : Left H := { results := [], args := [] }

/-- 'tompionlaw10.OpbytesPrints': WHATEVER THE INPUT: true; the input reads as it did. -/
def opbytesPrintsSpec : ChangeSpec := { name := "opbytesPrints", fn := fun _ => fun
  | [d] => { results := [.lit (.bool true)], args := [d] }
  | _ => none }
def opbytesPrintsRow : OpenClaim := { program := "ytnfgojecgcienaa", sum := "425a0daf8ae6d615eed5778852c9d98e59429c6970ca0e7ff9aae707cd11ae0a", func := "tompion/tompionlaw10.OpbytesPrints", spec := "opbytesPrints", inPlace := ["internal/abi.NoEscape", "sync/atomic.LoadInt64", "sync/atomic.CompareAndSwapInt64"], apart := false }
def OpbytesPrintsSaid : Prop := opbytesPrintsRow.holds Try.pinned (OpenSpec.ofChange opbytesPrintsSpec)

/-- ITS FALSE NEIGHBOUR: 'it returns false'. Refute it at one input. -/
def opbytesPrintsWrong : ChangeSpec := { name := "opbytesPrints", fn := fun _ => fun
  | [d] => { results := [.lit (.bool false)], args := [d] }
  | _ => none }
def OpbytesPrintsWrongFalsely : Prop := opbytesPrintsRow.holds Try.pinned (OpenSpec.ofChange opbytesPrintsWrong)

/-- 'tompionlaw10.OpbytesReads': WHATEVER THE INPUT: true; the input reads as it did. -/
def opbytesReadsSpec : ChangeSpec := { name := "opbytesReads", fn := fun _ => fun
  | [d] => { results := [.lit (.bool true)], args := [d] }
  | _ => none }
def opbytesReadsRow : OpenClaim := { program := "ytnfgojecgcienaa", sum := "425a0daf8ae6d615eed5778852c9d98e59429c6970ca0e7ff9aae707cd11ae0a", func := "tompion/tompionlaw10.OpbytesReads", spec := "opbytesReads", inPlace := ["internal/abi.NoEscape", "sync/atomic.LoadInt64", "sync/atomic.CompareAndSwapInt64"], apart := false }
def OpbytesReadsSaid : Prop := opbytesReadsRow.holds Try.pinned (OpenSpec.ofChange opbytesReadsSpec)

/-- ITS FALSE NEIGHBOUR: 'it returns false'. Refute it at one input. -/
def opbytesReadsWrong : ChangeSpec := { name := "opbytesReads", fn := fun _ => fun
  | [d] => { results := [.lit (.bool false)], args := [d] }
  | _ => none }
def OpbytesReadsWrongFalsely : Prop := opbytesReadsRow.holds Try.pinned (OpenSpec.ofChange opbytesReadsWrong)

/-- 'tompionlaw10.OpbytesRow': WHATEVER THE INPUT: true; the input reads as it did. -/
def opbytesRowSpec : ChangeSpec := { name := "opbytesRow", fn := fun _ => fun
  | [d1, d2] => { results := [.lit (.bool true)], args := [d1, d2] }
  | _ => none }
def opbytesRowRow : OpenClaim := { program := "ytnfgojecgcienaa", sum := "425a0daf8ae6d615eed5778852c9d98e59429c6970ca0e7ff9aae707cd11ae0a", func := "tompion/tompionlaw10.OpbytesRow", spec := "opbytesRow", inPlace := ["internal/abi.NoEscape", "sync/atomic.LoadInt64", "sync/atomic.CompareAndSwapInt64"], apart := false }
def OpbytesRowSaid : Prop := opbytesRowRow.holds Try.pinned (OpenSpec.ofChange opbytesRowSpec)

/-- ITS FALSE NEIGHBOUR: 'it returns false'. Refute it at one input. -/
def opbytesRowWrong : ChangeSpec := { name := "opbytesRow", fn := fun _ => fun
  | [d1, d2] => { results := [.lit (.bool false)], args := [d1, d2] }
  | _ => none }
def OpbytesRowWrongFalsely : Prop := opbytesRowRow.holds Try.pinned (OpenSpec.ofChange opbytesRowWrong)

/-- 'tompionlaw10.OpbytesOne': WHATEVER THE INPUT: true; the input reads as it did. -/
def opbytesOneSpec : ChangeSpec := { name := "opbytesOne", fn := fun _ => fun
  | [d1, d2] => { results := [.lit (.bool true)], args := [d1, d2] }
  | _ => none }
def opbytesOneRow : OpenClaim := { program := "ytnfgojecgcienaa", sum := "425a0daf8ae6d615eed5778852c9d98e59429c6970ca0e7ff9aae707cd11ae0a", func := "tompion/tompionlaw10.OpbytesOne", spec := "opbytesOne", inPlace := ["internal/abi.NoEscape", "sync/atomic.LoadInt64", "sync/atomic.CompareAndSwapInt64"], apart := false }
def OpbytesOneSaid : Prop := opbytesOneRow.holds Try.pinned (OpenSpec.ofChange opbytesOneSpec)

/-- ITS FALSE NEIGHBOUR: 'it returns false'. Refute it at one input. -/
def opbytesOneWrong : ChangeSpec := { name := "opbytesOne", fn := fun _ => fun
  | [d1, d2] => { results := [.lit (.bool false)], args := [d1, d2] }
  | _ => none }
def OpbytesOneWrongFalsely : Prop := opbytesOneRow.holds Try.pinned (OpenSpec.ofChange opbytesOneWrong)

/- THE SECOND FORM. 'bulk': how many values and letters a reading holds, each counted each time it is reached (what is shared counts as often as it is met; a slice's spare places count too). A statement '..UptoSaid' is the law's where the arguments, and the package variables that the reading takes, are together of bulk at most 1048576: NARROWER than '..Said'. Prove '..Said' where nothing that the law and all that it calls make is longer than what came in: it says more and counts as full. Else prove '..UptoSaid'. A law counts once. -/
mutual
def uptoBulk {H : Type} : DataW H → Nat
  | .lit (.string bytes) => bytes.length + 1
  | .lit _ => 1
  | .nil => 1
  | .ptr d => uptoBulk d + 1
  | .slice elems spare => uptoBulkAll elems + uptoBulkAll spare + 1
  | .agg parts => uptoBulkAll parts + 1
  | .iface _ d => uptoBulk d + 1
  | .map entries => uptoBulkEntries entries + 1
  | .held _ => 1
def uptoBulkAll {H : Type} : List (DataW H) → Nat
  | [] => 0
  | d :: r => uptoBulk d + uptoBulkAll r
def uptoBulkEntries {H : Type} : List (Lit × DataW H) → Nat
  | [] => 0
  | x :: r => uptoBulkEntry x + uptoBulkEntries r
def uptoBulkEntry {H : Type} : Lit × DataW H → Nat
  | (.string bytes, d) => bytes.length + uptoBulk d + 1
  | (_, d) => uptoBulk d + 1
 end
def uptoSmall : (H : Type) → List (DataW H) → Bool := fun _ ds => decide (uptoBulkAll ds ≤ 1048576)
def OpenSpec.upto (s : _root_.Go.ChangeSpec) : _root_.Go.OpenSpec := { _root_.Go.OpenSpec.ofChange s with cond := some uptoSmall }

/-- 'tompionlaw10.OpbytesPrints', WHERE WHAT IT READS IS OF BULK AT MOST 1048576: true; the input reads as it did. -/
def opbytesPrintsUptoRow : OpenClaim := { program := "ytnfgojecgcienaa", sum := "425a0daf8ae6d615eed5778852c9d98e59429c6970ca0e7ff9aae707cd11ae0a", func := "tompion/tompionlaw10.OpbytesPrints", spec := "opbytesPrints", inPlace := ["internal/abi.NoEscape", "sync/atomic.LoadInt64", "sync/atomic.CompareAndSwapInt64"], apart := false, narrowed := true }
def OpbytesPrintsUptoSaid : Prop := opbytesPrintsUptoRow.holds Try.pinned (OpenSpec.upto opbytesPrintsSpec)

/-- 'tompionlaw10.OpbytesReads', WHERE WHAT IT READS IS OF BULK AT MOST 1048576: true; the input reads as it did. -/
def opbytesReadsUptoRow : OpenClaim := { program := "ytnfgojecgcienaa", sum := "425a0daf8ae6d615eed5778852c9d98e59429c6970ca0e7ff9aae707cd11ae0a", func := "tompion/tompionlaw10.OpbytesReads", spec := "opbytesReads", inPlace := ["internal/abi.NoEscape", "sync/atomic.LoadInt64", "sync/atomic.CompareAndSwapInt64"], apart := false, narrowed := true }
def OpbytesReadsUptoSaid : Prop := opbytesReadsUptoRow.holds Try.pinned (OpenSpec.upto opbytesReadsSpec)

/-- 'tompionlaw10.OpbytesRow', WHERE WHAT IT READS IS OF BULK AT MOST 1048576: true; the input reads as it did. -/
def opbytesRowUptoRow : OpenClaim := { program := "ytnfgojecgcienaa", sum := "425a0daf8ae6d615eed5778852c9d98e59429c6970ca0e7ff9aae707cd11ae0a", func := "tompion/tompionlaw10.OpbytesRow", spec := "opbytesRow", inPlace := ["internal/abi.NoEscape", "sync/atomic.LoadInt64", "sync/atomic.CompareAndSwapInt64"], apart := false, narrowed := true }
def OpbytesRowUptoSaid : Prop := opbytesRowUptoRow.holds Try.pinned (OpenSpec.upto opbytesRowSpec)

/-- 'tompionlaw10.OpbytesOne', WHERE WHAT IT READS IS OF BULK AT MOST 1048576: true; the input reads as it did. -/
def opbytesOneUptoRow : OpenClaim := { program := "ytnfgojecgcienaa", sum := "425a0daf8ae6d615eed5778852c9d98e59429c6970ca0e7ff9aae707cd11ae0a", func := "tompion/tompionlaw10.OpbytesOne", spec := "opbytesOne", inPlace := ["internal/abi.NoEscape", "sync/atomic.LoadInt64", "sync/atomic.CompareAndSwapInt64"], apart := false, narrowed := true }
def OpbytesOneUptoSaid : Prop := opbytesOneUptoRow.holds Try.pinned (OpenSpec.upto opbytesOneSpec)

end Rows
end Go.Proofs.Ytnfgojecgcienaa
