/-
  No cell of these rows narrows 'for every input' (looked for: loops, veiled, ifaces, maps, wideKeys, modest, calm, conditions, laid).
  DERIVED. THE GIVEN ROWS OF THIS SEAT. 5 by the template 'for every input the law returns true; each argument reads behind the call as it read before'; 0 by the template 'total and deterministic' (their statements: YtmnlcmnipkjelaaTotals.lean).
  GIVEN WITH THE SEED: the statements are not yours to turn. If you find one false, say at which input.
  Laid BY PROGRAM, IN A SANDBOX (cutbox-rows.mjs): the forced cells as the released guide's own fill.sh prints them over the translation fd8f4e8b7e0aadbe… (all of the seat's roots in one cut). By AI agents, Wed Nov 11 2026. No macro, syntax, notation, axiom, sorry.
-/
import Derived.Test.YtmnlcmnipkjelaaChecked
import GoSem.Claim
import GoSem.ClaimJoined
import GoSem.ClaimMapViews
import Derived.JoinedTies
import Derived.KernelRfl
namespace Go.Proofs.Ytmnlcmnipkjelaa
/- THE CELL 'sum', in the pinned program and in every row, IS THE sha256 OF THE DUMP (.gsa) THAT YtmnlcmnipkjelaaProg.lean LOADS. Nothing in Lean hashes anything: it is a label: what it is worth is what the hold of that sum in a sandbox is worth. -/
noncomputable def Try.pinned : Pinned := { name := "ytmnlcmnipkjelaa", sum := "fd8f4e8b7e0aadbef447b7cdb16c650301a65f8526b217b770e41bc00d3a80e0", checked := Try.checked }
namespace Rows
def none {H : Type} : Left H := { results := [], args := [] }

/-- 'tompionlaw14.LeaseApart': WHATEVER THE INPUT: true; the input reads as it did. -/
def leaseApartSpec : ChangeSpec := { name := "leaseApart", fn := fun _ => fun
  | [d1, d2, d3, d4, d5] => { results := [.lit (.bool true)], args := [d1, d2, d3, d4, d5] }
  | _ => none }
def leaseApartRow : OpenClaim := { program := "ytmnlcmnipkjelaa", sum := "fd8f4e8b7e0aadbef447b7cdb16c650301a65f8526b217b770e41bc00d3a80e0", func := "tompion/tompionlaw14.LeaseApart", spec := "leaseApart", plainKeys := false, apart := false }
def LeaseApartSaid : Prop := leaseApartRow.holds Try.pinned (OpenSpec.ofChange leaseApartSpec)

/-- ITS FALSE NEIGHBOUR: 'it returns false'. Refute it at one input. -/
def leaseApartWrong : ChangeSpec := { name := "leaseApart", fn := fun _ => fun
  | [d1, d2, d3, d4, d5] => { results := [.lit (.bool false)], args := [d1, d2, d3, d4, d5] }
  | _ => none }
def LeaseApartWrongFalsely : Prop := leaseApartRow.holds Try.pinned (OpenSpec.ofChange leaseApartWrong)

/-- 'tompionlaw14.LeaseValid': WHATEVER THE INPUT: true; the input reads as it did. -/
def leaseValidSpec : ChangeSpec := { name := "leaseValid", fn := fun _ => fun
  | [d1, d2, d3, d4] => { results := [.lit (.bool true)], args := [d1, d2, d3, d4] }
  | _ => none }
def leaseValidRow : OpenClaim := { program := "ytmnlcmnipkjelaa", sum := "fd8f4e8b7e0aadbef447b7cdb16c650301a65f8526b217b770e41bc00d3a80e0", func := "tompion/tompionlaw14.LeaseValid", spec := "leaseValid", plainKeys := false, apart := false }
def LeaseValidSaid : Prop := leaseValidRow.holds Try.pinned (OpenSpec.ofChange leaseValidSpec)

/-- ITS FALSE NEIGHBOUR: 'it returns false'. Refute it at one input. -/
def leaseValidWrong : ChangeSpec := { name := "leaseValid", fn := fun _ => fun
  | [d1, d2, d3, d4] => { results := [.lit (.bool false)], args := [d1, d2, d3, d4] }
  | _ => none }
def LeaseValidWrongFalsely : Prop := leaseValidRow.holds Try.pinned (OpenSpec.ofChange leaseValidWrong)

/-- 'tompionlaw14.LeaseLast': WHATEVER THE INPUT: true; the input reads as it did. -/
def leaseLastSpec : ChangeSpec := { name := "leaseLast", fn := fun _ => fun
  | [d1, d2, d3] => { results := [.lit (.bool true)], args := [d1, d2, d3] }
  | _ => none }
def leaseLastRow : OpenClaim := { program := "ytmnlcmnipkjelaa", sum := "fd8f4e8b7e0aadbef447b7cdb16c650301a65f8526b217b770e41bc00d3a80e0", func := "tompion/tompionlaw14.LeaseLast", spec := "leaseLast", plainKeys := false, apart := false }
def LeaseLastSaid : Prop := leaseLastRow.holds Try.pinned (OpenSpec.ofChange leaseLastSpec)

/-- ITS FALSE NEIGHBOUR: 'it returns false'. Refute it at one input. -/
def leaseLastWrong : ChangeSpec := { name := "leaseLast", fn := fun _ => fun
  | [d1, d2, d3] => { results := [.lit (.bool false)], args := [d1, d2, d3] }
  | _ => none }
def LeaseLastWrongFalsely : Prop := leaseLastRow.holds Try.pinned (OpenSpec.ofChange leaseLastWrong)

/-- 'tompionlaw14.LeasePlays': WHATEVER THE INPUT: true; the input reads as it did. -/
def leasePlaysSpec : ChangeSpec := { name := "leasePlays", fn := fun _ => fun
  | [d] => { results := [.lit (.bool true)], args := [d] }
  | _ => none }
def leasePlaysRow : OpenClaim := { program := "ytmnlcmnipkjelaa", sum := "fd8f4e8b7e0aadbef447b7cdb16c650301a65f8526b217b770e41bc00d3a80e0", func := "tompion/tompionlaw14.LeasePlays", spec := "leasePlays", plainKeys := false, apart := false }
def LeasePlaysSaid : Prop := leasePlaysRow.holds Try.pinned (OpenSpec.ofChange leasePlaysSpec)

/-- ITS FALSE NEIGHBOUR: 'it returns false'. Refute it at one input. -/
def leasePlaysWrong : ChangeSpec := { name := "leasePlays", fn := fun _ => fun
  | [d] => { results := [.lit (.bool false)], args := [d] }
  | _ => none }
def LeasePlaysWrongFalsely : Prop := leasePlaysRow.holds Try.pinned (OpenSpec.ofChange leasePlaysWrong)

/-- 'tompionlaw14.LeaseNil': WHATEVER THE INPUT: true; the input reads as it did. -/
def leaseNilSpec : ChangeSpec := { name := "leaseNil", fn := fun _ => fun
  | [d1, d2] => { results := [.lit (.bool true)], args := [d1, d2] }
  | _ => none }
def leaseNilRow : OpenClaim := { program := "ytmnlcmnipkjelaa", sum := "fd8f4e8b7e0aadbef447b7cdb16c650301a65f8526b217b770e41bc00d3a80e0", func := "tompion/tompionlaw14.LeaseNil", spec := "leaseNil", plainKeys := false, apart := false }
def LeaseNilSaid : Prop := leaseNilRow.holds Try.pinned (OpenSpec.ofChange leaseNilSpec)

/-- ITS FALSE NEIGHBOUR: 'it returns false'. Refute it at one input. -/
def leaseNilWrong : ChangeSpec := { name := "leaseNil", fn := fun _ => fun
  | [d1, d2] => { results := [.lit (.bool false)], args := [d1, d2] }
  | _ => none }
def LeaseNilWrongFalsely : Prop := leaseNilRow.holds Try.pinned (OpenSpec.ofChange leaseNilWrong)

/- THE SECOND FORM. 'bulk': how many values and letters a reading holds, each counted each time it is reached (what is shared counts as often as it is met; a slice's spare places count too). A statement '..UptoSaid' is the law's where the arguments, and the package variables that the reading takes, are together of bulk at most 1048576: NARROWER than '..Said'. Prove '..Said' where nothing that the law and all that it calls make is longer than what came in: it says more and counts as full. Else prove '..UptoSaid'. A law counts once. -/
mutual
def uptoBulk {H : Type} : DataW H → Nat
  | .lit (.string bytes) => bytes.length + 1
  | .lit _ => 1
  | .nil => 1
  | .ptr d => uptoBulk d + 1
  | .slice elems spare => uptoBulkAll elems + uptoBulkAll spare + 1
  | .agg parts => uptoBulkAll parts + 1
  | .iface _ d => uptoBulk d + 1
  | .map entries => uptoBulkEntries entries + 1
  | .held _ => 1
def uptoBulkAll {H : Type} : List (DataW H) → Nat
  | [] => 0
  | d :: r => uptoBulk d + uptoBulkAll r
def uptoBulkEntries {H : Type} : List (Lit × DataW H) → Nat
  | [] => 0
  | x :: r => uptoBulkEntry x + uptoBulkEntries r
def uptoBulkEntry {H : Type} : Lit × DataW H → Nat
  | (.string bytes, d) => bytes.length + uptoBulk d + 1
  | (_, d) => uptoBulk d + 1
 end
def uptoSmall : (H : Type) → List (DataW H) → Bool := fun _ ds => decide (uptoBulkAll ds ≤ 1048576)
def OpenSpec.upto (s : _root_.Go.ChangeSpec) : _root_.Go.OpenSpec := { _root_.Go.OpenSpec.ofChange s with cond := some uptoSmall }

/-- 'tompionlaw14.LeaseApart', WHERE WHAT IT READS IS OF BULK AT MOST 1048576: true; the input reads as it did. -/
def leaseApartUptoRow : OpenClaim := { program := "ytmnlcmnipkjelaa", sum := "fd8f4e8b7e0aadbef447b7cdb16c650301a65f8526b217b770e41bc00d3a80e0", func := "tompion/tompionlaw14.LeaseApart", spec := "leaseApart", plainKeys := false, apart := false, narrowed := true }
def LeaseApartUptoSaid : Prop := leaseApartUptoRow.holds Try.pinned (OpenSpec.upto leaseApartSpec)

/-- 'tompionlaw14.LeaseValid', WHERE WHAT IT READS IS OF BULK AT MOST 1048576: true; the input reads as it did. -/
def leaseValidUptoRow : OpenClaim := { program := "ytmnlcmnipkjelaa", sum := "fd8f4e8b7e0aadbef447b7cdb16c650301a65f8526b217b770e41bc00d3a80e0", func := "tompion/tompionlaw14.LeaseValid", spec := "leaseValid", plainKeys := false, apart := false, narrowed := true }
def LeaseValidUptoSaid : Prop := leaseValidUptoRow.holds Try.pinned (OpenSpec.upto leaseValidSpec)

/-- 'tompionlaw14.LeaseLast', WHERE WHAT IT READS IS OF BULK AT MOST 1048576: true; the input reads as it did. -/
def leaseLastUptoRow : OpenClaim := { program := "ytmnlcmnipkjelaa", sum := "fd8f4e8b7e0aadbef447b7cdb16c650301a65f8526b217b770e41bc00d3a80e0", func := "tompion/tompionlaw14.LeaseLast", spec := "leaseLast", plainKeys := false, apart := false, narrowed := true }
def LeaseLastUptoSaid : Prop := leaseLastUptoRow.holds Try.pinned (OpenSpec.upto leaseLastSpec)

/-- 'tompionlaw14.LeasePlays', WHERE WHAT IT READS IS OF BULK AT MOST 1048576: true; the input reads as it did. -/
def leasePlaysUptoRow : OpenClaim := { program := "ytmnlcmnipkjelaa", sum := "fd8f4e8b7e0aadbef447b7cdb16c650301a65f8526b217b770e41bc00d3a80e0", func := "tompion/tompionlaw14.LeasePlays", spec := "leasePlays", plainKeys := false, apart := false, narrowed := true }
def LeasePlaysUptoSaid : Prop := leasePlaysUptoRow.holds Try.pinned (OpenSpec.upto leasePlaysSpec)

/-- 'tompionlaw14.LeaseNil', WHERE WHAT IT READS IS OF BULK AT MOST 1048576: true; the input reads as it did. -/
def leaseNilUptoRow : OpenClaim := { program := "ytmnlcmnipkjelaa", sum := "fd8f4e8b7e0aadbef447b7cdb16c650301a65f8526b217b770e41bc00d3a80e0", func := "tompion/tompionlaw14.LeaseNil", spec := "leaseNil", plainKeys := false, apart := false, narrowed := true }
def LeaseNilUptoSaid : Prop := leaseNilUptoRow.holds Try.pinned (OpenSpec.upto leaseNilSpec)

end Rows
end Go.Proofs.Ytmnlcmnipkjelaa
