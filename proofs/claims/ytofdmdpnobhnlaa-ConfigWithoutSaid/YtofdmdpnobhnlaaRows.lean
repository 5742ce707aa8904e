/-
  No cell of these rows narrows 'for every input' (looked for: loops, veiled, ifaces, maps, wideKeys, modest, calm, conditions, laid).
  DERIVED. THE GIVEN ROWS OF THIS SEAT. 7 by the template 'for every input the law returns true; each argument reads behind the call as it read before'; 0 by the template 'total and deterministic' (their statements: YtofdmdpnobhnlaaTotals.lean).
  GIVEN WITH THE SEED: the statements are not yours to turn. If you find one false, say at which input.
  Laid BY PROGRAM, IN A SANDBOX (cutbox-rows.mjs): the forced cells as the released guide's own fill.sh prints them over the translation 0d02417d26ad1de8… (all of the seat's roots in one cut). By AI agents, Wed Nov 11 2026. No macro, syntax, notation, axiom, sorry.
-/
import Derived.Test.YtofdmdpnobhnlaaChecked
import GoSem.Claim
import GoSem.ClaimJoined
import GoSem.ClaimMapViews
import Derived.JoinedTies
import Derived.KernelRfl
namespace Go.Proofs.Ytofdmdpnobhnlaa
/- THE CELL 'sum', in the pinned program and in every row, IS THE sha256 OF THE DUMP (.gsa) THAT YtofdmdpnobhnlaaProg.lean LOADS. Nothing in Lean hashes anything: it is a label: what it is worth is what the hold of that sum in a sandbox is worth. -/
noncomputable def Try.pinned : Pinned := { name := "ytofdmdpnobhnlaa", sum := "0d02417d26ad1de82ba16994c853a3b6500f116ab2a8adf526fa8f025754e792", checked := Try.checked }
namespace Rows
def none {H : Type} : Left H := { results := [], args := [] }

/-- 'tompionlaw11.ConfigTurns': WHATEVER THE INPUT: true; the input reads as it did. -/
def configTurnsSpec : ChangeSpec := { name := "configTurns", fn := fun _ => fun
  | [d1, d2, d3] => { results := [.lit (.bool true)], args := [d1, d2, d3] }
  | _ => none }
def configTurnsRow : OpenClaim := { program := "ytofdmdpnobhnlaa", sum := "0d02417d26ad1de82ba16994c853a3b6500f116ab2a8adf526fa8f025754e792", func := "tompion/tompionlaw11.ConfigTurns", spec := "configTurns", inPlace := ["internal/abi.NoEscape"], unfollowed := true, recurses := true, apart := false }
def ConfigTurnsSaid : Prop := configTurnsRow.holds Try.pinned (OpenSpec.ofChange configTurnsSpec)

/-- ITS FALSE NEIGHBOUR: 'it returns false'. Refute it at one input. -/
def configTurnsWrong : ChangeSpec := { name := "configTurns", fn := fun _ => fun
  | [d1, d2, d3] => { results := [.lit (.bool false)], args := [d1, d2, d3] }
  | _ => none }
def ConfigTurnsWrongFalsely : Prop := configTurnsRow.holds Try.pinned (OpenSpec.ofChange configTurnsWrong)

/-- 'tompionlaw11.ConfigFollows': WHATEVER THE INPUT: true; the input reads as it did. -/
def configFollowsSpec : ChangeSpec := { name := "configFollows", fn := fun _ => fun
  | [d1, d2, d3] => { results := [.lit (.bool true)], args := [d1, d2, d3] }
  | _ => none }
def configFollowsRow : OpenClaim := { program := "ytofdmdpnobhnlaa", sum := "0d02417d26ad1de82ba16994c853a3b6500f116ab2a8adf526fa8f025754e792", func := "tompion/tompionlaw11.ConfigFollows", spec := "configFollows", inPlace := ["internal/abi.NoEscape"], unfollowed := true, recurses := true, apart := false }
def ConfigFollowsSaid : Prop := configFollowsRow.holds Try.pinned (OpenSpec.ofChange configFollowsSpec)

/-- ITS FALSE NEIGHBOUR: 'it returns false'. Refute it at one input. -/
def configFollowsWrong : ChangeSpec := { name := "configFollows", fn := fun _ => fun
  | [d1, d2, d3] => { results := [.lit (.bool false)], args := [d1, d2, d3] }
  | _ => none }
def ConfigFollowsWrongFalsely : Prop := configFollowsRow.holds Try.pinned (OpenSpec.ofChange configFollowsWrong)

/-- 'tompionlaw11.ConfigHead': WHATEVER THE INPUT: true; the input reads as it did. -/
def configHeadSpec : ChangeSpec := { name := "configHead", fn := fun _ => fun
  | [d1, d2] => { results := [.lit (.bool true)], args := [d1, d2] }
  | _ => none }
def configHeadRow : OpenClaim := { program := "ytofdmdpnobhnlaa", sum := "0d02417d26ad1de82ba16994c853a3b6500f116ab2a8adf526fa8f025754e792", func := "tompion/tompionlaw11.ConfigHead", spec := "configHead", inPlace := ["internal/abi.NoEscape"], unfollowed := true, recurses := true, apart := false }
def ConfigHeadSaid : Prop := configHeadRow.holds Try.pinned (OpenSpec.ofChange configHeadSpec)

/-- ITS FALSE NEIGHBOUR: 'it returns false'. Refute it at one input. -/
def configHeadWrong : ChangeSpec := { name := "configHead", fn := fun _ => fun
  | [d1, d2] => { results := [.lit (.bool false)], args := [d1, d2] }
  | _ => none }
def ConfigHeadWrongFalsely : Prop := configHeadRow.holds Try.pinned (OpenSpec.ofChange configHeadWrong)

/-- 'tompionlaw11.ConfigWithout': WHATEVER THE INPUT: true; the input reads as it did. -/
def configWithoutSpec : ChangeSpec := { name := "configWithout", fn := fun _ => fun
  | [d1, d2, d3] => { results := [.lit (.bool true)], args := [d1, d2, d3] }
  | _ => none }
def configWithoutRow : OpenClaim := { program := "ytofdmdpnobhnlaa", sum := "0d02417d26ad1de82ba16994c853a3b6500f116ab2a8adf526fa8f025754e792", func := "tompion/tompionlaw11.ConfigWithout", spec := "configWithout", inPlace := ["internal/abi.NoEscape"], unfollowed := true, recurses := true, apart := false }
def ConfigWithoutSaid : Prop := configWithoutRow.holds Try.pinned (OpenSpec.ofChange configWithoutSpec)

/-- ITS FALSE NEIGHBOUR: 'it returns false'. Refute it at one input. -/
def configWithoutWrong : ChangeSpec := { name := "configWithout", fn := fun _ => fun
  | [d1, d2, d3] => { results := [.lit (.bool false)], args := [d1, d2, d3] }
  | _ => none }
def ConfigWithoutWrongFalsely : Prop := configWithoutRow.holds Try.pinned (OpenSpec.ofChange configWithoutWrong)

/-- 'tompionlaw11.ConfigTells': WHATEVER THE INPUT: true; the input reads as it did. -/
def configTellsSpec : ChangeSpec := { name := "configTells", fn := fun _ => fun
  | [d1, d2, d3] => { results := [.lit (.bool true)], args := [d1, d2, d3] }
  | _ => none }
def configTellsRow : OpenClaim := { program := "ytofdmdpnobhnlaa", sum := "0d02417d26ad1de82ba16994c853a3b6500f116ab2a8adf526fa8f025754e792", func := "tompion/tompionlaw11.ConfigTells", spec := "configTells", inPlace := ["internal/abi.NoEscape"], unfollowed := true, recurses := true, apart := false }
def ConfigTellsSaid : Prop := configTellsRow.holds Try.pinned (OpenSpec.ofChange configTellsSpec)

/-- ITS FALSE NEIGHBOUR: 'it returns false'. Refute it at one input. -/
def configTellsWrong : ChangeSpec := { name := "configTells", fn := fun _ => fun
  | [d1, d2, d3] => { results := [.lit (.bool false)], args := [d1, d2, d3] }
  | _ => none }
def ConfigTellsWrongFalsely : Prop := configTellsRow.holds Try.pinned (OpenSpec.ofChange configTellsWrong)

/-- 'tompionlaw11.ConfigBeside': WHATEVER THE INPUT: true; the input reads as it did. -/
def configBesideSpec : ChangeSpec := { name := "configBeside", fn := fun _ => fun
  | [d] => { results := [.lit (.bool true)], args := [d] }
  | _ => none }
def configBesideRow : OpenClaim := { program := "ytofdmdpnobhnlaa", sum := "0d02417d26ad1de82ba16994c853a3b6500f116ab2a8adf526fa8f025754e792", func := "tompion/tompionlaw11.ConfigBeside", spec := "configBeside", inPlace := ["internal/abi.NoEscape"], unfollowed := true, recurses := true, apart := false }
def ConfigBesideSaid : Prop := configBesideRow.holds Try.pinned (OpenSpec.ofChange configBesideSpec)

/-- ITS FALSE NEIGHBOUR: 'it returns false'. Refute it at one input. -/
def configBesideWrong : ChangeSpec := { name := "configBeside", fn := fun _ => fun
  | [d] => { results := [.lit (.bool false)], args := [d] }
  | _ => none }
def ConfigBesideWrongFalsely : Prop := configBesideRow.holds Try.pinned (OpenSpec.ofChange configBesideWrong)

/-- 'tompionlaw11.ConfigBytes': WHATEVER THE INPUT: true; the input reads as it did. -/
def configBytesSpec : ChangeSpec := { name := "configBytes", fn := fun _ => fun
  | [d1, d2] => { results := [.lit (.bool true)], args := [d1, d2] }
  | _ => none }
def configBytesRow : OpenClaim := { program := "ytofdmdpnobhnlaa", sum := "0d02417d26ad1de82ba16994c853a3b6500f116ab2a8adf526fa8f025754e792", func := "tompion/tompionlaw11.ConfigBytes", spec := "configBytes", inPlace := ["internal/abi.NoEscape", "sync/atomic.LoadInt64", "sync/atomic.CompareAndSwapInt64"], unfollowed := true, recurses := true, apart := false }
def ConfigBytesSaid : Prop := configBytesRow.holds Try.pinned (OpenSpec.ofChange configBytesSpec)

/-- ITS FALSE NEIGHBOUR: 'it returns false'. Refute it at one input. -/
def configBytesWrong : ChangeSpec := { name := "configBytes", fn := fun _ => fun
  | [d1, d2] => { results := [.lit (.bool false)], args := [d1, d2] }
  | _ => none }
def ConfigBytesWrongFalsely : Prop := configBytesRow.holds Try.pinned (OpenSpec.ofChange configBytesWrong)

/- THE SECOND FORM. 'bulk': how many values and letters a reading holds, each counted each time it is reached (what is shared counts as often as it is met; a slice's spare places count too). A statement '..UptoSaid' is the law's where the arguments, and the package variables that the reading takes, are together of bulk at most 1048576: NARROWER than '..Said'. Prove '..Said' where nothing that the law and all that it calls make is longer than what came in: it says more and counts as full. Else prove '..UptoSaid'. A law counts once. -/
mutual
def uptoBulk {H : Type} : DataW H → Nat
  | .lit (.string bytes) => bytes.length + 1
  | .lit _ => 1
  | .nil => 1
  | .ptr d => uptoBulk d + 1
  | .slice elems spare => uptoBulkAll elems + uptoBulkAll spare + 1
  | .agg parts => uptoBulkAll parts + 1
  | .iface _ d => uptoBulk d + 1
  | .map entries => uptoBulkEntries entries + 1
  | .held _ => 1
def uptoBulkAll {H : Type} : List (DataW H) → Nat
  | [] => 0
  | d :: r => uptoBulk d + uptoBulkAll r
def uptoBulkEntries {H : Type} : List (Lit × DataW H) → Nat
  | [] => 0
  | x :: r => uptoBulkEntry x + uptoBulkEntries r
def uptoBulkEntry {H : Type} : Lit × DataW H → Nat
  | (.string bytes, d) => bytes.length + uptoBulk d + 1
  | (_, d) => uptoBulk d + 1
 end
def uptoSmall : (H : Type) → List (DataW H) → Bool := fun _ ds => decide (uptoBulkAll ds ≤ 1048576)
def OpenSpec.upto (s : _root_.Go.ChangeSpec) : _root_.Go.OpenSpec := { _root_.Go.OpenSpec.ofChange s with cond := some uptoSmall }

/-- 'tompionlaw11.ConfigTurns', WHERE WHAT IT READS IS OF BULK AT MOST 1048576: true; the input reads as it did. -/
def configTurnsUptoRow : OpenClaim := { program := "ytofdmdpnobhnlaa", sum := "0d02417d26ad1de82ba16994c853a3b6500f116ab2a8adf526fa8f025754e792", func := "tompion/tompionlaw11.ConfigTurns", spec := "configTurns", inPlace := ["internal/abi.NoEscape"], unfollowed := true, recurses := true, apart := false, narrowed := true }
def ConfigTurnsUptoSaid : Prop := configTurnsUptoRow.holds Try.pinned (OpenSpec.upto configTurnsSpec)

/-- 'tompionlaw11.ConfigFollows', WHERE WHAT IT READS IS OF BULK AT MOST 1048576: true; the input reads as it did. -/
def configFollowsUptoRow : OpenClaim := { program := "ytofdmdpnobhnlaa", sum := "0d02417d26ad1de82ba16994c853a3b6500f116ab2a8adf526fa8f025754e792", func := "tompion/tompionlaw11.ConfigFollows", spec := "configFollows", inPlace := ["internal/abi.NoEscape"], unfollowed := true, recurses := true, apart := false, narrowed := true }
def ConfigFollowsUptoSaid : Prop := configFollowsUptoRow.holds Try.pinned (OpenSpec.upto configFollowsSpec)

/-- 'tompionlaw11.ConfigHead', WHERE WHAT IT READS IS OF BULK AT MOST 1048576: true; the input reads as it did. -/
def configHeadUptoRow : OpenClaim := { program := "ytofdmdpnobhnlaa", sum := "0d02417d26ad1de82ba16994c853a3b6500f116ab2a8adf526fa8f025754e792", func := "tompion/tompionlaw11.ConfigHead", spec := "configHead", inPlace := ["internal/abi.NoEscape"], unfollowed := true, recurses := true, apart := false, narrowed := true }
def ConfigHeadUptoSaid : Prop := configHeadUptoRow.holds Try.pinned (OpenSpec.upto configHeadSpec)

/-- 'tompionlaw11.ConfigWithout', WHERE WHAT IT READS IS OF BULK AT MOST 1048576: true; the input reads as it did. -/
def configWithoutUptoRow : OpenClaim := { program := "ytofdmdpnobhnlaa", sum := "0d02417d26ad1de82ba16994c853a3b6500f116ab2a8adf526fa8f025754e792", func := "tompion/tompionlaw11.ConfigWithout", spec := "configWithout", inPlace := ["internal/abi.NoEscape"], unfollowed := true, recurses := true, apart := false, narrowed := true }
def ConfigWithoutUptoSaid : Prop := configWithoutUptoRow.holds Try.pinned (OpenSpec.upto configWithoutSpec)

/-- 'tompionlaw11.ConfigTells', WHERE WHAT IT READS IS OF BULK AT MOST 1048576: true; the input reads as it did. -/
def configTellsUptoRow : OpenClaim := { program := "ytofdmdpnobhnlaa", sum := "0d02417d26ad1de82ba16994c853a3b6500f116ab2a8adf526fa8f025754e792", func := "tompion/tompionlaw11.ConfigTells", spec := "configTells", inPlace := ["internal/abi.NoEscape"], unfollowed := true, recurses := true, apart := false, narrowed := true }
def ConfigTellsUptoSaid : Prop := configTellsUptoRow.holds Try.pinned (OpenSpec.upto configTellsSpec)

/-- 'tompionlaw11.ConfigBeside', WHERE WHAT IT READS IS OF BULK AT MOST 1048576: true; the input reads as it did. -/
def configBesideUptoRow : OpenClaim := { program := "ytofdmdpnobhnlaa", sum := "0d02417d26ad1de82ba16994c853a3b6500f116ab2a8adf526fa8f025754e792", func := "tompion/tompionlaw11.ConfigBeside", spec := "configBeside", inPlace := ["internal/abi.NoEscape"], unfollowed := true, recurses := true, apart := false, narrowed := true }
def ConfigBesideUptoSaid : Prop := configBesideUptoRow.holds Try.pinned (OpenSpec.upto configBesideSpec)

/-- 'tompionlaw11.ConfigBytes', WHERE WHAT IT READS IS OF BULK AT MOST 1048576: true; the input reads as it did. -/
def configBytesUptoRow : OpenClaim := { program := "ytofdmdpnobhnlaa", sum := "0d02417d26ad1de82ba16994c853a3b6500f116ab2a8adf526fa8f025754e792", func := "tompion/tompionlaw11.ConfigBytes", spec := "configBytes", inPlace := ["internal/abi.NoEscape", "sync/atomic.LoadInt64", "sync/atomic.CompareAndSwapInt64"], unfollowed := true, recurses := true, apart := false, narrowed := true }
def ConfigBytesUptoSaid : Prop := configBytesUptoRow.holds Try.pinned (OpenSpec.upto configBytesSpec)

end Rows
end Go.Proofs.Ytofdmdpnobhnlaa
