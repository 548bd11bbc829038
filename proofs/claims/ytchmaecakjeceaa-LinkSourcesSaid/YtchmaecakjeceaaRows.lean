/-
  No cell of these rows narrows 'for every input' (looked for: loops, veiled, ifaces, maps, wideKeys, modest, calm, conditions, laid).
  DERIVED. THE GIVEN ROWS OF THIS SEAT. 7 by the template 'for every input the law returns true; each argument reads behind the call as it read before'; 0 by the template 'total and deterministic' (their statements: YtchmaecakjeceaaTotals.lean).
  GIVEN WITH THE SEED: the statements are not yours to turn. If you find one false, say at which input.
  Laid BY PROGRAM, IN A SANDBOX (cutbox-rows.mjs): the forced cells as the released guide's own fill.sh prints them over the translation 67ad91097815239a… (all of the seat's roots in one cut). By AI agents, Wed Nov 11 2026. No macro, syntax, notation, axiom, sorry.
-/
import Derived.Test.YtchmaecakjeceaaChecked
import GoSem.Claim
import GoSem.ClaimJoined
import GoSem.ClaimMapViews
import Derived.JoinedTies
import Derived.KernelRfl
namespace Go.Proofs.Ytchmaecakjeceaa
/- THE CELL 'sum', in the pinned program and in every row, IS THE sha256 OF THE DUMP (.gsa) THAT YtchmaecakjeceaaProg.lean LOADS. Nothing in Lean hashes anything: it is a label: what it is worth is what the hold of that sum in a sandbox is worth. -/
noncomputable def Try.pinned : Pinned := { name := "ytchmaecakjeceaa", sum := "67ad91097815239a99d51086983f08d39d593415a7650d19d614f33aca6f5262", checked := Try.checked }
namespace Rows
def none {H : Type} : Left H := { results := [], args := [] }

/-- 'timesynclaw16.LinkChecks': WHATEVER THE INPUT: true; the input reads as it did. -/
def linkChecksSpec : ChangeSpec := { name := "linkChecks", fn := fun _ => fun
  | [d] => { results := [.lit (.bool true)], args := [d] }
  | _ => none }
def linkChecksRow : OpenClaim := { program := "ytchmaecakjeceaa", sum := "67ad91097815239a99d51086983f08d39d593415a7650d19d614f33aca6f5262", func := "timesync/timesynclaw16.LinkChecks", spec := "linkChecks", apart := false }
def LinkChecksSaid : Prop := linkChecksRow.holds Try.pinned (OpenSpec.ofChange linkChecksSpec)

/-- ITS FALSE NEIGHBOUR: 'it returns false'. Refute it at one input. -/
def linkChecksWrong : ChangeSpec := { name := "linkChecks", fn := fun _ => fun
  | [d] => { results := [.lit (.bool false)], args := [d] }
  | _ => none }
def LinkChecksWrongFalsely : Prop := linkChecksRow.holds Try.pinned (OpenSpec.ofChange linkChecksWrong)

/-- 'timesynclaw16.LinkDelays': WHATEVER THE INPUT: true; the input reads as it did. -/
def linkDelaysSpec : ChangeSpec := { name := "linkDelays", fn := fun _ => fun
  | [d1, d2, d3] => { results := [.lit (.bool true)], args := [d1, d2, d3] }
  | _ => none }
def linkDelaysRow : OpenClaim := { program := "ytchmaecakjeceaa", sum := "67ad91097815239a99d51086983f08d39d593415a7650d19d614f33aca6f5262", func := "timesync/timesynclaw16.LinkDelays", spec := "linkDelays", apart := false }
def LinkDelaysSaid : Prop := linkDelaysRow.holds Try.pinned (OpenSpec.ofChange linkDelaysSpec)

/-- ITS FALSE NEIGHBOUR: 'it returns false'. Refute it at one input. -/
def linkDelaysWrong : ChangeSpec := { name := "linkDelays", fn := fun _ => fun
  | [d1, d2, d3] => { results := [.lit (.bool false)], args := [d1, d2, d3] }
  | _ => none }
def LinkDelaysWrongFalsely : Prop := linkDelaysRow.holds Try.pinned (OpenSpec.ofChange linkDelaysWrong)

/-- 'timesynclaw16.LinkBounds': WHATEVER THE INPUT: true; the input reads as it did. -/
def linkBoundsSpec : ChangeSpec := { name := "linkBounds", fn := fun _ => fun
  | [d1, d2, d3] => { results := [.lit (.bool true)], args := [d1, d2, d3] }
  | _ => none }
def linkBoundsRow : OpenClaim := { program := "ytchmaecakjeceaa", sum := "67ad91097815239a99d51086983f08d39d593415a7650d19d614f33aca6f5262", func := "timesync/timesynclaw16.LinkBounds", spec := "linkBounds", apart := false }
def LinkBoundsSaid : Prop := linkBoundsRow.holds Try.pinned (OpenSpec.ofChange linkBoundsSpec)

/-- ITS FALSE NEIGHBOUR: 'it returns false'. Refute it at one input. -/
def linkBoundsWrong : ChangeSpec := { name := "linkBounds", fn := fun _ => fun
  | [d1, d2, d3] => { results := [.lit (.bool false)], args := [d1, d2, d3] }
  | _ => none }
def LinkBoundsWrongFalsely : Prop := linkBoundsRow.holds Try.pinned (OpenSpec.ofChange linkBoundsWrong)

/-- 'timesynclaw16.LinkArrives': WHATEVER THE INPUT: true; the input reads as it did. -/
def linkArrivesSpec : ChangeSpec := { name := "linkArrives", fn := fun _ => fun
  | [d1, d2] => { results := [.lit (.bool true)], args := [d1, d2] }
  | _ => none }
def linkArrivesRow : OpenClaim := { program := "ytchmaecakjeceaa", sum := "67ad91097815239a99d51086983f08d39d593415a7650d19d614f33aca6f5262", func := "timesync/timesynclaw16.LinkArrives", spec := "linkArrives", apart := false }
def LinkArrivesSaid : Prop := linkArrivesRow.holds Try.pinned (OpenSpec.ofChange linkArrivesSpec)

/-- ITS FALSE NEIGHBOUR: 'it returns false'. Refute it at one input. -/
def linkArrivesWrong : ChangeSpec := { name := "linkArrives", fn := fun _ => fun
  | [d1, d2] => { results := [.lit (.bool false)], args := [d1, d2] }
  | _ => none }
def LinkArrivesWrongFalsely : Prop := linkArrivesRow.holds Try.pinned (OpenSpec.ofChange linkArrivesWrong)

/-- 'timesynclaw16.LinkWithin': WHATEVER THE INPUT: true; the input reads as it did. -/
def linkWithinSpec : ChangeSpec := { name := "linkWithin", fn := fun _ => fun
  | [d1, d2] => { results := [.lit (.bool true)], args := [d1, d2] }
  | _ => none }
def linkWithinRow : OpenClaim := { program := "ytchmaecakjeceaa", sum := "67ad91097815239a99d51086983f08d39d593415a7650d19d614f33aca6f5262", func := "timesync/timesynclaw16.LinkWithin", spec := "linkWithin", apart := false }
def LinkWithinSaid : Prop := linkWithinRow.holds Try.pinned (OpenSpec.ofChange linkWithinSpec)

/-- ITS FALSE NEIGHBOUR: 'it returns false'. Refute it at one input. -/
def linkWithinWrong : ChangeSpec := { name := "linkWithin", fn := fun _ => fun
  | [d1, d2] => { results := [.lit (.bool false)], args := [d1, d2] }
  | _ => none }
def LinkWithinWrongFalsely : Prop := linkWithinRow.holds Try.pinned (OpenSpec.ofChange linkWithinWrong)

/-- 'timesynclaw16.LinkLosses': WHATEVER THE INPUT: true; the input reads as it did. -/
def linkLossesSpec : ChangeSpec := { name := "linkLosses", fn := fun _ => fun
  | [d1, d2, d3] => { results := [.lit (.bool true)], args := [d1, d2, d3] }
  | _ => none }
def linkLossesRow : OpenClaim := { program := "ytchmaecakjeceaa", sum := "67ad91097815239a99d51086983f08d39d593415a7650d19d614f33aca6f5262", func := "timesync/timesynclaw16.LinkLosses", spec := "linkLosses", apart := false }
def LinkLossesSaid : Prop := linkLossesRow.holds Try.pinned (OpenSpec.ofChange linkLossesSpec)

/-- ITS FALSE NEIGHBOUR: 'it returns false'. Refute it at one input. -/
def linkLossesWrong : ChangeSpec := { name := "linkLosses", fn := fun _ => fun
  | [d1, d2, d3] => { results := [.lit (.bool false)], args := [d1, d2, d3] }
  | _ => none }
def LinkLossesWrongFalsely : Prop := linkLossesRow.holds Try.pinned (OpenSpec.ofChange linkLossesWrong)

/-- 'timesynclaw16.LinkSources': WHATEVER THE INPUT: true; the input reads as it did. -/
def linkSourcesSpec : ChangeSpec := { name := "linkSources", fn := fun _ => fun
  | [d1, d2] => { results := [.lit (.bool true)], args := [d1, d2] }
  | _ => none }
def linkSourcesRow : OpenClaim := { program := "ytchmaecakjeceaa", sum := "67ad91097815239a99d51086983f08d39d593415a7650d19d614f33aca6f5262", func := "timesync/timesynclaw16.LinkSources", spec := "linkSources", apart := false }
def LinkSourcesSaid : Prop := linkSourcesRow.holds Try.pinned (OpenSpec.ofChange linkSourcesSpec)

/-- ITS FALSE NEIGHBOUR: 'it returns false'. Refute it at one input. -/
def linkSourcesWrong : ChangeSpec := { name := "linkSources", fn := fun _ => fun
  | [d1, d2] => { results := [.lit (.bool false)], args := [d1, d2] }
  | _ => none }
def LinkSourcesWrongFalsely : Prop := linkSourcesRow.holds Try.pinned (OpenSpec.ofChange linkSourcesWrong)

/- THE SECOND FORM. 'bulk': how many values and letters a reading holds, each counted each time it is reached (what is shared counts as often as it is met; a slice's spare places count too). A statement '..UptoSaid' is the law's where the arguments, and the package variables that the reading takes, are together of bulk at most 1048576: NARROWER than '..Said'. Prove '..Said' where nothing that the law and all that it calls make is longer than what came in: it says more and counts as full. Else prove '..UptoSaid'. A law counts once. -/
mutual
def uptoBulk {H : Type} : DataW H → Nat
  | .lit (.string bytes) => bytes.length + 1
  | .lit _ => 1
  | .nil => 1
  | .ptr d => uptoBulk d + 1
  | .slice elems spare => uptoBulkAll elems + uptoBulkAll spare + 1
  | .agg parts => uptoBulkAll parts + 1
  | .iface _ d => uptoBulk d + 1
  | .map entries => uptoBulkEntries entries + 1
  | .held _ => 1
def uptoBulkAll {H : Type} : List (DataW H) → Nat
  | [] => 0
  | d :: r => uptoBulk d + uptoBulkAll r
def uptoBulkEntries {H : Type} : List (Lit × DataW H) → Nat
  | [] => 0
  | x :: r => uptoBulkEntry x + uptoBulkEntries r
def uptoBulkEntry {H : Type} : Lit × DataW H → Nat
  | (.string bytes, d) => bytes.length + uptoBulk d + 1
  | (_, d) => uptoBulk d + 1
 end
def uptoSmall : (H : Type) → List (DataW H) → Bool := fun _ ds => decide (uptoBulkAll ds ≤ 1048576)
def OpenSpec.upto (s : _root_.Go.ChangeSpec) : _root_.Go.OpenSpec := { _root_.Go.OpenSpec.ofChange s with cond := some uptoSmall }

/-- 'timesynclaw16.LinkChecks', WHERE WHAT IT READS IS OF BULK AT MOST 1048576: true; the input reads as it did. -/
def linkChecksUptoRow : OpenClaim := { program := "ytchmaecakjeceaa", sum := "67ad91097815239a99d51086983f08d39d593415a7650d19d614f33aca6f5262", func := "timesync/timesynclaw16.LinkChecks", spec := "linkChecks", apart := false, narrowed := true }
def LinkChecksUptoSaid : Prop := linkChecksUptoRow.holds Try.pinned (OpenSpec.upto linkChecksSpec)

/-- 'timesynclaw16.LinkDelays', WHERE WHAT IT READS IS OF BULK AT MOST 1048576: true; the input reads as it did. -/
def linkDelaysUptoRow : OpenClaim := { program := "ytchmaecakjeceaa", sum := "67ad91097815239a99d51086983f08d39d593415a7650d19d614f33aca6f5262", func := "timesync/timesynclaw16.LinkDelays", spec := "linkDelays", apart := false, narrowed := true }
def LinkDelaysUptoSaid : Prop := linkDelaysUptoRow.holds Try.pinned (OpenSpec.upto linkDelaysSpec)

/-- 'timesynclaw16.LinkBounds', WHERE WHAT IT READS IS OF BULK AT MOST 1048576: true; the input reads as it did. -/
def linkBoundsUptoRow : OpenClaim := { program := "ytchmaecakjeceaa", sum := "67ad91097815239a99d51086983f08d39d593415a7650d19d614f33aca6f5262", func := "timesync/timesynclaw16.LinkBounds", spec := "linkBounds", apart := false, narrowed := true }
def LinkBoundsUptoSaid : Prop := linkBoundsUptoRow.holds Try.pinned (OpenSpec.upto linkBoundsSpec)

/-- 'timesynclaw16.LinkArrives', WHERE WHAT IT READS IS OF BULK AT MOST 1048576: true; the input reads as it did. -/
def linkArrivesUptoRow : OpenClaim := { program := "ytchmaecakjeceaa", sum := "67ad91097815239a99d51086983f08d39d593415a7650d19d614f33aca6f5262", func := "timesync/timesynclaw16.LinkArrives", spec := "linkArrives", apart := false, narrowed := true }
def LinkArrivesUptoSaid : Prop := linkArrivesUptoRow.holds Try.pinned (OpenSpec.upto linkArrivesSpec)

/-- 'timesynclaw16.LinkWithin', WHERE WHAT IT READS IS OF BULK AT MOST 1048576: true; the input reads as it did. -/
def linkWithinUptoRow : OpenClaim := { program := "ytchmaecakjeceaa", sum := "67ad91097815239a99d51086983f08d39d593415a7650d19d614f33aca6f5262", func := "timesync/timesynclaw16.LinkWithin", spec := "linkWithin", apart := false, narrowed := true }
def LinkWithinUptoSaid : Prop := linkWithinUptoRow.holds Try.pinned (OpenSpec.upto linkWithinSpec)

/-- 'timesynclaw16.LinkLosses', WHERE WHAT IT READS IS OF BULK AT MOST 1048576: true; the input reads as it did. -/
def linkLossesUptoRow : OpenClaim := { program := "ytchmaecakjeceaa", sum := "67ad91097815239a99d51086983f08d39d593415a7650d19d614f33aca6f5262", func := "timesync/timesynclaw16.LinkLosses", spec := "linkLosses", apart := false, narrowed := true }
def LinkLossesUptoSaid : Prop := linkLossesUptoRow.holds Try.pinned (OpenSpec.upto linkLossesSpec)

/-- 'timesynclaw16.LinkSources', WHERE WHAT IT READS IS OF BULK AT MOST 1048576: true; the input reads as it did. -/
def linkSourcesUptoRow : OpenClaim := { program := "ytchmaecakjeceaa", sum := "67ad91097815239a99d51086983f08d39d593415a7650d19d614f33aca6f5262", func := "timesync/timesynclaw16.LinkSources", spec := "linkSources", apart := false, narrowed := true }
def LinkSourcesUptoSaid : Prop := linkSourcesUptoRow.holds Try.pinned (OpenSpec.upto linkSourcesSpec)

end Rows
end Go.Proofs.Ytchmaecakjeceaa
