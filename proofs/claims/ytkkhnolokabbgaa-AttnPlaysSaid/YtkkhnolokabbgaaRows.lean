/-
  No cell of these rows narrows 'for every input' (looked for: loops, veiled, ifaces, maps, wideKeys, modest, calm, conditions, laid).
  DERIVED. THE GIVEN ROWS OF THIS SEAT. 4 by the template 'for every input the law returns true; each argument reads behind the call as it read before'; 0 by the template 'total and deterministic' (their statements: YtkkhnolokabbgaaTotals.lean).
  GIVEN WITH THE SEED: the statements are not yours to turn. If you find one false, say at which input.
  Laid BY PROGRAM, IN A SANDBOX (cutbox-rows.mjs): the forced cells as the released guide's own fill.sh prints them over the translation 4ce04de13fc25a6d… (all of the seat's roots in one cut). By AI agents, Wed Nov 11 2026. No macro, syntax, notation, axiom, sorry.
-/
import Derived.Test.YtkkhnolokabbgaaChecked
import GoSem.Claim
import GoSem.ClaimJoined
import GoSem.ClaimMapViews
import Derived.JoinedTies
import Derived.KernelRfl
namespace Go.Proofs.Ytkkhnolokabbgaa
/- THE CELL 'sum', in the pinned program and in every row, IS THE sha256 OF THE DUMP (.gsa) THAT YtkkhnolokabbgaaProg.lean LOADS. Nothing in Lean hashes anything: it is a label: what it is worth is what the hold of that sum in a sandbox is worth. -/
noncomputable def Try.pinned : Pinned := { name := "ytkkhnolokabbgaa", sum := "4ce04de13fc25a6d25fb596a53b2843c8491f574ed1d635af1234d8301f99bfa", checked := Try.checked }
namespace Rows
def none {H : Type} : Left H := { results := [], args := [] }

/-- 'palletlaw07.AttnDrains': WHATEVER THE INPUT: true; the input reads as it did. -/
def attnDrainsSpec : ChangeSpec := { name := "attnDrains", fn := fun _ => fun
  | [d1, d2] => { results := [.lit (.bool true)], args := [d1, d2] }
  | _ => none }
def attnDrainsRow : OpenClaim := { program := "ytkkhnolokabbgaa", sum := "4ce04de13fc25a6d25fb596a53b2843c8491f574ed1d635af1234d8301f99bfa", func := "pallet/palletlaw07.AttnDrains", spec := "attnDrains", apart := false }
def AttnDrainsSaid : Prop := attnDrainsRow.holds Try.pinned (OpenSpec.ofChange attnDrainsSpec)

/-- ITS FALSE NEIGHBOUR: 'it returns false'. Refute it at one input. -/
def attnDrainsWrong : ChangeSpec := { name := "attnDrains", fn := fun _ => fun
  | [d1, d2] => { results := [.lit (.bool false)], args := [d1, d2] }
  | _ => none }
def AttnDrainsWrongFalsely : Prop := attnDrainsRow.holds Try.pinned (OpenSpec.ofChange attnDrainsWrong)

/-- 'palletlaw07.AttnPower': WHATEVER THE INPUT: true; the input reads as it did. -/
def attnPowerSpec : ChangeSpec := { name := "attnPower", fn := fun _ => fun
  | [d1, d2, d3] => { results := [.lit (.bool true)], args := [d1, d2, d3] }
  | _ => none }
def attnPowerRow : OpenClaim := { program := "ytkkhnolokabbgaa", sum := "4ce04de13fc25a6d25fb596a53b2843c8491f574ed1d635af1234d8301f99bfa", func := "pallet/palletlaw07.AttnPower", spec := "attnPower", apart := false }
def AttnPowerSaid : Prop := attnPowerRow.holds Try.pinned (OpenSpec.ofChange attnPowerSpec)

/-- ITS FALSE NEIGHBOUR: 'it returns false'. Refute it at one input. -/
def attnPowerWrong : ChangeSpec := { name := "attnPower", fn := fun _ => fun
  | [d1, d2, d3] => { results := [.lit (.bool false)], args := [d1, d2, d3] }
  | _ => none }
def AttnPowerWrongFalsely : Prop := attnPowerRow.holds Try.pinned (OpenSpec.ofChange attnPowerWrong)

/-- 'palletlaw07.AttnFull': WHATEVER THE INPUT: true; the input reads as it did. -/
def attnFullSpec : ChangeSpec := { name := "attnFull", fn := fun _ => fun
  | [d1, d2] => { results := [.lit (.bool true)], args := [d1, d2] }
  | _ => none }
def attnFullRow : OpenClaim := { program := "ytkkhnolokabbgaa", sum := "4ce04de13fc25a6d25fb596a53b2843c8491f574ed1d635af1234d8301f99bfa", func := "pallet/palletlaw07.AttnFull", spec := "attnFull", apart := false }
def AttnFullSaid : Prop := attnFullRow.holds Try.pinned (OpenSpec.ofChange attnFullSpec)

/-- ITS FALSE NEIGHBOUR: 'it returns false'. Refute it at one input. -/
def attnFullWrong : ChangeSpec := { name := "attnFull", fn := fun _ => fun
  | [d1, d2] => { results := [.lit (.bool false)], args := [d1, d2] }
  | _ => none }
def AttnFullWrongFalsely : Prop := attnFullRow.holds Try.pinned (OpenSpec.ofChange attnFullWrong)

/-- 'palletlaw07.AttnPlays': WHATEVER THE INPUT: true; the input reads as it did. -/
def attnPlaysSpec : ChangeSpec := { name := "attnPlays", fn := fun _ => fun
  | [d] => { results := [.lit (.bool true)], args := [d] }
  | _ => none }
def attnPlaysRow : OpenClaim := { program := "ytkkhnolokabbgaa", sum := "4ce04de13fc25a6d25fb596a53b2843c8491f574ed1d635af1234d8301f99bfa", func := "pallet/palletlaw07.AttnPlays", spec := "attnPlays", apart := false }
def AttnPlaysSaid : Prop := attnPlaysRow.holds Try.pinned (OpenSpec.ofChange attnPlaysSpec)

/-- ITS FALSE NEIGHBOUR: 'it returns false'. Refute it at one input. -/
def attnPlaysWrong : ChangeSpec := { name := "attnPlays", fn := fun _ => fun
  | [d] => { results := [.lit (.bool false)], args := [d] }
  | _ => none }
def AttnPlaysWrongFalsely : Prop := attnPlaysRow.holds Try.pinned (OpenSpec.ofChange attnPlaysWrong)

/- THE SECOND FORM. 'bulk': how many values and letters a reading holds, each counted each time it is reached (what is shared counts as often as it is met; a slice's spare places count too). A statement '..UptoSaid' is the law's where the arguments, and the package variables that the reading takes, are together of bulk at most 1048576: NARROWER than '..Said'. Prove '..Said' where nothing that the law and all that it calls make is longer than what came in: it says more and counts as full. Else prove '..UptoSaid'. A law counts once. -/
mutual
def uptoBulk {H : Type} : DataW H → Nat
  | .lit (.string bytes) => bytes.length + 1
  | .lit _ => 1
  | .nil => 1
  | .ptr d => uptoBulk d + 1
  | .slice elems spare => uptoBulkAll elems + uptoBulkAll spare + 1
  | .agg parts => uptoBulkAll parts + 1
  | .iface _ d => uptoBulk d + 1
  | .map entries => uptoBulkEntries entries + 1
  | .held _ => 1
def uptoBulkAll {H : Type} : List (DataW H) → Nat
  | [] => 0
  | d :: r => uptoBulk d + uptoBulkAll r
def uptoBulkEntries {H : Type} : List (Lit × DataW H) → Nat
  | [] => 0
  | x :: r => uptoBulkEntry x + uptoBulkEntries r
def uptoBulkEntry {H : Type} : Lit × DataW H → Nat
  | (.string bytes, d) => bytes.length + uptoBulk d + 1
  | (_, d) => uptoBulk d + 1
 end
def uptoSmall : (H : Type) → List (DataW H) → Bool := fun _ ds => decide (uptoBulkAll ds ≤ 1048576)
def OpenSpec.upto (s : _root_.Go.ChangeSpec) : _root_.Go.OpenSpec := { _root_.Go.OpenSpec.ofChange s with cond := some uptoSmall }

/-- 'palletlaw07.AttnDrains', WHERE WHAT IT READS IS OF BULK AT MOST 1048576: true; the input reads as it did. -/
def attnDrainsUptoRow : OpenClaim := { program := "ytkkhnolokabbgaa", sum := "4ce04de13fc25a6d25fb596a53b2843c8491f574ed1d635af1234d8301f99bfa", func := "pallet/palletlaw07.AttnDrains", spec := "attnDrains", apart := false, narrowed := true }
def AttnDrainsUptoSaid : Prop := attnDrainsUptoRow.holds Try.pinned (OpenSpec.upto attnDrainsSpec)

/-- 'palletlaw07.AttnPower', WHERE WHAT IT READS IS OF BULK AT MOST 1048576: true; the input reads as it did. -/
def attnPowerUptoRow : OpenClaim := { program := "ytkkhnolokabbgaa", sum := "4ce04de13fc25a6d25fb596a53b2843c8491f574ed1d635af1234d8301f99bfa", func := "pallet/palletlaw07.AttnPower", spec := "attnPower", apart := false, narrowed := true }
def AttnPowerUptoSaid : Prop := attnPowerUptoRow.holds Try.pinned (OpenSpec.upto attnPowerSpec)

/-- 'palletlaw07.AttnFull', WHERE WHAT IT READS IS OF BULK AT MOST 1048576: true; the input reads as it did. -/
def attnFullUptoRow : OpenClaim := { program := "ytkkhnolokabbgaa", sum := "4ce04de13fc25a6d25fb596a53b2843c8491f574ed1d635af1234d8301f99bfa", func := "pallet/palletlaw07.AttnFull", spec := "attnFull", apart := false, narrowed := true }
def AttnFullUptoSaid : Prop := attnFullUptoRow.holds Try.pinned (OpenSpec.upto attnFullSpec)

/-- 'palletlaw07.AttnPlays', WHERE WHAT IT READS IS OF BULK AT MOST 1048576: true; the input reads as it did. -/
def attnPlaysUptoRow : OpenClaim := { program := "ytkkhnolokabbgaa", sum := "4ce04de13fc25a6d25fb596a53b2843c8491f574ed1d635af1234d8301f99bfa", func := "pallet/palletlaw07.AttnPlays", spec := "attnPlays", apart := false, narrowed := true }
def AttnPlaysUptoSaid : Prop := attnPlaysUptoRow.holds Try.pinned (OpenSpec.upto attnPlaysSpec)

end Rows
end Go.Proofs.Ytkkhnolokabbgaa
