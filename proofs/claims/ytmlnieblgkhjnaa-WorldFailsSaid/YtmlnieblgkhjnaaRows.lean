/-
  No cell of these rows narrows 'for every input' (looked for: loops, veiled, ifaces, maps, wideKeys, modest, calm, conditions, laid).
  DERIVED. THE GIVEN ROWS OF THIS SEAT. 5 by the template 'for every input the law returns true; each argument reads behind the call as it read before'; 0 by the template 'total and deterministic' (their statements: YtmlnieblgkhjnaaTotals.lean).
  GIVEN WITH THE SEED: the statements are not yours to turn. If you find one false, say at which input.
  Laid BY PROGRAM, IN A SANDBOX (cutbox-rows.mjs): the forced cells as the released guide's own fill.sh prints them over the translation a43d02a8154e6129… (all of the seat's roots in one cut). By AI agents, Wed Nov 11 2026. No macro, syntax, notation, axiom, sorry.
-/
import Derived.Test.YtmlnieblgkhjnaaChecked
import GoSem.Claim
import GoSem.ClaimJoined
import GoSem.ClaimMapViews
import Derived.JoinedTies
import Derived.KernelRfl
namespace Go.Proofs.Ytmlnieblgkhjnaa
/- THE CELL 'sum', in the pinned program and in every row, IS THE sha256 OF THE DUMP (.gsa) THAT YtmlnieblgkhjnaaProg.lean LOADS. Nothing in Lean hashes anything: it is a label: what it is worth is what the hold of that sum in a sandbox is worth. -/
noncomputable def Try.pinned : Pinned := { name := "ytmlnieblgkhjnaa", sum := "a43d02a8154e6129bc272006b2cdf49716157ef450367e26e9b72dea2285a448", checked := Try.checked }
namespace Rows
def none {H : Type} : Left H := { results := [], args := [] }

/-- 'palletlaw03.WorldFails': WHATEVER THE INPUT: true; the input reads as it did. -/
def worldFailsSpec : ChangeSpec := { name := "worldFails", fn := fun _ => fun
  | [d1, d2] => { results := [.lit (.bool true)], args := [d1, d2] }
  | _ => none }
def worldFailsRow : OpenClaim := { program := "ytmlnieblgkhjnaa", sum := "a43d02a8154e6129bc272006b2cdf49716157ef450367e26e9b72dea2285a448", func := "pallet/palletlaw03.WorldFails", spec := "worldFails", apart := false }
def WorldFailsSaid : Prop := worldFailsRow.holds Try.pinned (OpenSpec.ofChange worldFailsSpec)

/-- ITS FALSE NEIGHBOUR: 'it returns false'. Refute it at one input. -/
def worldFailsWrong : ChangeSpec := { name := "worldFails", fn := fun _ => fun
  | [d1, d2] => { results := [.lit (.bool false)], args := [d1, d2] }
  | _ => none }
def WorldFailsWrongFalsely : Prop := worldFailsRow.holds Try.pinned (OpenSpec.ofChange worldFailsWrong)

/-- 'palletlaw03.WorldTorn': WHATEVER THE INPUT: true; the input reads as it did. -/
def worldTornSpec : ChangeSpec := { name := "worldTorn", fn := fun _ => fun
  | [d1, d2, d3] => { results := [.lit (.bool true)], args := [d1, d2, d3] }
  | _ => none }
def worldTornRow : OpenClaim := { program := "ytmlnieblgkhjnaa", sum := "a43d02a8154e6129bc272006b2cdf49716157ef450367e26e9b72dea2285a448", func := "pallet/palletlaw03.WorldTorn", spec := "worldTorn", inPlace := ["maps.clone"], apart := false }
def WorldTornSaid : Prop := worldTornRow.holds Try.pinned (OpenSpec.ofChange worldTornSpec)

/-- ITS FALSE NEIGHBOUR: 'it returns false'. Refute it at one input. -/
def worldTornWrong : ChangeSpec := { name := "worldTorn", fn := fun _ => fun
  | [d1, d2, d3] => { results := [.lit (.bool false)], args := [d1, d2, d3] }
  | _ => none }
def WorldTornWrongFalsely : Prop := worldTornRow.holds Try.pinned (OpenSpec.ofChange worldTornWrong)

/-- 'palletlaw03.WorldNames': WHATEVER THE INPUT: true; the input reads as it did. -/
def worldNamesSpec : ChangeSpec := { name := "worldNames", fn := fun _ => fun
  | [d1, d2, d3] => { results := [.lit (.bool true)], args := [d1, d2, d3] }
  | _ => none }
def worldNamesRow : OpenClaim := { program := "ytmlnieblgkhjnaa", sum := "a43d02a8154e6129bc272006b2cdf49716157ef450367e26e9b72dea2285a448", func := "pallet/palletlaw03.WorldNames", spec := "worldNames", apart := false }
def WorldNamesSaid : Prop := worldNamesRow.holds Try.pinned (OpenSpec.ofChange worldNamesSpec)

/-- ITS FALSE NEIGHBOUR: 'it returns false'. Refute it at one input. -/
def worldNamesWrong : ChangeSpec := { name := "worldNames", fn := fun _ => fun
  | [d1, d2, d3] => { results := [.lit (.bool false)], args := [d1, d2, d3] }
  | _ => none }
def WorldNamesWrongFalsely : Prop := worldNamesRow.holds Try.pinned (OpenSpec.ofChange worldNamesWrong)

/-- 'palletlaw03.WorldLoses': WHATEVER THE INPUT: true; the input reads as it did. -/
def worldLosesSpec : ChangeSpec := { name := "worldLoses", fn := fun _ => fun
  | [d1, d2, d3] => { results := [.lit (.bool true)], args := [d1, d2, d3] }
  | _ => none }
def worldLosesRow : OpenClaim := { program := "ytmlnieblgkhjnaa", sum := "a43d02a8154e6129bc272006b2cdf49716157ef450367e26e9b72dea2285a448", func := "pallet/palletlaw03.WorldLoses", spec := "worldLoses", inPlace := ["maps.clone"], apart := false }
def WorldLosesSaid : Prop := worldLosesRow.holds Try.pinned (OpenSpec.ofChange worldLosesSpec)

/-- ITS FALSE NEIGHBOUR: 'it returns false'. Refute it at one input. -/
def worldLosesWrong : ChangeSpec := { name := "worldLoses", fn := fun _ => fun
  | [d1, d2, d3] => { results := [.lit (.bool false)], args := [d1, d2, d3] }
  | _ => none }
def WorldLosesWrongFalsely : Prop := worldLosesRow.holds Try.pinned (OpenSpec.ofChange worldLosesWrong)

/-- 'palletlaw03.WorldKeeps': WHATEVER THE INPUT: true; the input reads as it did. -/
def worldKeepsSpec : ChangeSpec := { name := "worldKeeps", fn := fun _ => fun
  | [d1, d2] => { results := [.lit (.bool true)], args := [d1, d2] }
  | _ => none }
def worldKeepsRow : OpenClaim := { program := "ytmlnieblgkhjnaa", sum := "a43d02a8154e6129bc272006b2cdf49716157ef450367e26e9b72dea2285a448", func := "pallet/palletlaw03.WorldKeeps", spec := "worldKeeps", unfollowed := true, recurses := true, apart := false }
def WorldKeepsSaid : Prop := worldKeepsRow.holds Try.pinned (OpenSpec.ofChange worldKeepsSpec)

/-- ITS FALSE NEIGHBOUR: 'it returns false'. Refute it at one input. -/
def worldKeepsWrong : ChangeSpec := { name := "worldKeeps", fn := fun _ => fun
  | [d1, d2] => { results := [.lit (.bool false)], args := [d1, d2] }
  | _ => none }
def WorldKeepsWrongFalsely : Prop := worldKeepsRow.holds Try.pinned (OpenSpec.ofChange worldKeepsWrong)

/- THE SECOND FORM. 'bulk': how many values and letters a reading holds, each counted each time it is reached (what is shared counts as often as it is met; a slice's spare places count too). A statement '..UptoSaid' is the law's where the arguments, and the package variables that the reading takes, are together of bulk at most 1048576: NARROWER than '..Said'. Prove '..Said' where nothing that the law and all that it calls make is longer than what came in: it says more and counts as full. Else prove '..UptoSaid'. A law counts once. -/
mutual
def uptoBulk {H : Type} : DataW H → Nat
  | .lit (.string bytes) => bytes.length + 1
  | .lit _ => 1
  | .nil => 1
  | .ptr d => uptoBulk d + 1
  | .slice elems spare => uptoBulkAll elems + uptoBulkAll spare + 1
  | .agg parts => uptoBulkAll parts + 1
  | .iface _ d => uptoBulk d + 1
  | .map entries => uptoBulkEntries entries + 1
  | .held _ => 1
def uptoBulkAll {H : Type} : List (DataW H) → Nat
  | [] => 0
  | d :: r => uptoBulk d + uptoBulkAll r
def uptoBulkEntries {H : Type} : List (Lit × DataW H) → Nat
  | [] => 0
  | x :: r => uptoBulkEntry x + uptoBulkEntries r
def uptoBulkEntry {H : Type} : Lit × DataW H → Nat
  | (.string bytes, d) => bytes.length + uptoBulk d + 1
  | (_, d) => uptoBulk d + 1
 end
def uptoSmall : (H : Type) → List (DataW H) → Bool := fun _ ds => decide (uptoBulkAll ds ≤ 1048576)
def OpenSpec.upto (s : _root_.Go.ChangeSpec) : _root_.Go.OpenSpec := { _root_.Go.OpenSpec.ofChange s with cond := some uptoSmall }

/-- 'palletlaw03.WorldFails', WHERE WHAT IT READS IS OF BULK AT MOST 1048576: true; the input reads as it did. -/
def worldFailsUptoRow : OpenClaim := { program := "ytmlnieblgkhjnaa", sum := "a43d02a8154e6129bc272006b2cdf49716157ef450367e26e9b72dea2285a448", func := "pallet/palletlaw03.WorldFails", spec := "worldFails", apart := false, narrowed := true }
def WorldFailsUptoSaid : Prop := worldFailsUptoRow.holds Try.pinned (OpenSpec.upto worldFailsSpec)

/-- 'palletlaw03.WorldTorn', WHERE WHAT IT READS IS OF BULK AT MOST 1048576: true; the input reads as it did. -/
def worldTornUptoRow : OpenClaim := { program := "ytmlnieblgkhjnaa", sum := "a43d02a8154e6129bc272006b2cdf49716157ef450367e26e9b72dea2285a448", func := "pallet/palletlaw03.WorldTorn", spec := "worldTorn", inPlace := ["maps.clone"], apart := false, narrowed := true }
def WorldTornUptoSaid : Prop := worldTornUptoRow.holds Try.pinned (OpenSpec.upto worldTornSpec)

/-- 'palletlaw03.WorldNames', WHERE WHAT IT READS IS OF BULK AT MOST 1048576: true; the input reads as it did. -/
def worldNamesUptoRow : OpenClaim := { program := "ytmlnieblgkhjnaa", sum := "a43d02a8154e6129bc272006b2cdf49716157ef450367e26e9b72dea2285a448", func := "pallet/palletlaw03.WorldNames", spec := "worldNames", apart := false, narrowed := true }
def WorldNamesUptoSaid : Prop := worldNamesUptoRow.holds Try.pinned (OpenSpec.upto worldNamesSpec)

/-- 'palletlaw03.WorldLoses', WHERE WHAT IT READS IS OF BULK AT MOST 1048576: true; the input reads as it did. -/
def worldLosesUptoRow : OpenClaim := { program := "ytmlnieblgkhjnaa", sum := "a43d02a8154e6129bc272006b2cdf49716157ef450367e26e9b72dea2285a448", func := "pallet/palletlaw03.WorldLoses", spec := "worldLoses", inPlace := ["maps.clone"], apart := false, narrowed := true }
def WorldLosesUptoSaid : Prop := worldLosesUptoRow.holds Try.pinned (OpenSpec.upto worldLosesSpec)

/-- 'palletlaw03.WorldKeeps', WHERE WHAT IT READS IS OF BULK AT MOST 1048576: true; the input reads as it did. -/
def worldKeepsUptoRow : OpenClaim := { program := "ytmlnieblgkhjnaa", sum := "a43d02a8154e6129bc272006b2cdf49716157ef450367e26e9b72dea2285a448", func := "pallet/palletlaw03.WorldKeeps", spec := "worldKeeps", unfollowed := true, recurses := true, apart := false, narrowed := true }
def WorldKeepsUptoSaid : Prop := worldKeepsUptoRow.holds Try.pinned (OpenSpec.upto worldKeepsSpec)

end Rows
end Go.Proofs.Ytmlnieblgkhjnaa
