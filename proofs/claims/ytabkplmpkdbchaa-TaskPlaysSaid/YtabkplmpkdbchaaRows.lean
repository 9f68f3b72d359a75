/-
  No cell of these rows narrows 'for every input' (looked for: loops, veiled, ifaces, maps, wideKeys, modest, calm, conditions, laid).
  DERIVED. THE GIVEN ROWS OF THIS SEAT. 6 by the template 'for every input the law returns true; each argument reads behind the call as it read before'; 0 by the template 'total and deterministic' (their statements: YtabkplmpkdbchaaTotals.lean).
  GIVEN WITH THE SEED: the statements are not yours to turn. If you find one false, say at which input.
  Laid BY PROGRAM, IN A SANDBOX (cutbox-rows.mjs): the forced cells as the released guide's own fill.sh prints them over the translation 440a334c1c6ee22e… (all of the seat's roots in one cut). By AI agents, Wed Nov 11 2026. No macro, syntax, notation, axiom, sorry.
-/
import Derived.Test.YtabkplmpkdbchaaChecked
import GoSem.Claim
import GoSem.ClaimJoined
import GoSem.ClaimMapViews
import Derived.JoinedTies
import Derived.KernelRfl
namespace Go.Proofs.Ytabkplmpkdbchaa
/- THE CELL 'sum', in the pinned program and in every row, IS THE sha256 OF THE DUMP (.gsa) THAT YtabkplmpkdbchaaProg.lean LOADS. Nothing in Lean hashes anything: it is a label: what it is worth is what the hold of that sum in a sandbox is worth. -/
noncomputable def Try.pinned : Pinned := { name := "ytabkplmpkdbchaa", sum := "440a334c1c6ee22e77dbc306d20516c1434c78bc8fe1baafa8198f45bae9e503", checked := Try.checked }
namespace Rows
def none {H : Type} : Left H := { results := [], args := [] }

/-- 'palletlaw09.TaskRefuses': WHATEVER THE INPUT: true; the input reads as it did. -/
def taskRefusesSpec : ChangeSpec := { name := "taskRefuses", fn := fun _ => fun
  | [d1, d2] => { results := [.lit (.bool true)], args := [d1, d2] }
  | _ => none }
def taskRefusesRow : OpenClaim := { program := "ytabkplmpkdbchaa", sum := "440a334c1c6ee22e77dbc306d20516c1434c78bc8fe1baafa8198f45bae9e503", func := "pallet/palletlaw09.TaskRefuses", spec := "taskRefuses", apart := false }
def TaskRefusesSaid : Prop := taskRefusesRow.holds Try.pinned (OpenSpec.ofChange taskRefusesSpec)

/-- ITS FALSE NEIGHBOUR: 'it returns false'. Refute it at one input. -/
def taskRefusesWrong : ChangeSpec := { name := "taskRefuses", fn := fun _ => fun
  | [d1, d2] => { results := [.lit (.bool false)], args := [d1, d2] }
  | _ => none }
def TaskRefusesWrongFalsely : Prop := taskRefusesRow.holds Try.pinned (OpenSpec.ofChange taskRefusesWrong)

/-- 'palletlaw09.TaskAborts': WHATEVER THE INPUT: true; the input reads as it did. -/
def taskAbortsSpec : ChangeSpec := { name := "taskAborts", fn := fun _ => fun
  | [d1, d2, d3] => { results := [.lit (.bool true)], args := [d1, d2, d3] }
  | _ => none }
def taskAbortsRow : OpenClaim := { program := "ytabkplmpkdbchaa", sum := "440a334c1c6ee22e77dbc306d20516c1434c78bc8fe1baafa8198f45bae9e503", func := "pallet/palletlaw09.TaskAborts", spec := "taskAborts", unfollowed := true, recurses := true, apart := false }
def TaskAbortsSaid : Prop := taskAbortsRow.holds Try.pinned (OpenSpec.ofChange taskAbortsSpec)

/-- ITS FALSE NEIGHBOUR: 'it returns false'. Refute it at one input. -/
def taskAbortsWrong : ChangeSpec := { name := "taskAborts", fn := fun _ => fun
  | [d1, d2, d3] => { results := [.lit (.bool false)], args := [d1, d2, d3] }
  | _ => none }
def TaskAbortsWrongFalsely : Prop := taskAbortsRow.holds Try.pinned (OpenSpec.ofChange taskAbortsWrong)

/-- 'palletlaw09.TaskOrders': WHATEVER THE INPUT: true; the input reads as it did. -/
def taskOrdersSpec : ChangeSpec := { name := "taskOrders", fn := fun _ => fun
  | [d1, d2] => { results := [.lit (.bool true)], args := [d1, d2] }
  | _ => none }
def taskOrdersRow : OpenClaim := { program := "ytabkplmpkdbchaa", sum := "440a334c1c6ee22e77dbc306d20516c1434c78bc8fe1baafa8198f45bae9e503", func := "pallet/palletlaw09.TaskOrders", spec := "taskOrders", unfollowed := true, recurses := true, apart := false }
def TaskOrdersSaid : Prop := taskOrdersRow.holds Try.pinned (OpenSpec.ofChange taskOrdersSpec)

/-- ITS FALSE NEIGHBOUR: 'it returns false'. Refute it at one input. -/
def taskOrdersWrong : ChangeSpec := { name := "taskOrders", fn := fun _ => fun
  | [d1, d2] => { results := [.lit (.bool false)], args := [d1, d2] }
  | _ => none }
def TaskOrdersWrongFalsely : Prop := taskOrdersRow.holds Try.pinned (OpenSpec.ofChange taskOrdersWrong)

/-- 'palletlaw09.TaskEnds': WHATEVER THE INPUT: true; the input reads as it did. -/
def taskEndsSpec : ChangeSpec := { name := "taskEnds", fn := fun _ => fun
  | [d] => { results := [.lit (.bool true)], args := [d] }
  | _ => none }
def taskEndsRow : OpenClaim := { program := "ytabkplmpkdbchaa", sum := "440a334c1c6ee22e77dbc306d20516c1434c78bc8fe1baafa8198f45bae9e503", func := "pallet/palletlaw09.TaskEnds", spec := "taskEnds", unfollowed := true, recurses := true, apart := false }
def TaskEndsSaid : Prop := taskEndsRow.holds Try.pinned (OpenSpec.ofChange taskEndsSpec)

/-- ITS FALSE NEIGHBOUR: 'it returns false'. Refute it at one input. -/
def taskEndsWrong : ChangeSpec := { name := "taskEnds", fn := fun _ => fun
  | [d] => { results := [.lit (.bool false)], args := [d] }
  | _ => none }
def TaskEndsWrongFalsely : Prop := taskEndsRow.holds Try.pinned (OpenSpec.ofChange taskEndsWrong)

/-- 'palletlaw09.TaskACA': WHATEVER THE INPUT: true; the input reads as it did. -/
def taskACASpec : ChangeSpec := { name := "taskACA", fn := fun _ => fun
  | [d1, d2] => { results := [.lit (.bool true)], args := [d1, d2] }
  | _ => none }
def taskACARow : OpenClaim := { program := "ytabkplmpkdbchaa", sum := "440a334c1c6ee22e77dbc306d20516c1434c78bc8fe1baafa8198f45bae9e503", func := "pallet/palletlaw09.TaskACA", spec := "taskACA", unfollowed := true, recurses := true, apart := false }
def TaskACASaid : Prop := taskACARow.holds Try.pinned (OpenSpec.ofChange taskACASpec)

/-- ITS FALSE NEIGHBOUR: 'it returns false'. Refute it at one input. -/
def taskACAWrong : ChangeSpec := { name := "taskACA", fn := fun _ => fun
  | [d1, d2] => { results := [.lit (.bool false)], args := [d1, d2] }
  | _ => none }
def TaskACAWrongFalsely : Prop := taskACARow.holds Try.pinned (OpenSpec.ofChange taskACAWrong)

/-- 'palletlaw09.TaskPlays': WHATEVER THE INPUT: true; the input reads as it did. -/
def taskPlaysSpec : ChangeSpec := { name := "taskPlays", fn := fun _ => fun
  | [d] => { results := [.lit (.bool true)], args := [d] }
  | _ => none }
def taskPlaysRow : OpenClaim := { program := "ytabkplmpkdbchaa", sum := "440a334c1c6ee22e77dbc306d20516c1434c78bc8fe1baafa8198f45bae9e503", func := "pallet/palletlaw09.TaskPlays", spec := "taskPlays", unfollowed := true, recurses := true, apart := false }
def TaskPlaysSaid : Prop := taskPlaysRow.holds Try.pinned (OpenSpec.ofChange taskPlaysSpec)

/-- ITS FALSE NEIGHBOUR: 'it returns false'. Refute it at one input. -/
def taskPlaysWrong : ChangeSpec := { name := "taskPlays", fn := fun _ => fun
  | [d] => { results := [.lit (.bool false)], args := [d] }
  | _ => none }
def TaskPlaysWrongFalsely : Prop := taskPlaysRow.holds Try.pinned (OpenSpec.ofChange taskPlaysWrong)

/- THE SECOND FORM. 'bulk': how many values and letters a reading holds, each counted each time it is reached (what is shared counts as often as it is met; a slice's spare places count too). A statement '..UptoSaid' is the law's where the arguments, and the package variables that the reading takes, are together of bulk at most 1048576: NARROWER than '..Said'. Prove '..Said' where nothing that the law and all that it calls make is longer than what came in: it says more and counts as full. Else prove '..UptoSaid'. A law counts once. -/
mutual
def uptoBulk {H : Type} : DataW H → Nat
  | .lit (.string bytes) => bytes.length + 1
  | .lit _ => 1
  | .nil => 1
  | .ptr d => uptoBulk d + 1
  | .slice elems spare => uptoBulkAll elems + uptoBulkAll spare + 1
  | .agg parts => uptoBulkAll parts + 1
  | .iface _ d => uptoBulk d + 1
  | .map entries => uptoBulkEntries entries + 1
  | .held _ => 1
def uptoBulkAll {H : Type} : List (DataW H) → Nat
  | [] => 0
  | d :: r => uptoBulk d + uptoBulkAll r
def uptoBulkEntries {H : Type} : List (Lit × DataW H) → Nat
  | [] => 0
  | x :: r => uptoBulkEntry x + uptoBulkEntries r
def uptoBulkEntry {H : Type} : Lit × DataW H → Nat
  | (.string bytes, d) => bytes.length + uptoBulk d + 1
  | (_, d) => uptoBulk d + 1
 end
def uptoSmall : (H : Type) → List (DataW H) → Bool := fun _ ds => decide (uptoBulkAll ds ≤ 1048576)
def OpenSpec.upto (s : _root_.Go.ChangeSpec) : _root_.Go.OpenSpec := { _root_.Go.OpenSpec.ofChange s with cond := some uptoSmall }

/-- 'palletlaw09.TaskRefuses', WHERE WHAT IT READS IS OF BULK AT MOST 1048576: true; the input reads as it did. -/
def taskRefusesUptoRow : OpenClaim := { program := "ytabkplmpkdbchaa", sum := "440a334c1c6ee22e77dbc306d20516c1434c78bc8fe1baafa8198f45bae9e503", func := "pallet/palletlaw09.TaskRefuses", spec := "taskRefuses", apart := false, narrowed := true }
def TaskRefusesUptoSaid : Prop := taskRefusesUptoRow.holds Try.pinned (OpenSpec.upto taskRefusesSpec)

/-- 'palletlaw09.TaskAborts', WHERE WHAT IT READS IS OF BULK AT MOST 1048576: true; the input reads as it did. -/
def taskAbortsUptoRow : OpenClaim := { program := "ytabkplmpkdbchaa", sum := "440a334c1c6ee22e77dbc306d20516c1434c78bc8fe1baafa8198f45bae9e503", func := "pallet/palletlaw09.TaskAborts", spec := "taskAborts", unfollowed := true, recurses := true, apart := false, narrowed := true }
def TaskAbortsUptoSaid : Prop := taskAbortsUptoRow.holds Try.pinned (OpenSpec.upto taskAbortsSpec)

/-- 'palletlaw09.TaskOrders', WHERE WHAT IT READS IS OF BULK AT MOST 1048576: true; the input reads as it did. -/
def taskOrdersUptoRow : OpenClaim := { program := "ytabkplmpkdbchaa", sum := "440a334c1c6ee22e77dbc306d20516c1434c78bc8fe1baafa8198f45bae9e503", func := "pallet/palletlaw09.TaskOrders", spec := "taskOrders", unfollowed := true, recurses := true, apart := false, narrowed := true }
def TaskOrdersUptoSaid : Prop := taskOrdersUptoRow.holds Try.pinned (OpenSpec.upto taskOrdersSpec)

/-- 'palletlaw09.TaskEnds', WHERE WHAT IT READS IS OF BULK AT MOST 1048576: true; the input reads as it did. -/
def taskEndsUptoRow : OpenClaim := { program := "ytabkplmpkdbchaa", sum := "440a334c1c6ee22e77dbc306d20516c1434c78bc8fe1baafa8198f45bae9e503", func := "pallet/palletlaw09.TaskEnds", spec := "taskEnds", unfollowed := true, recurses := true, apart := false, narrowed := true }
def TaskEndsUptoSaid : Prop := taskEndsUptoRow.holds Try.pinned (OpenSpec.upto taskEndsSpec)

/-- 'palletlaw09.TaskACA', WHERE WHAT IT READS IS OF BULK AT MOST 1048576: true; the input reads as it did. -/
def taskACAUptoRow : OpenClaim := { program := "ytabkplmpkdbchaa", sum := "440a334c1c6ee22e77dbc306d20516c1434c78bc8fe1baafa8198f45bae9e503", func := "pallet/palletlaw09.TaskACA", spec := "taskACA", unfollowed := true, recurses := true, apart := false, narrowed := true }
def TaskACAUptoSaid : Prop := taskACAUptoRow.holds Try.pinned (OpenSpec.upto taskACASpec)

/-- 'palletlaw09.TaskPlays', WHERE WHAT IT READS IS OF BULK AT MOST 1048576: true; the input reads as it did. -/
def taskPlaysUptoRow : OpenClaim := { program := "ytabkplmpkdbchaa", sum := "440a334c1c6ee22e77dbc306d20516c1434c78bc8fe1baafa8198f45bae9e503", func := "pallet/palletlaw09.TaskPlays", spec := "taskPlays", unfollowed := true, recurses := true, apart := false, narrowed := true }
def TaskPlaysUptoSaid : Prop := taskPlaysUptoRow.holds Try.pinned (OpenSpec.upto taskPlaysSpec)

end Rows
end Go.Proofs.Ytabkplmpkdbchaa
