/-
  No cell of these rows narrows 'for every input' (looked for: loops, veiled, ifaces, maps, wideKeys, modest, calm, conditions, laid).
  DERIVED. THE GIVEN ROWS OF THIS SEAT. 4 by the template 'for every input the law returns true; each argument reads behind the call as it read before'; 0 by the template 'total and deterministic' (their statements: YtipkdhcbajcamaaTotals.lean).
  GIVEN WITH THE SEED: the statements are not yours to turn. If you find one false, say at which input.
  Laid BY PROGRAM, IN A SANDBOX (cutbox-rows.mjs): the forced cells as the released guide's own fill.sh prints them over the translation 159997e7db9dc59b… (all of the seat's roots in one cut). By AI agents, Wed Nov 11 2026. No macro, syntax, notation, axiom, sorry.
-/
import Derived.Test.YtipkdhcbajcamaaChecked
import GoSem.Claim
import GoSem.ClaimJoined
import GoSem.ClaimMapViews
import Derived.JoinedTies
import Derived.KernelRfl
namespace Go.Proofs.Ytipkdhcbajcamaa
/- THE CELL 'sum', in the pinned program and in every row, IS THE sha256 OF THE DUMP (.gsa) THAT YtipkdhcbajcamaaProg.lean LOADS. Nothing in Lean hashes anything: it is a label: what it is worth is what the hold of that sum in a sandbox is worth. -/
noncomputable def Try.pinned : Pinned := { name := "ytipkdhcbajcamaa", sum := "159997e7db9dc59b25cc40d2440da3118ce4cf353429ea62af0fdb0ff2d65e6c", checked := Try.checked }
namespace Rows
def none {H : Type} : Left H := { results := [], args := [] }

/-- 'palletlaw19.ChapSums': WHATEVER THE INPUT: true; the input reads as it did. -/
def chapSumsSpec : ChangeSpec := { name := "chapSums", fn := fun _ => fun
  | [d] => { results := [.lit (.bool true)], args := [d] }
  | _ => none }
def chapSumsRow : OpenClaim := { program := "ytipkdhcbajcamaa", sum := "159997e7db9dc59b25cc40d2440da3118ce4cf353429ea62af0fdb0ff2d65e6c", func := "pallet/palletlaw19.ChapSums", spec := "chapSums", apart := false }
def ChapSumsSaid : Prop := chapSumsRow.holds Try.pinned (OpenSpec.ofChange chapSumsSpec)

/-- ITS FALSE NEIGHBOUR: 'it returns false'. Refute it at one input. -/
def chapSumsWrong : ChangeSpec := { name := "chapSums", fn := fun _ => fun
  | [d] => { results := [.lit (.bool false)], args := [d] }
  | _ => none }
def ChapSumsWrongFalsely : Prop := chapSumsRow.holds Try.pinned (OpenSpec.ofChange chapSumsWrong)

/-- 'palletlaw19.ChapMillion': WHATEVER THE INPUT: true; the input reads as it did. -/
def chapMillionSpec : ChangeSpec := { name := "chapMillion", fn := fun _ => fun
  | [] => { results := [.lit (.bool true)], args := [] }
  | _ => none }
def chapMillionRow : OpenClaim := { program := "ytipkdhcbajcamaa", sum := "159997e7db9dc59b25cc40d2440da3118ce4cf353429ea62af0fdb0ff2d65e6c", func := "pallet/palletlaw19.ChapMillion", spec := "chapMillion", apart := false }
def ChapMillionSaid : Prop := chapMillionRow.holds Try.pinned (OpenSpec.ofChange chapMillionSpec)

/-- ITS FALSE NEIGHBOUR: 'it returns false'. Refute it at one input. -/
def chapMillionWrong : ChangeSpec := { name := "chapMillion", fn := fun _ => fun
  | [] => { results := [.lit (.bool false)], args := [] }
  | _ => none }
def ChapMillionWrongFalsely : Prop := chapMillionRow.holds Try.pinned (OpenSpec.ofChange chapMillionWrong)

/-- 'palletlaw19.ChapTexts': WHATEVER THE INPUT: true; the input reads as it did. -/
def chapTextsSpec : ChangeSpec := { name := "chapTexts", fn := fun _ => fun
  | [d1, d2] => { results := [.lit (.bool true)], args := [d1, d2] }
  | _ => none }
def chapTextsRow : OpenClaim := { program := "ytipkdhcbajcamaa", sum := "159997e7db9dc59b25cc40d2440da3118ce4cf353429ea62af0fdb0ff2d65e6c", func := "pallet/palletlaw19.ChapTexts", spec := "chapTexts", apart := false }
def ChapTextsSaid : Prop := chapTextsRow.holds Try.pinned (OpenSpec.ofChange chapTextsSpec)

/-- ITS FALSE NEIGHBOUR: 'it returns false'. Refute it at one input. -/
def chapTextsWrong : ChangeSpec := { name := "chapTexts", fn := fun _ => fun
  | [d1, d2] => { results := [.lit (.bool false)], args := [d1, d2] }
  | _ => none }
def ChapTextsWrongFalsely : Prop := chapTextsRow.holds Try.pinned (OpenSpec.ofChange chapTextsWrong)

/-- 'palletlaw19.ChapAnswers': WHATEVER THE INPUT: true; the input reads as it did. -/
def chapAnswersSpec : ChangeSpec := { name := "chapAnswers", fn := fun _ => fun
  | [d1, d2, d3, d4] => { results := [.lit (.bool true)], args := [d1, d2, d3, d4] }
  | _ => none }
def chapAnswersRow : OpenClaim := { program := "ytipkdhcbajcamaa", sum := "159997e7db9dc59b25cc40d2440da3118ce4cf353429ea62af0fdb0ff2d65e6c", func := "pallet/palletlaw19.ChapAnswers", spec := "chapAnswers", apart := false }
def ChapAnswersSaid : Prop := chapAnswersRow.holds Try.pinned (OpenSpec.ofChange chapAnswersSpec)

/-- ITS FALSE NEIGHBOUR: 'it returns false'. Refute it at one input. -/
def chapAnswersWrong : ChangeSpec := { name := "chapAnswers", fn := fun _ => fun
  | [d1, d2, d3, d4] => { results := [.lit (.bool false)], args := [d1, d2, d3, d4] }
  | _ => none }
def ChapAnswersWrongFalsely : Prop := chapAnswersRow.holds Try.pinned (OpenSpec.ofChange chapAnswersWrong)

/- THE SECOND FORM. 'bulk': how many values and letters a reading holds, each counted each time it is reached (what is shared counts as often as it is met; a slice's spare places count too). A statement '..UptoSaid' is the law's where the arguments, and the package variables that the reading takes, are together of bulk at most 1048576: NARROWER than '..Said'. Prove '..Said' where nothing that the law and all that it calls make is longer than what came in: it says more and counts as full. Else prove '..UptoSaid'. A law counts once. -/
mutual
def uptoBulk {H : Type} : DataW H → Nat
  | .lit (.string bytes) => bytes.length + 1
  | .lit _ => 1
  | .nil => 1
  | .ptr d => uptoBulk d + 1
  | .slice elems spare => uptoBulkAll elems + uptoBulkAll spare + 1
  | .agg parts => uptoBulkAll parts + 1
  | .iface _ d => uptoBulk d + 1
  | .map entries => uptoBulkEntries entries + 1
  | .held _ => 1
def uptoBulkAll {H : Type} : List (DataW H) → Nat
  | [] => 0
  | d :: r => uptoBulk d + uptoBulkAll r
def uptoBulkEntries {H : Type} : List (Lit × DataW H) → Nat
  | [] => 0
  | x :: r => uptoBulkEntry x + uptoBulkEntries r
def uptoBulkEntry {H : Type} : Lit × DataW H → Nat
  | (.string bytes, d) => bytes.length + uptoBulk d + 1
  | (_, d) => uptoBulk d + 1
 end
def uptoSmall : (H : Type) → List (DataW H) → Bool := fun _ ds => decide (uptoBulkAll ds ≤ 1048576)
def OpenSpec.upto (s : _root_.Go.ChangeSpec) : _root_.Go.OpenSpec := { _root_.Go.OpenSpec.ofChange s with cond := some uptoSmall }

/-- 'palletlaw19.ChapSums', WHERE WHAT IT READS IS OF BULK AT MOST 1048576: true; the input reads as it did. -/
def chapSumsUptoRow : OpenClaim := { program := "ytipkdhcbajcamaa", sum := "159997e7db9dc59b25cc40d2440da3118ce4cf353429ea62af0fdb0ff2d65e6c", func := "pallet/palletlaw19.ChapSums", spec := "chapSums", apart := false, narrowed := true }
def ChapSumsUptoSaid : Prop := chapSumsUptoRow.holds Try.pinned (OpenSpec.upto chapSumsSpec)

/-- 'palletlaw19.ChapMillion', WHERE WHAT IT READS IS OF BULK AT MOST 1048576: true; the input reads as it did. -/
def chapMillionUptoRow : OpenClaim := { program := "ytipkdhcbajcamaa", sum := "159997e7db9dc59b25cc40d2440da3118ce4cf353429ea62af0fdb0ff2d65e6c", func := "pallet/palletlaw19.ChapMillion", spec := "chapMillion", apart := false, narrowed := true }
def ChapMillionUptoSaid : Prop := chapMillionUptoRow.holds Try.pinned (OpenSpec.upto chapMillionSpec)

/-- 'palletlaw19.ChapTexts', WHERE WHAT IT READS IS OF BULK AT MOST 1048576: true; the input reads as it did. -/
def chapTextsUptoRow : OpenClaim := { program := "ytipkdhcbajcamaa", sum := "159997e7db9dc59b25cc40d2440da3118ce4cf353429ea62af0fdb0ff2d65e6c", func := "pallet/palletlaw19.ChapTexts", spec := "chapTexts", apart := false, narrowed := true }
def ChapTextsUptoSaid : Prop := chapTextsUptoRow.holds Try.pinned (OpenSpec.upto chapTextsSpec)

/-- 'palletlaw19.ChapAnswers', WHERE WHAT IT READS IS OF BULK AT MOST 1048576: true; the input reads as it did. -/
def chapAnswersUptoRow : OpenClaim := { program := "ytipkdhcbajcamaa", sum := "159997e7db9dc59b25cc40d2440da3118ce4cf353429ea62af0fdb0ff2d65e6c", func := "pallet/palletlaw19.ChapAnswers", spec := "chapAnswers", apart := false, narrowed := true }
def ChapAnswersUptoSaid : Prop := chapAnswersUptoRow.holds Try.pinned (OpenSpec.upto chapAnswersSpec)

end Rows
end Go.Proofs.Ytipkdhcbajcamaa
