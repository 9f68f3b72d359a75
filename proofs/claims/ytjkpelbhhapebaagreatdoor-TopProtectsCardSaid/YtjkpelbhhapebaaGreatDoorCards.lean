/-
  DERIVED. GIVEN WITH THE SEED: THE CARDS: each row of YtjkpelbhhapebaaGreatDoorRows.lean that lists a variable, with what it lists TIED to the program's text (the seventh form; the later family's looks); each row that meets fmt, with fmt's text TOLD by the authors' own Lean function (tested against real Go, not proved from fmt's source: count such statements apart). THE CARD IS WHAT COUNTS. Prove the row's statement (the work); the ties are given (YtjkpelbhhapebaaGreatDoorTie.lean); close each card by the builder's one call (the guide's Derived/Test/ToyasCard.lean, 'card_holds'). Laid BY PROGRAM, IN A SANDBOX (cutbox-door.mjs). By AI agents, Wed Nov 11 2026. No macro, syntax, notation, axiom, sorry.
-/
import Derived.Test.YtjkpelbhhapebaaGreatDoorRows
import GoSem.ClaimSeven
namespace Go.Proofs.YtjkpelbhhapebaaGreatDoor
namespace Rows

/-- THE TIED CARD OF 'pallettop.TopCompares'. -/
def topComparesCard : Claim7 := { stood := { row := topComparesRow, standIns := [], harness := (true, "3533310f4ec546e4da2a44e59df972e8a58b2d686b0fb202e21d9d7b675e2363"), looks := true }, kinds := [], alts := [], laidByText := true, laidKinds := [.data, .pinned], laidTests := true, laidLooks := .later }
def TopComparesCardSaid : Prop := Claim7.holds Tryz.pinned (.plain (OpenSpec.ofChange topComparesSpec)) topComparesCard

/-- THE TIED CARD OF 'pallettop.TopReserves'. -/
def topReservesCard : Claim7 := { stood := { row := topReservesRow, standIns := [], harness := (true, "3533310f4ec546e4da2a44e59df972e8a58b2d686b0fb202e21d9d7b675e2363"), looks := true }, kinds := [], alts := [], laidByText := true, laidKinds := [.data, .pinned], laidTests := true, laidLooks := .later }
def TopReservesCardSaid : Prop := Claim7.holds Tryz.pinned (.plain (OpenSpec.ofChange topReservesSpec)) topReservesCard

/-- THE TIED CARD OF 'pallettop.TopProtects'. -/
def topProtectsCard : Claim7 := { stood := { row := topProtectsRow, standIns := [], harness := (true, "3533310f4ec546e4da2a44e59df972e8a58b2d686b0fb202e21d9d7b675e2363"), looks := true }, kinds := [], alts := [], laidByText := true, laidKinds := [.data, .pinned], laidTests := true, laidLooks := .later }
def TopProtectsCardSaid : Prop := Claim7.holds Tryz.pinned (.plain (OpenSpec.ofChange topProtectsSpec)) topProtectsCard

/-- THE TIED CARD OF 'pallettop.TopPages'. -/
def topPagesCard : Claim7 := { stood := { row := topPagesRow, standIns := [], harness := (true, "3533310f4ec546e4da2a44e59df972e8a58b2d686b0fb202e21d9d7b675e2363"), looks := true }, kinds := [], alts := [], laidByText := true, laidKinds := [.data, .pinned], laidTests := true, laidLooks := .later }
def TopPagesCardSaid : Prop := Claim7.holds Tryz.pinned (.plain (OpenSpec.ofChange topPagesSpec)) topPagesCard

/-- THE SECOND FORM's CARD OF 'pallettop.TopCompares'. -/
def topComparesUptoCard : Claim7 := { stood := { row := topComparesUptoRow, standIns := [], harness := (true, "3533310f4ec546e4da2a44e59df972e8a58b2d686b0fb202e21d9d7b675e2363"), looks := true }, kinds := [], alts := [], laidByText := true, laidKinds := [.data, .pinned], laidTests := true, laidLooks := .later }
def TopComparesUptoCardSaid : Prop := Claim7.holds Tryz.pinned (.plain (OpenSpec.upto topComparesSpec)) topComparesUptoCard

/-- THE SECOND FORM's CARD OF 'pallettop.TopReserves'. -/
def topReservesUptoCard : Claim7 := { stood := { row := topReservesUptoRow, standIns := [], harness := (true, "3533310f4ec546e4da2a44e59df972e8a58b2d686b0fb202e21d9d7b675e2363"), looks := true }, kinds := [], alts := [], laidByText := true, laidKinds := [.data, .pinned], laidTests := true, laidLooks := .later }
def TopReservesUptoCardSaid : Prop := Claim7.holds Tryz.pinned (.plain (OpenSpec.upto topReservesSpec)) topReservesUptoCard

/-- THE SECOND FORM's CARD OF 'pallettop.TopProtects'. -/
def topProtectsUptoCard : Claim7 := { stood := { row := topProtectsUptoRow, standIns := [], harness := (true, "3533310f4ec546e4da2a44e59df972e8a58b2d686b0fb202e21d9d7b675e2363"), looks := true }, kinds := [], alts := [], laidByText := true, laidKinds := [.data, .pinned], laidTests := true, laidLooks := .later }
def TopProtectsUptoCardSaid : Prop := Claim7.holds Tryz.pinned (.plain (OpenSpec.upto topProtectsSpec)) topProtectsUptoCard

/-- THE SECOND FORM's CARD OF 'pallettop.TopPages'. -/
def topPagesUptoCard : Claim7 := { stood := { row := topPagesUptoRow, standIns := [], harness := (true, "3533310f4ec546e4da2a44e59df972e8a58b2d686b0fb202e21d9d7b675e2363"), looks := true }, kinds := [], alts := [], laidByText := true, laidKinds := [.data, .pinned], laidTests := true, laidLooks := .later }
def TopPagesUptoCardSaid : Prop := Claim7.holds Tryz.pinned (.plain (OpenSpec.upto topPagesSpec)) topPagesUptoCard
end Rows
end Go.Proofs.YtjkpelbhhapebaaGreatDoor
