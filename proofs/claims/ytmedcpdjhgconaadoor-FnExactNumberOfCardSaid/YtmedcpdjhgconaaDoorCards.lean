/-
  DERIVED. GIVEN WITH THE SEED: THE CARDS: each row of YtmedcpdjhgconaaDoorRows.lean that lists a variable, with what it lists TIED to the program's text (the seventh form; the later family's looks); each row that meets fmt, with fmt's text TOLD by the authors' own Lean function (tested against real Go, not proved from fmt's source: count such statements apart). THE CARD IS WHAT COUNTS. Prove the row's statement (the work); the ties are given (YtmedcpdjhgconaaDoorTie.lean); close each card by the builder's one call (the guide's Derived/Test/ToyasCard.lean, 'card_holds'). Laid BY PROGRAM, IN A SANDBOX (cutbox-door.mjs). By AI agents, Wed Nov 11 2026. No macro, syntax, notation, axiom, sorry.
-/
import Derived.Test.YtmedcpdjhgconaaDoorRows
import GoSem.ClaimSeven
namespace Go.Proofs.YtmedcpdjhgconaaDoor
namespace Rows

/-- THE TIED CARD OF 'laws.FnExactFloatOfNarrow'. -/
def fnExactFloatOfNarrowCard : Claim7 := { stood := { row := fnExactFloatOfNarrowRow, standIns := [], harness := (true, "8370e00a2d03d09dac54e20f633837299175bf3601898304706d44e10f0be609"), looks := false }, kinds := [], alts := [], laidByText := true, laidKinds := [.data], laidTests := true, laidLooks := .later }
def FnExactFloatOfNarrowCardSaid : Prop := Claim7.holds Tryd.pinned (.plain (OpenSpec.ofChange fnExactFloatOfNarrowSpec)) fnExactFloatOfNarrowCard

/-- THE TIED CARD OF 'laws.FnExactFloatOf'. -/
def fnExactFloatOfCard : Claim7 := { stood := { row := fnExactFloatOfRow, standIns := [], harness := (true, "8370e00a2d03d09dac54e20f633837299175bf3601898304706d44e10f0be609"), looks := false }, kinds := [], alts := [], laidByText := true, laidKinds := [.data], laidTests := true, laidLooks := .later }
def FnExactFloatOfCardSaid : Prop := Claim7.holds Tryd.pinned (.plain (OpenSpec.ofChange fnExactFloatOfSpec)) fnExactFloatOfCard

/-- THE TIED CARD OF 'laws.FnExactNumberOf'. -/
def fnExactNumberOfCard : Claim7 := { stood := { row := fnExactNumberOfRow, standIns := [], harness := (true, "8370e00a2d03d09dac54e20f633837299175bf3601898304706d44e10f0be609"), looks := false }, kinds := [], alts := [], laidByText := true, laidKinds := [.data], laidTests := true, laidLooks := .later }
def FnExactNumberOfCardSaid : Prop := Claim7.holds Tryd.pinned (.plain (OpenSpec.ofChange fnExactNumberOfSpec)) fnExactNumberOfCard

/-- THE SECOND FORM's CARD OF 'laws.FnExactFloatOfNarrow'. -/
def fnExactFloatOfNarrowUptoCard : Claim7 := { stood := { row := fnExactFloatOfNarrowUptoRow, standIns := [], harness := (true, "8370e00a2d03d09dac54e20f633837299175bf3601898304706d44e10f0be609"), looks := false }, kinds := [], alts := [], laidByText := true, laidKinds := [.data], laidTests := true, laidLooks := .later }
def FnExactFloatOfNarrowUptoCardSaid : Prop := Claim7.holds Tryd.pinned (.plain (OpenSpec.upto fnExactFloatOfNarrowSpec)) fnExactFloatOfNarrowUptoCard

/-- THE SECOND FORM's CARD OF 'laws.FnExactFloatOf'. -/
def fnExactFloatOfUptoCard : Claim7 := { stood := { row := fnExactFloatOfUptoRow, standIns := [], harness := (true, "8370e00a2d03d09dac54e20f633837299175bf3601898304706d44e10f0be609"), looks := false }, kinds := [], alts := [], laidByText := true, laidKinds := [.data], laidTests := true, laidLooks := .later }
def FnExactFloatOfUptoCardSaid : Prop := Claim7.holds Tryd.pinned (.plain (OpenSpec.upto fnExactFloatOfSpec)) fnExactFloatOfUptoCard

/-- THE SECOND FORM's CARD OF 'laws.FnExactNumberOf'. -/
def fnExactNumberOfUptoCard : Claim7 := { stood := { row := fnExactNumberOfUptoRow, standIns := [], harness := (true, "8370e00a2d03d09dac54e20f633837299175bf3601898304706d44e10f0be609"), looks := false }, kinds := [], alts := [], laidByText := true, laidKinds := [.data], laidTests := true, laidLooks := .later }
def FnExactNumberOfUptoCardSaid : Prop := Claim7.holds Tryd.pinned (.plain (OpenSpec.upto fnExactNumberOfSpec)) fnExactNumberOfUptoCard
end Rows
end Go.Proofs.YtmedcpdjhgconaaDoor
