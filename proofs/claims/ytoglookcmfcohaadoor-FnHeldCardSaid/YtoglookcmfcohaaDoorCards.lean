/-
  DERIVED. GIVEN WITH THE SEED: THE CARDS: each row of YtoglookcmfcohaaDoorRows.lean that lists a variable, with what it lists TIED to the program's text (the seventh form; the later family's looks); each row that meets fmt, with fmt's text TOLD by the authors' own Lean function (tested against real Go, not proved from fmt's source: count such statements apart). THE CARD IS WHAT COUNTS. Prove the row's statement (the work); the ties are given (YtoglookcmfcohaaDoorTie.lean); close each card by the builder's one call (the guide's Derived/Test/ToyasCard.lean, 'card_holds'). Laid BY PROGRAM, IN A SANDBOX (cutbox-door.mjs). By AI agents, Wed Nov 11 2026. No macro, syntax, notation, axiom, sorry.
-/
import Derived.Test.YtoglookcmfcohaaDoorRows
import GoSem.ClaimSeven
namespace Go.Proofs.YtoglookcmfcohaaDoor
namespace Rows

/-- THE TIED CARD OF 'laws.FnExactWentText'. -/
def fnExactWentTextCard : Claim7 := { stood := { row := fnExactWentTextRow, standIns := [], harness := (true, "66ba977e6fec690ad3339883df261d7d6f82e8d680249c5ac96579f63c3ce177"), looks := false }, kinds := [], alts := [], laidByText := true, laidKinds := [.data, .data, .data], laidTests := true, laidLooks := .later }
def FnExactWentTextCardSaid : Prop := Claim7.holds Tryd.pinned (.plain (OpenSpec.ofChange fnExactWentTextSpec)) fnExactWentTextCard

/-- THE TIED CARD OF 'laws.FnHeld'. -/
def fnHeldCard : Claim7 := { stood := { row := fnHeldRow, standIns := [], harness := (true, "66ba977e6fec690ad3339883df261d7d6f82e8d680249c5ac96579f63c3ce177"), looks := false }, kinds := [], alts := [], laidByText := true, laidKinds := [.data, .data, .data], laidTests := true, laidLooks := .later }
def FnHeldCardSaid : Prop := Claim7.holds Tryd.pinned (.plain (OpenSpec.ofChange fnHeldSpec)) fnHeldCard

/-- THE SECOND FORM's CARD OF 'laws.FnExactWentText'. -/
def fnExactWentTextUptoCard : Claim7 := { stood := { row := fnExactWentTextUptoRow, standIns := [], harness := (true, "66ba977e6fec690ad3339883df261d7d6f82e8d680249c5ac96579f63c3ce177"), looks := false }, kinds := [], alts := [], laidByText := true, laidKinds := [.data, .data, .data], laidTests := true, laidLooks := .later }
def FnExactWentTextUptoCardSaid : Prop := Claim7.holds Tryd.pinned (.plain (OpenSpec.upto fnExactWentTextSpec)) fnExactWentTextUptoCard

/-- THE SECOND FORM's CARD OF 'laws.FnHeld'. -/
def fnHeldUptoCard : Claim7 := { stood := { row := fnHeldUptoRow, standIns := [], harness := (true, "66ba977e6fec690ad3339883df261d7d6f82e8d680249c5ac96579f63c3ce177"), looks := false }, kinds := [], alts := [], laidByText := true, laidKinds := [.data, .data, .data], laidTests := true, laidLooks := .later }
def FnHeldUptoCardSaid : Prop := Claim7.holds Tryd.pinned (.plain (OpenSpec.upto fnHeldSpec)) fnHeldUptoCard
end Rows
end Go.Proofs.YtoglookcmfcohaaDoor
