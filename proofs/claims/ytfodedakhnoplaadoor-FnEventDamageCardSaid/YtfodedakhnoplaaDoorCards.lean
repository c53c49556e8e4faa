/-
  DERIVED. GIVEN WITH THE SEED: THE CARDS: each row of YtfodedakhnoplaaDoorRows.lean that lists a variable, with what it lists TIED to the program's text (the seventh form; the later family's looks); each row that meets fmt, with fmt's text TOLD by the authors' own Lean function (tested against real Go, not proved from fmt's source: count such statements apart). THE CARD IS WHAT COUNTS. Prove the row's statement (the work); the ties are given (YtfodedakhnoplaaDoorTie.lean); close each card by the builder's one call (the guide's Derived/Test/ToyasCard.lean, 'card_holds'). Laid BY PROGRAM, IN A SANDBOX (cutbox-door.mjs). By AI agents, Wed Nov 11 2026. No macro, syntax, notation, axiom, sorry.
-/
import Derived.Test.YtfodedakhnoplaaDoorRows
import GoSem.ClaimSeven
namespace Go.Proofs.YtfodedakhnoplaaDoor
namespace Rows

/-- THE TIED CARD OF 'laws.FnExactEventText'. -/
def fnExactEventTextCard : Claim7 := { stood := { row := fnExactEventTextRow, standIns := [], harness := (true, "13ad36e6c3419734515172538451c65565ba4dde07904eace94ac7a2522b805e"), looks := true }, kinds := [], alts := [], laidByText := true, laidKinds := [.data, .data, .data, .data], laidTests := true, laidLooks := .later }
def FnExactEventTextCardSaid : Prop := Claim7.holds Tryd.pinned (.plain (OpenSpec.ofChange fnExactEventTextSpec)) fnExactEventTextCard

/-- THE TIED CARD OF 'laws.FnEventDamage'. -/
def fnEventDamageCard : Claim7 := { stood := { row := fnEventDamageRow, standIns := [], harness := (true, "13ad36e6c3419734515172538451c65565ba4dde07904eace94ac7a2522b805e"), looks := true }, kinds := [], alts := [], laidByText := true, laidKinds := [.data, .data, .data, .data, .sentinel, .sentinel, .data, .pinned], laidTests := true, laidLooks := .later }
def FnEventDamageCardSaid : Prop := Claim7.holds Tryd.pinned (.plain (OpenSpec.ofChange fnEventDamageSpec)) fnEventDamageCard

/-- THE TIED CARD OF 'laws.FnEventTextNumber'. -/
def fnEventTextNumberCard : Claim7 := { stood := { row := fnEventTextNumberRow, standIns := [], harness := (true, "13ad36e6c3419734515172538451c65565ba4dde07904eace94ac7a2522b805e"), looks := true }, kinds := [], alts := [], laidByText := true, laidKinds := [.data, .data, .data, .data], laidTests := true, laidLooks := .later }
def FnEventTextNumberCardSaid : Prop := Claim7.holds Tryd.pinned (.plain (OpenSpec.ofChange fnEventTextNumberSpec)) fnEventTextNumberCard

/-- THE TIED CARD OF 'laws.FnExactJournalText'. -/
def fnExactJournalTextCard : Claim7 := { stood := { row := fnExactJournalTextRow, standIns := [], harness := (true, "13ad36e6c3419734515172538451c65565ba4dde07904eace94ac7a2522b805e"), looks := true }, kinds := [], alts := [], laidByText := true, laidKinds := [.data, .data, .data, .data], laidTests := true, laidLooks := .later }
def FnExactJournalTextCardSaid : Prop := Claim7.holds Tryd.pinned (.plain (OpenSpec.ofChange fnExactJournalTextSpec)) fnExactJournalTextCard

/-- THE SECOND FORM's CARD OF 'laws.FnExactEventText'. -/
def fnExactEventTextUptoCard : Claim7 := { stood := { row := fnExactEventTextUptoRow, standIns := [], harness := (true, "13ad36e6c3419734515172538451c65565ba4dde07904eace94ac7a2522b805e"), looks := true }, kinds := [], alts := [], laidByText := true, laidKinds := [.data, .data, .data, .data], laidTests := true, laidLooks := .later }
def FnExactEventTextUptoCardSaid : Prop := Claim7.holds Tryd.pinned (.plain (OpenSpec.upto fnExactEventTextSpec)) fnExactEventTextUptoCard

/-- THE SECOND FORM's CARD OF 'laws.FnEventDamage'. -/
def fnEventDamageUptoCard : Claim7 := { stood := { row := fnEventDamageUptoRow, standIns := [], harness := (true, "13ad36e6c3419734515172538451c65565ba4dde07904eace94ac7a2522b805e"), looks := true }, kinds := [], alts := [], laidByText := true, laidKinds := [.data, .data, .data, .data, .sentinel, .sentinel, .data, .pinned], laidTests := true, laidLooks := .later }
def FnEventDamageUptoCardSaid : Prop := Claim7.holds Tryd.pinned (.plain (OpenSpec.upto fnEventDamageSpec)) fnEventDamageUptoCard

/-- THE SECOND FORM's CARD OF 'laws.FnEventTextNumber'. -/
def fnEventTextNumberUptoCard : Claim7 := { stood := { row := fnEventTextNumberUptoRow, standIns := [], harness := (true, "13ad36e6c3419734515172538451c65565ba4dde07904eace94ac7a2522b805e"), looks := true }, kinds := [], alts := [], laidByText := true, laidKinds := [.data, .data, .data, .data], laidTests := true, laidLooks := .later }
def FnEventTextNumberUptoCardSaid : Prop := Claim7.holds Tryd.pinned (.plain (OpenSpec.upto fnEventTextNumberSpec)) fnEventTextNumberUptoCard

/-- THE SECOND FORM's CARD OF 'laws.FnExactJournalText'. -/
def fnExactJournalTextUptoCard : Claim7 := { stood := { row := fnExactJournalTextUptoRow, standIns := [], harness := (true, "13ad36e6c3419734515172538451c65565ba4dde07904eace94ac7a2522b805e"), looks := true }, kinds := [], alts := [], laidByText := true, laidKinds := [.data, .data, .data, .data], laidTests := true, laidLooks := .later }
def FnExactJournalTextUptoCardSaid : Prop := Claim7.holds Tryd.pinned (.plain (OpenSpec.upto fnExactJournalTextSpec)) fnExactJournalTextUptoCard
end Rows
end Go.Proofs.YtfodedakhnoplaaDoor
