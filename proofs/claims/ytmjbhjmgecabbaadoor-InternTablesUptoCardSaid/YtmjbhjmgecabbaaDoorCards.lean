/-
  DERIVED. GIVEN WITH THE SEED: THE CARDS: each row of YtmjbhjmgecabbaaDoorRows.lean that lists a variable, with what it lists TIED to the program's text (the seventh form; the later family's looks); each row that meets fmt, with fmt's text TOLD by the authors' own Lean function (tested against real Go, not proved from fmt's source: count such statements apart). THE CARD IS WHAT COUNTS. Prove the row's statement (the work); the ties are given (YtmjbhjmgecabbaaDoorTie.lean); close each card by the builder's one call (the guide's Derived/Test/ToyasCard.lean, 'card_holds'). Laid BY PROGRAM, IN A SANDBOX (cutbox-door.mjs). By AI agents, Wed Nov 11 2026. No macro, syntax, notation, axiom, sorry.
-/
import Derived.Test.YtmjbhjmgecabbaaDoorRows
import GoSem.ClaimSeven
namespace Go.Proofs.YtmjbhjmgecabbaaDoor
namespace Rows

/-- THE TIED CARD OF 'redlinelaw03.CanonOrder'. -/
def canonOrderCard : Claim7 := { stood := { row := canonOrderRow, standIns := [], harness := (true, "3ecedcd8e01f4c25a74929942c8736a166390fcb619f6d225ec1bc1ac82cc137"), looks := false }, kinds := [], alts := [], laidByText := true, laidKinds := [.data, .pinned], laidTests := true, laidLooks := .later }
def CanonOrderCardSaid : Prop := Claim7.holds Tryd.pinned (.plain (OpenSpec.ofChange canonOrderSpec)) canonOrderCard

/-- THE TIED CARD OF 'redlinelaw04.InternTables'. -/
def internTablesCard : Claim7 := { stood := { row := internTablesRow, standIns := [], harness := (true, "3ecedcd8e01f4c25a74929942c8736a166390fcb619f6d225ec1bc1ac82cc137"), looks := false }, kinds := [], alts := [], laidByText := true, laidKinds := [.data, .pinned], laidTests := true, laidLooks := .later }
def InternTablesCardSaid : Prop := Claim7.holds Tryd.pinned (.plain (OpenSpec.ofChange internTablesSpec)) internTablesCard

/-- THE TIED CARD OF 'redlinelaw17.ViewsSame'. -/
def viewsSameCard : Claim7 := { stood := { row := viewsSameRow, standIns := [], harness := (true, "3ecedcd8e01f4c25a74929942c8736a166390fcb619f6d225ec1bc1ac82cc137"), looks := false }, kinds := [], alts := [], laidByText := true, laidKinds := [.data, .pinned], laidTests := true, laidLooks := .later }
def ViewsSameCardSaid : Prop := Claim7.holds Tryd.pinned (.plain (OpenSpec.ofChange viewsSameSpec)) viewsSameCard

/-- THE TIED CARD OF 'redlinelaw10.EngineHonest'. -/
def engineHonestCard : Claim7 := { stood := { row := engineHonestRow, standIns := [], harness := (true, "3ecedcd8e01f4c25a74929942c8736a166390fcb619f6d225ec1bc1ac82cc137"), looks := false }, kinds := [], alts := [], laidByText := true, laidKinds := [.data, .pinned], laidTests := true, laidLooks := .later }
def EngineHonestCardSaid : Prop := Claim7.holds Tryd.pinned (.plain (OpenSpec.ofChange engineHonestSpec)) engineHonestCard

/-- THE TIED CARD OF 'redlinelaw10.EngineReaches'. -/
def engineReachesCard : Claim7 := { stood := { row := engineReachesRow, standIns := [], harness := (true, "3ecedcd8e01f4c25a74929942c8736a166390fcb619f6d225ec1bc1ac82cc137"), looks := false }, kinds := [], alts := [], laidByText := true, laidKinds := [.data, .pinned], laidTests := true, laidLooks := .later }
def EngineReachesCardSaid : Prop := Claim7.holds Tryd.pinned (.plain (OpenSpec.ofChange engineReachesSpec)) engineReachesCard

/-- THE SECOND FORM's CARD OF 'redlinelaw03.CanonOrder'. -/
def canonOrderUptoCard : Claim7 := { stood := { row := canonOrderUptoRow, standIns := [], harness := (true, "3ecedcd8e01f4c25a74929942c8736a166390fcb619f6d225ec1bc1ac82cc137"), looks := false }, kinds := [], alts := [], laidByText := true, laidKinds := [.data, .pinned], laidTests := true, laidLooks := .later }
def CanonOrderUptoCardSaid : Prop := Claim7.holds Tryd.pinned (.plain (OpenSpec.upto canonOrderSpec)) canonOrderUptoCard

/-- THE SECOND FORM's CARD OF 'redlinelaw04.InternTables'. -/
def internTablesUptoCard : Claim7 := { stood := { row := internTablesUptoRow, standIns := [], harness := (true, "3ecedcd8e01f4c25a74929942c8736a166390fcb619f6d225ec1bc1ac82cc137"), looks := false }, kinds := [], alts := [], laidByText := true, laidKinds := [.data, .pinned], laidTests := true, laidLooks := .later }
def InternTablesUptoCardSaid : Prop := Claim7.holds Tryd.pinned (.plain (OpenSpec.upto internTablesSpec)) internTablesUptoCard

/-- THE SECOND FORM's CARD OF 'redlinelaw17.ViewsSame'. -/
def viewsSameUptoCard : Claim7 := { stood := { row := viewsSameUptoRow, standIns := [], harness := (true, "3ecedcd8e01f4c25a74929942c8736a166390fcb619f6d225ec1bc1ac82cc137"), looks := false }, kinds := [], alts := [], laidByText := true, laidKinds := [.data, .pinned], laidTests := true, laidLooks := .later }
def ViewsSameUptoCardSaid : Prop := Claim7.holds Tryd.pinned (.plain (OpenSpec.upto viewsSameSpec)) viewsSameUptoCard

/-- THE SECOND FORM's CARD OF 'redlinelaw10.EngineHonest'. -/
def engineHonestUptoCard : Claim7 := { stood := { row := engineHonestUptoRow, standIns := [], harness := (true, "3ecedcd8e01f4c25a74929942c8736a166390fcb619f6d225ec1bc1ac82cc137"), looks := false }, kinds := [], alts := [], laidByText := true, laidKinds := [.data, .pinned], laidTests := true, laidLooks := .later }
def EngineHonestUptoCardSaid : Prop := Claim7.holds Tryd.pinned (.plain (OpenSpec.upto engineHonestSpec)) engineHonestUptoCard

/-- THE SECOND FORM's CARD OF 'redlinelaw10.EngineReaches'. -/
def engineReachesUptoCard : Claim7 := { stood := { row := engineReachesUptoRow, standIns := [], harness := (true, "3ecedcd8e01f4c25a74929942c8736a166390fcb619f6d225ec1bc1ac82cc137"), looks := false }, kinds := [], alts := [], laidByText := true, laidKinds := [.data, .pinned], laidTests := true, laidLooks := .later }
def EngineReachesUptoCardSaid : Prop := Claim7.holds Tryd.pinned (.plain (OpenSpec.upto engineReachesSpec)) engineReachesUptoCard
end Rows
end Go.Proofs.YtmjbhjmgecabbaaDoor
