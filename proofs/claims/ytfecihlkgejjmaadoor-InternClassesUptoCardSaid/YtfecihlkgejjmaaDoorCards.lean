/-
  DERIVED. GIVEN WITH THE SEED: THE CARDS: each row of YtfecihlkgejjmaaDoorRows.lean that lists a variable, with what it lists TIED to the program's text (the seventh form; the later family's looks); each row that meets fmt, with fmt's text TOLD by the authors' own Lean function (tested against real Go, not proved from fmt's source: count such statements apart). THE CARD IS WHAT COUNTS. Prove the row's statement (the work); the ties are given (YtfecihlkgejjmaaDoorTie.lean); close each card by the builder's one call (the guide's Derived/Test/ToyasCard.lean, 'card_holds'). Laid BY PROGRAM, IN A SANDBOX (cutbox-door.mjs). By AI agents, Wed Nov 11 2026. No macro, syntax, notation, axiom, sorry.
-/
import Derived.Test.YtfecihlkgejjmaaDoorRows
import GoSem.ClaimSeven
namespace Go.Proofs.YtfecihlkgejjmaaDoor
namespace Rows

/-- THE TIED CARD OF 'redlinelaw03.CanonTells'. -/
def canonTellsCard : Claim7 := { stood := { row := canonTellsRow, standIns := [], harness := (true, "0c6410db3c0f6f25dcae1bbb3f072554f3300be84a35cfed1900144eb516fe14"), looks := false }, kinds := [], alts := [], laidByText := true, laidKinds := [.data, .pinned], laidTests := true, laidLooks := .later }
def CanonTellsCardSaid : Prop := Claim7.holds Tryd.pinned (.plain (OpenSpec.ofChange canonTellsSpec)) canonTellsCard

/-- THE TIED CARD OF 'redlinelaw03.CanonOrder'. -/
def canonOrderCard : Claim7 := { stood := { row := canonOrderRow, standIns := [], harness := (true, "0c6410db3c0f6f25dcae1bbb3f072554f3300be84a35cfed1900144eb516fe14"), looks := false }, kinds := [], alts := [], laidByText := true, laidKinds := [.data, .pinned], laidTests := true, laidLooks := .later }
def CanonOrderCardSaid : Prop := Claim7.holds Tryd.pinned (.plain (OpenSpec.ofChange canonOrderSpec)) canonOrderCard

/-- THE TIED CARD OF 'redlinelaw04.InternTables'. -/
def internTablesCard : Claim7 := { stood := { row := internTablesRow, standIns := [], harness := (true, "0c6410db3c0f6f25dcae1bbb3f072554f3300be84a35cfed1900144eb516fe14"), looks := false }, kinds := [], alts := [], laidByText := true, laidKinds := [.data, .pinned], laidTests := true, laidLooks := .later }
def InternTablesCardSaid : Prop := Claim7.holds Tryd.pinned (.plain (OpenSpec.ofChange internTablesSpec)) internTablesCard

/-- THE TIED CARD OF 'redlinelaw04.InternClasses'. -/
def internClassesCard : Claim7 := { stood := { row := internClassesRow, standIns := [], harness := (true, "0c6410db3c0f6f25dcae1bbb3f072554f3300be84a35cfed1900144eb516fe14"), looks := false }, kinds := [], alts := [], laidByText := true, laidKinds := [.data, .pinned], laidTests := true, laidLooks := .later }
def InternClassesCardSaid : Prop := Claim7.holds Tryd.pinned (.plain (OpenSpec.ofChange internClassesSpec)) internClassesCard

/-- THE TIED CARD OF 'redlinelaw04.InternGrows'. -/
def internGrowsCard : Claim7 := { stood := { row := internGrowsRow, standIns := [], harness := (true, "0c6410db3c0f6f25dcae1bbb3f072554f3300be84a35cfed1900144eb516fe14"), looks := false }, kinds := [], alts := [], laidByText := true, laidKinds := [.data, .pinned], laidTests := true, laidLooks := .later }
def InternGrowsCardSaid : Prop := Claim7.holds Tryd.pinned (.plain (OpenSpec.ofChange internGrowsSpec)) internGrowsCard

/-- THE TIED CARD OF 'redlinelaw04.InternParts'. -/
def internPartsCard : Claim7 := { stood := { row := internPartsRow, standIns := [], harness := (true, "0c6410db3c0f6f25dcae1bbb3f072554f3300be84a35cfed1900144eb516fe14"), looks := false }, kinds := [], alts := [], laidByText := true, laidKinds := [.data, .pinned], laidTests := true, laidLooks := .later }
def InternPartsCardSaid : Prop := Claim7.holds Tryd.pinned (.plain (OpenSpec.ofChange internPartsSpec)) internPartsCard

/-- THE TIED CARD OF 'redlinelaw17.ViewsSame'. -/
def viewsSameCard : Claim7 := { stood := { row := viewsSameRow, standIns := [], harness := (true, "0c6410db3c0f6f25dcae1bbb3f072554f3300be84a35cfed1900144eb516fe14"), looks := false }, kinds := [], alts := [], laidByText := true, laidKinds := [.data, .pinned], laidTests := true, laidLooks := .later }
def ViewsSameCardSaid : Prop := Claim7.holds Tryd.pinned (.plain (OpenSpec.ofChange viewsSameSpec)) viewsSameCard

/-- THE TIED CARD OF 'redlinelaw10.EngineHonest'. -/
def engineHonestCard : Claim7 := { stood := { row := engineHonestRow, standIns := [], harness := (true, "0c6410db3c0f6f25dcae1bbb3f072554f3300be84a35cfed1900144eb516fe14"), looks := false }, kinds := [], alts := [], laidByText := true, laidKinds := [.data, .pinned], laidTests := true, laidLooks := .later }
def EngineHonestCardSaid : Prop := Claim7.holds Tryd.pinned (.plain (OpenSpec.ofChange engineHonestSpec)) engineHonestCard

/-- THE TIED CARD OF 'redlinelaw10.EngineReaches'. -/
def engineReachesCard : Claim7 := { stood := { row := engineReachesRow, standIns := [], harness := (true, "0c6410db3c0f6f25dcae1bbb3f072554f3300be84a35cfed1900144eb516fe14"), looks := false }, kinds := [], alts := [], laidByText := true, laidKinds := [.data, .pinned], laidTests := true, laidLooks := .later }
def EngineReachesCardSaid : Prop := Claim7.holds Tryd.pinned (.plain (OpenSpec.ofChange engineReachesSpec)) engineReachesCard

/-- THE SECOND FORM's CARD OF 'redlinelaw03.CanonTells'. -/
def canonTellsUptoCard : Claim7 := { stood := { row := canonTellsUptoRow, standIns := [], harness := (true, "0c6410db3c0f6f25dcae1bbb3f072554f3300be84a35cfed1900144eb516fe14"), looks := false }, kinds := [], alts := [], laidByText := true, laidKinds := [.data, .pinned], laidTests := true, laidLooks := .later }
def CanonTellsUptoCardSaid : Prop := Claim7.holds Tryd.pinned (.plain (OpenSpec.upto canonTellsSpec)) canonTellsUptoCard

/-- THE SECOND FORM's CARD OF 'redlinelaw03.CanonOrder'. -/
def canonOrderUptoCard : Claim7 := { stood := { row := canonOrderUptoRow, standIns := [], harness := (true, "0c6410db3c0f6f25dcae1bbb3f072554f3300be84a35cfed1900144eb516fe14"), looks := false }, kinds := [], alts := [], laidByText := true, laidKinds := [.data, .pinned], laidTests := true, laidLooks := .later }
def CanonOrderUptoCardSaid : Prop := Claim7.holds Tryd.pinned (.plain (OpenSpec.upto canonOrderSpec)) canonOrderUptoCard

/-- THE SECOND FORM's CARD OF 'redlinelaw04.InternTables'. -/
def internTablesUptoCard : Claim7 := { stood := { row := internTablesUptoRow, standIns := [], harness := (true, "0c6410db3c0f6f25dcae1bbb3f072554f3300be84a35cfed1900144eb516fe14"), looks := false }, kinds := [], alts := [], laidByText := true, laidKinds := [.data, .pinned], laidTests := true, laidLooks := .later }
def InternTablesUptoCardSaid : Prop := Claim7.holds Tryd.pinned (.plain (OpenSpec.upto internTablesSpec)) internTablesUptoCard

/-- THE SECOND FORM's CARD OF 'redlinelaw04.InternClasses'. -/
def internClassesUptoCard : Claim7 := { stood := { row := internClassesUptoRow, standIns := [], harness := (true, "0c6410db3c0f6f25dcae1bbb3f072554f3300be84a35cfed1900144eb516fe14"), looks := false }, kinds := [], alts := [], laidByText := true, laidKinds := [.data, .pinned], laidTests := true, laidLooks := .later }
def InternClassesUptoCardSaid : Prop := Claim7.holds Tryd.pinned (.plain (OpenSpec.upto internClassesSpec)) internClassesUptoCard

/-- THE SECOND FORM's CARD OF 'redlinelaw04.InternGrows'. -/
def internGrowsUptoCard : Claim7 := { stood := { row := internGrowsUptoRow, standIns := [], harness := (true, "0c6410db3c0f6f25dcae1bbb3f072554f3300be84a35cfed1900144eb516fe14"), looks := false }, kinds := [], alts := [], laidByText := true, laidKinds := [.data, .pinned], laidTests := true, laidLooks := .later }
def InternGrowsUptoCardSaid : Prop := Claim7.holds Tryd.pinned (.plain (OpenSpec.upto internGrowsSpec)) internGrowsUptoCard

/-- THE SECOND FORM's CARD OF 'redlinelaw04.InternParts'. -/
def internPartsUptoCard : Claim7 := { stood := { row := internPartsUptoRow, standIns := [], harness := (true, "0c6410db3c0f6f25dcae1bbb3f072554f3300be84a35cfed1900144eb516fe14"), looks := false }, kinds := [], alts := [], laidByText := true, laidKinds := [.data, .pinned], laidTests := true, laidLooks := .later }
def InternPartsUptoCardSaid : Prop := Claim7.holds Tryd.pinned (.plain (OpenSpec.upto internPartsSpec)) internPartsUptoCard

/-- THE SECOND FORM's CARD OF 'redlinelaw17.ViewsSame'. -/
def viewsSameUptoCard : Claim7 := { stood := { row := viewsSameUptoRow, standIns := [], harness := (true, "0c6410db3c0f6f25dcae1bbb3f072554f3300be84a35cfed1900144eb516fe14"), looks := false }, kinds := [], alts := [], laidByText := true, laidKinds := [.data, .pinned], laidTests := true, laidLooks := .later }
def ViewsSameUptoCardSaid : Prop := Claim7.holds Tryd.pinned (.plain (OpenSpec.upto viewsSameSpec)) viewsSameUptoCard

/-- THE SECOND FORM's CARD OF 'redlinelaw10.EngineHonest'. -/
def engineHonestUptoCard : Claim7 := { stood := { row := engineHonestUptoRow, standIns := [], harness := (true, "0c6410db3c0f6f25dcae1bbb3f072554f3300be84a35cfed1900144eb516fe14"), looks := false }, kinds := [], alts := [], laidByText := true, laidKinds := [.data, .pinned], laidTests := true, laidLooks := .later }
def EngineHonestUptoCardSaid : Prop := Claim7.holds Tryd.pinned (.plain (OpenSpec.upto engineHonestSpec)) engineHonestUptoCard

/-- THE SECOND FORM's CARD OF 'redlinelaw10.EngineReaches'. -/
def engineReachesUptoCard : Claim7 := { stood := { row := engineReachesUptoRow, standIns := [], harness := (true, "0c6410db3c0f6f25dcae1bbb3f072554f3300be84a35cfed1900144eb516fe14"), looks := false }, kinds := [], alts := [], laidByText := true, laidKinds := [.data, .pinned], laidTests := true, laidLooks := .later }
def EngineReachesUptoCardSaid : Prop := Claim7.holds Tryd.pinned (.plain (OpenSpec.upto engineReachesSpec)) engineReachesUptoCard
end Rows
end Go.Proofs.YtfecihlkgejjmaaDoor
