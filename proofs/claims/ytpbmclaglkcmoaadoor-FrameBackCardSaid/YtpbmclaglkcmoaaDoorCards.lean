/-
  DERIVED. GIVEN WITH THE SEED: THE CARDS: each row of YtpbmclaglkcmoaaDoorRows.lean that lists a variable, with what it lists TIED to the program's text (the seventh form; the later family's looks); each row that meets fmt, with fmt's text TOLD by the authors' own Lean function (tested against real Go, not proved from fmt's source: count such statements apart). THE CARD IS WHAT COUNTS. Prove the row's statement (the work); the ties are given (YtpbmclaglkcmoaaDoorTie.lean); close each card by the builder's one call (the guide's Derived/Test/ToyasCard.lean, 'card_holds'). Laid BY PROGRAM, IN A SANDBOX (cutbox-door.mjs). By AI agents, Wed Nov 11 2026. No macro, syntax, notation, axiom, sorry.
-/
import Derived.Test.YtpbmclaglkcmoaaDoorRows
import GoSem.ClaimSeven
namespace Go.Proofs.YtpbmclaglkcmoaaDoor
namespace Rows

/-- THE TIED CARD OF 'commonslaw1.WireCounts'. -/
def wireCountsCard : Claim7 := { stood := { row := wireCountsRow, standIns := [], harness := (true, "a8933e64a96acf90f2584c9f1fb11523b3ca697f278aae7c5736595cee4e9f61"), looks := false }, kinds := [], alts := [], laidByText := true, laidKinds := [.data, .pinned], laidTests := true, laidLooks := .later }
def WireCountsCardSaid : Prop := Claim7.holds Tryd.pinned (.plain (OpenSpec.ofChange wireCountsSpec)) wireCountsCard

/-- THE TIED CARD OF 'commonslaw1.WireWrites'. -/
def wireWritesCard : Claim7 := { stood := { row := wireWritesRow, standIns := [], harness := (true, "a8933e64a96acf90f2584c9f1fb11523b3ca697f278aae7c5736595cee4e9f61"), looks := false }, kinds := [], alts := [], laidByText := true, laidKinds := [.data, .pinned], laidTests := true, laidLooks := .later }
def WireWritesCardSaid : Prop := Claim7.holds Tryd.pinned (.plain (OpenSpec.ofChange wireWritesSpec)) wireWritesCard

/-- THE TIED CARD OF 'commonslaw20.MsgBack'. -/
def msgBackCard : Claim7 := { stood := { row := msgBackRow, standIns := [], harness := (true, "a8933e64a96acf90f2584c9f1fb11523b3ca697f278aae7c5736595cee4e9f61"), looks := false }, kinds := [], alts := [], laidByText := true, laidKinds := [.data, .pinned], laidTests := true, laidLooks := .later }
def MsgBackCardSaid : Prop := Claim7.holds Tryd.pinned (.plain (OpenSpec.ofChange msgBackSpec)) msgBackCard

/-- THE TIED CARD OF 'commonslaw20.MsgKinds'. -/
def msgKindsCard : Claim7 := { stood := { row := msgKindsRow, standIns := [], harness := (true, "a8933e64a96acf90f2584c9f1fb11523b3ca697f278aae7c5736595cee4e9f61"), looks := false }, kinds := [], alts := [], laidByText := true, laidKinds := [.data, .pinned], laidTests := true, laidLooks := .later }
def MsgKindsCardSaid : Prop := Claim7.holds Tryd.pinned (.plain (OpenSpec.ofChange msgKindsSpec)) msgKindsCard

/-- THE TIED CARD OF 'commonslaw1.WireDigits'. -/
def wireDigitsCard : Claim7 := { stood := { row := wireDigitsRow, standIns := [], harness := (true, "a8933e64a96acf90f2584c9f1fb11523b3ca697f278aae7c5736595cee4e9f61"), looks := false }, kinds := [], alts := [], laidByText := true, laidKinds := [.data, .pinned], laidTests := true, laidLooks := .later }
def WireDigitsCardSaid : Prop := Claim7.holds Tryd.pinned (.plain (OpenSpec.ofChange wireDigitsSpec)) wireDigitsCard

/-- THE TIED CARD OF 'commonslaw1.WireReads'. -/
def wireReadsCard : Claim7 := { stood := { row := wireReadsRow, standIns := [], harness := (true, "a8933e64a96acf90f2584c9f1fb11523b3ca697f278aae7c5736595cee4e9f61"), looks := false }, kinds := [], alts := [], laidByText := true, laidKinds := [.data, .pinned], laidTests := true, laidLooks := .later }
def WireReadsCardSaid : Prop := Claim7.holds Tryd.pinned (.plain (OpenSpec.ofChange wireReadsSpec)) wireReadsCard

/-- THE TIED CARD OF 'commonslaw1.WireFirst'. -/
def wireFirstCard : Claim7 := { stood := { row := wireFirstRow, standIns := [], harness := (true, "a8933e64a96acf90f2584c9f1fb11523b3ca697f278aae7c5736595cee4e9f61"), looks := false }, kinds := [], alts := [], laidByText := true, laidKinds := [.data, .pinned], laidTests := true, laidLooks := .later }
def WireFirstCardSaid : Prop := Claim7.holds Tryd.pinned (.plain (OpenSpec.ofChange wireFirstSpec)) wireFirstCard

/-- THE TIED CARD OF 'commonslaw1.WireBack'. -/
def wireBackCard : Claim7 := { stood := { row := wireBackRow, standIns := [], harness := (true, "a8933e64a96acf90f2584c9f1fb11523b3ca697f278aae7c5736595cee4e9f61"), looks := false }, kinds := [], alts := [], laidByText := true, laidKinds := [.data, .pinned], laidTests := true, laidLooks := .later }
def WireBackCardSaid : Prop := Claim7.holds Tryd.pinned (.plain (OpenSpec.ofChange wireBackSpec)) wireBackCard

/-- THE TIED CARD OF 'commonslaw1.WireSkips'. -/
def wireSkipsCard : Claim7 := { stood := { row := wireSkipsRow, standIns := [], harness := (true, "a8933e64a96acf90f2584c9f1fb11523b3ca697f278aae7c5736595cee4e9f61"), looks := false }, kinds := [], alts := [], laidByText := true, laidKinds := [.data, .pinned], laidTests := true, laidLooks := .later }
def WireSkipsCardSaid : Prop := Claim7.holds Tryd.pinned (.plain (OpenSpec.ofChange wireSkipsSpec)) wireSkipsCard

/-- THE TIED CARD OF 'commonslaw1.WireNone'. -/
def wireNoneCard : Claim7 := { stood := { row := wireNoneRow, standIns := [], harness := (true, "a8933e64a96acf90f2584c9f1fb11523b3ca697f278aae7c5736595cee4e9f61"), looks := false }, kinds := [], alts := [], laidByText := true, laidKinds := [.data, .pinned], laidTests := true, laidLooks := .later }
def WireNoneCardSaid : Prop := Claim7.holds Tryd.pinned (.plain (OpenSpec.ofChange wireNoneSpec)) wireNoneCard

/-- THE TIED CARD OF 'commonslaw15.FrameTells'. -/
def frameTellsCard : Claim7 := { stood := { row := frameTellsRow, standIns := [], harness := (true, "a8933e64a96acf90f2584c9f1fb11523b3ca697f278aae7c5736595cee4e9f61"), looks := false }, kinds := [], alts := [], laidByText := true, laidKinds := [.data, .pinned], laidTests := true, laidLooks := .later }
def FrameTellsCardSaid : Prop := Claim7.holds Tryd.pinned (.plain (OpenSpec.ofChange frameTellsSpec)) frameTellsCard

/-- THE TIED CARD OF 'commonslaw15.FrameBack'. -/
def frameBackCard : Claim7 := { stood := { row := frameBackRow, standIns := [], harness := (true, "a8933e64a96acf90f2584c9f1fb11523b3ca697f278aae7c5736595cee4e9f61"), looks := false }, kinds := [], alts := [], laidByText := true, laidKinds := [.data, .pinned], laidTests := true, laidLooks := .later }
def FrameBackCardSaid : Prop := Claim7.holds Tryd.pinned (.plain (OpenSpec.ofChange frameBackSpec)) frameBackCard

/-- THE SECOND FORM's CARD OF 'commonslaw1.WireCounts'. -/
def wireCountsUptoCard : Claim7 := { stood := { row := wireCountsUptoRow, standIns := [], harness := (true, "a8933e64a96acf90f2584c9f1fb11523b3ca697f278aae7c5736595cee4e9f61"), looks := false }, kinds := [], alts := [], laidByText := true, laidKinds := [.data, .pinned], laidTests := true, laidLooks := .later }
def WireCountsUptoCardSaid : Prop := Claim7.holds Tryd.pinned (.plain (OpenSpec.upto wireCountsSpec)) wireCountsUptoCard

/-- THE SECOND FORM's CARD OF 'commonslaw1.WireWrites'. -/
def wireWritesUptoCard : Claim7 := { stood := { row := wireWritesUptoRow, standIns := [], harness := (true, "a8933e64a96acf90f2584c9f1fb11523b3ca697f278aae7c5736595cee4e9f61"), looks := false }, kinds := [], alts := [], laidByText := true, laidKinds := [.data, .pinned], laidTests := true, laidLooks := .later }
def WireWritesUptoCardSaid : Prop := Claim7.holds Tryd.pinned (.plain (OpenSpec.upto wireWritesSpec)) wireWritesUptoCard

/-- THE SECOND FORM's CARD OF 'commonslaw20.MsgBack'. -/
def msgBackUptoCard : Claim7 := { stood := { row := msgBackUptoRow, standIns := [], harness := (true, "a8933e64a96acf90f2584c9f1fb11523b3ca697f278aae7c5736595cee4e9f61"), looks := false }, kinds := [], alts := [], laidByText := true, laidKinds := [.data, .pinned], laidTests := true, laidLooks := .later }
def MsgBackUptoCardSaid : Prop := Claim7.holds Tryd.pinned (.plain (OpenSpec.upto msgBackSpec)) msgBackUptoCard

/-- THE SECOND FORM's CARD OF 'commonslaw20.MsgKinds'. -/
def msgKindsUptoCard : Claim7 := { stood := { row := msgKindsUptoRow, standIns := [], harness := (true, "a8933e64a96acf90f2584c9f1fb11523b3ca697f278aae7c5736595cee4e9f61"), looks := false }, kinds := [], alts := [], laidByText := true, laidKinds := [.data, .pinned], laidTests := true, laidLooks := .later }
def MsgKindsUptoCardSaid : Prop := Claim7.holds Tryd.pinned (.plain (OpenSpec.upto msgKindsSpec)) msgKindsUptoCard

/-- THE SECOND FORM's CARD OF 'commonslaw1.WireDigits'. -/
def wireDigitsUptoCard : Claim7 := { stood := { row := wireDigitsUptoRow, standIns := [], harness := (true, "a8933e64a96acf90f2584c9f1fb11523b3ca697f278aae7c5736595cee4e9f61"), looks := false }, kinds := [], alts := [], laidByText := true, laidKinds := [.data, .pinned], laidTests := true, laidLooks := .later }
def WireDigitsUptoCardSaid : Prop := Claim7.holds Tryd.pinned (.plain (OpenSpec.upto wireDigitsSpec)) wireDigitsUptoCard

/-- THE SECOND FORM's CARD OF 'commonslaw1.WireReads'. -/
def wireReadsUptoCard : Claim7 := { stood := { row := wireReadsUptoRow, standIns := [], harness := (true, "a8933e64a96acf90f2584c9f1fb11523b3ca697f278aae7c5736595cee4e9f61"), looks := false }, kinds := [], alts := [], laidByText := true, laidKinds := [.data, .pinned], laidTests := true, laidLooks := .later }
def WireReadsUptoCardSaid : Prop := Claim7.holds Tryd.pinned (.plain (OpenSpec.upto wireReadsSpec)) wireReadsUptoCard

/-- THE SECOND FORM's CARD OF 'commonslaw1.WireFirst'. -/
def wireFirstUptoCard : Claim7 := { stood := { row := wireFirstUptoRow, standIns := [], harness := (true, "a8933e64a96acf90f2584c9f1fb11523b3ca697f278aae7c5736595cee4e9f61"), looks := false }, kinds := [], alts := [], laidByText := true, laidKinds := [.data, .pinned], laidTests := true, laidLooks := .later }
def WireFirstUptoCardSaid : Prop := Claim7.holds Tryd.pinned (.plain (OpenSpec.upto wireFirstSpec)) wireFirstUptoCard

/-- THE SECOND FORM's CARD OF 'commonslaw1.WireBack'. -/
def wireBackUptoCard : Claim7 := { stood := { row := wireBackUptoRow, standIns := [], harness := (true, "a8933e64a96acf90f2584c9f1fb11523b3ca697f278aae7c5736595cee4e9f61"), looks := false }, kinds := [], alts := [], laidByText := true, laidKinds := [.data, .pinned], laidTests := true, laidLooks := .later }
def WireBackUptoCardSaid : Prop := Claim7.holds Tryd.pinned (.plain (OpenSpec.upto wireBackSpec)) wireBackUptoCard

/-- THE SECOND FORM's CARD OF 'commonslaw1.WireSkips'. -/
def wireSkipsUptoCard : Claim7 := { stood := { row := wireSkipsUptoRow, standIns := [], harness := (true, "a8933e64a96acf90f2584c9f1fb11523b3ca697f278aae7c5736595cee4e9f61"), looks := false }, kinds := [], alts := [], laidByText := true, laidKinds := [.data, .pinned], laidTests := true, laidLooks := .later }
def WireSkipsUptoCardSaid : Prop := Claim7.holds Tryd.pinned (.plain (OpenSpec.upto wireSkipsSpec)) wireSkipsUptoCard

/-- THE SECOND FORM's CARD OF 'commonslaw1.WireNone'. -/
def wireNoneUptoCard : Claim7 := { stood := { row := wireNoneUptoRow, standIns := [], harness := (true, "a8933e64a96acf90f2584c9f1fb11523b3ca697f278aae7c5736595cee4e9f61"), looks := false }, kinds := [], alts := [], laidByText := true, laidKinds := [.data, .pinned], laidTests := true, laidLooks := .later }
def WireNoneUptoCardSaid : Prop := Claim7.holds Tryd.pinned (.plain (OpenSpec.upto wireNoneSpec)) wireNoneUptoCard

/-- THE SECOND FORM's CARD OF 'commonslaw15.FrameTells'. -/
def frameTellsUptoCard : Claim7 := { stood := { row := frameTellsUptoRow, standIns := [], harness := (true, "a8933e64a96acf90f2584c9f1fb11523b3ca697f278aae7c5736595cee4e9f61"), looks := false }, kinds := [], alts := [], laidByText := true, laidKinds := [.data, .pinned], laidTests := true, laidLooks := .later }
def FrameTellsUptoCardSaid : Prop := Claim7.holds Tryd.pinned (.plain (OpenSpec.upto frameTellsSpec)) frameTellsUptoCard

/-- THE SECOND FORM's CARD OF 'commonslaw15.FrameBack'. -/
def frameBackUptoCard : Claim7 := { stood := { row := frameBackUptoRow, standIns := [], harness := (true, "a8933e64a96acf90f2584c9f1fb11523b3ca697f278aae7c5736595cee4e9f61"), looks := false }, kinds := [], alts := [], laidByText := true, laidKinds := [.data, .pinned], laidTests := true, laidLooks := .later }
def FrameBackUptoCardSaid : Prop := Claim7.holds Tryd.pinned (.plain (OpenSpec.upto frameBackSpec)) frameBackUptoCard
end Rows
end Go.Proofs.YtpbmclaglkcmoaaDoor
