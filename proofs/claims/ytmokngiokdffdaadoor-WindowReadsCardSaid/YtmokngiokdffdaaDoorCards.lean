/-
  DERIVED. GIVEN WITH THE SEED: THE CARDS: each row of YtmokngiokdffdaaDoorRows.lean that lists a variable, with what it lists TIED to the program's text (the seventh form; the later family's looks); each row that meets fmt, with fmt's text TOLD by the authors' own Lean function (tested against real Go, not proved from fmt's source: count such statements apart). THE CARD IS WHAT COUNTS. Prove the row's statement (the work); the ties are given (YtmokngiokdffdaaDoorTie.lean); close each card by the builder's one call (the guide's Derived/Test/ToyasCard.lean, 'card_holds'). Laid BY PROGRAM, IN A SANDBOX (cutbox-door.mjs). By AI agents, Wed Nov 11 2026. No macro, syntax, notation, axiom, sorry.
-/
import Derived.Test.YtmokngiokdffdaaDoorRows
import GoSem.ClaimSeven
namespace Go.Proofs.YtmokngiokdffdaaDoor
namespace Rows

/-- THE TIED CARD OF 'raddlelaw08.MaskGoes'. -/
def maskGoesCard : Claim7 := { stood := { row := maskGoesRow, standIns := [], harness := (true, "1c94ec559e1da5fd4c04e24ba1dd1013d623acc25d39d5c1d93910f566873bce"), looks := false }, kinds := [], alts := [], laidByText := true, laidKinds := [.data], laidTests := true, laidLooks := .later }
def MaskGoesCardSaid : Prop := Claim7.holds Tryd.pinned (.plain (OpenSpec.ofChange maskGoesSpec)) maskGoesCard

/-- THE TIED CARD OF 'raddlelaw08.MaskBack'. -/
def maskBackCard : Claim7 := { stood := { row := maskBackRow, standIns := [], harness := (true, "1c94ec559e1da5fd4c04e24ba1dd1013d623acc25d39d5c1d93910f566873bce"), looks := false }, kinds := [], alts := [], laidByText := true, laidKinds := [.data], laidTests := true, laidLooks := .later }
def MaskBackCardSaid : Prop := Claim7.holds Tryd.pinned (.plain (OpenSpec.ofChange maskBackSpec)) maskBackCard

/-- THE TIED CARD OF 'raddlelaw08.MaskDown'. -/
def maskDownCard : Claim7 := { stood := { row := maskDownRow, standIns := [], harness := (true, "1c94ec559e1da5fd4c04e24ba1dd1013d623acc25d39d5c1d93910f566873bce"), looks := false }, kinds := [], alts := [], laidByText := true, laidKinds := [.data], laidTests := true, laidLooks := .later }
def MaskDownCardSaid : Prop := Claim7.holds Tryd.pinned (.plain (OpenSpec.ofChange maskDownSpec)) maskDownCard

/-- THE TIED CARD OF 'raddlelaw09.WindowOrder'. -/
def windowOrderCard : Claim7 := { stood := { row := windowOrderRow, standIns := [], harness := (true, "1c94ec559e1da5fd4c04e24ba1dd1013d623acc25d39d5c1d93910f566873bce"), looks := false }, kinds := [], alts := [], laidByText := true, laidKinds := [.data], laidTests := true, laidLooks := .later }
def WindowOrderCardSaid : Prop := Claim7.holds Tryd.pinned (.plain (OpenSpec.ofChange windowOrderSpec)) windowOrderCard

/-- THE TIED CARD OF 'raddlelaw09.WindowTells'. -/
def windowTellsCard : Claim7 := { stood := { row := windowTellsRow, standIns := [], harness := (true, "1c94ec559e1da5fd4c04e24ba1dd1013d623acc25d39d5c1d93910f566873bce"), looks := false }, kinds := [], alts := [], laidByText := true, laidKinds := [.data], laidTests := true, laidLooks := .later }
def WindowTellsCardSaid : Prop := Claim7.holds Tryd.pinned (.plain (OpenSpec.ofChange windowTellsSpec)) windowTellsCard

/-- THE TIED CARD OF 'raddlelaw09.WindowOnce'. -/
def windowOnceCard : Claim7 := { stood := { row := windowOnceRow, standIns := [], harness := (true, "1c94ec559e1da5fd4c04e24ba1dd1013d623acc25d39d5c1d93910f566873bce"), looks := false }, kinds := [], alts := [], laidByText := true, laidKinds := [.data], laidTests := true, laidLooks := .later }
def WindowOnceCardSaid : Prop := Claim7.holds Tryd.pinned (.plain (OpenSpec.ofChange windowOnceSpec)) windowOnceCard

/-- THE TIED CARD OF 'raddlelaw09.WindowReads'. -/
def windowReadsCard : Claim7 := { stood := { row := windowReadsRow, standIns := [], harness := (true, "1c94ec559e1da5fd4c04e24ba1dd1013d623acc25d39d5c1d93910f566873bce"), looks := false }, kinds := [], alts := [], laidByText := true, laidKinds := [.data], laidTests := true, laidLooks := .later }
def WindowReadsCardSaid : Prop := Claim7.holds Tryd.pinned (.plain (OpenSpec.ofChange windowReadsSpec)) windowReadsCard

/-- THE TIED CARD OF 'raddlelaw09.WindowBack'. -/
def windowBackCard : Claim7 := { stood := { row := windowBackRow, standIns := [], harness := (true, "1c94ec559e1da5fd4c04e24ba1dd1013d623acc25d39d5c1d93910f566873bce"), looks := false }, kinds := [], alts := [], laidByText := true, laidKinds := [.data], laidTests := true, laidLooks := .later }
def WindowBackCardSaid : Prop := Claim7.holds Tryd.pinned (.plain (OpenSpec.ofChange windowBackSpec)) windowBackCard

/-- THE SECOND FORM's CARD OF 'raddlelaw08.MaskGoes'. -/
def maskGoesUptoCard : Claim7 := { stood := { row := maskGoesUptoRow, standIns := [], harness := (true, "1c94ec559e1da5fd4c04e24ba1dd1013d623acc25d39d5c1d93910f566873bce"), looks := false }, kinds := [], alts := [], laidByText := true, laidKinds := [.data], laidTests := true, laidLooks := .later }
def MaskGoesUptoCardSaid : Prop := Claim7.holds Tryd.pinned (.plain (OpenSpec.upto maskGoesSpec)) maskGoesUptoCard

/-- THE SECOND FORM's CARD OF 'raddlelaw08.MaskBack'. -/
def maskBackUptoCard : Claim7 := { stood := { row := maskBackUptoRow, standIns := [], harness := (true, "1c94ec559e1da5fd4c04e24ba1dd1013d623acc25d39d5c1d93910f566873bce"), looks := false }, kinds := [], alts := [], laidByText := true, laidKinds := [.data], laidTests := true, laidLooks := .later }
def MaskBackUptoCardSaid : Prop := Claim7.holds Tryd.pinned (.plain (OpenSpec.upto maskBackSpec)) maskBackUptoCard

/-- THE SECOND FORM's CARD OF 'raddlelaw08.MaskDown'. -/
def maskDownUptoCard : Claim7 := { stood := { row := maskDownUptoRow, standIns := [], harness := (true, "1c94ec559e1da5fd4c04e24ba1dd1013d623acc25d39d5c1d93910f566873bce"), looks := false }, kinds := [], alts := [], laidByText := true, laidKinds := [.data], laidTests := true, laidLooks := .later }
def MaskDownUptoCardSaid : Prop := Claim7.holds Tryd.pinned (.plain (OpenSpec.upto maskDownSpec)) maskDownUptoCard

/-- THE SECOND FORM's CARD OF 'raddlelaw09.WindowOrder'. -/
def windowOrderUptoCard : Claim7 := { stood := { row := windowOrderUptoRow, standIns := [], harness := (true, "1c94ec559e1da5fd4c04e24ba1dd1013d623acc25d39d5c1d93910f566873bce"), looks := false }, kinds := [], alts := [], laidByText := true, laidKinds := [.data], laidTests := true, laidLooks := .later }
def WindowOrderUptoCardSaid : Prop := Claim7.holds Tryd.pinned (.plain (OpenSpec.upto windowOrderSpec)) windowOrderUptoCard

/-- THE SECOND FORM's CARD OF 'raddlelaw09.WindowTells'. -/
def windowTellsUptoCard : Claim7 := { stood := { row := windowTellsUptoRow, standIns := [], harness := (true, "1c94ec559e1da5fd4c04e24ba1dd1013d623acc25d39d5c1d93910f566873bce"), looks := false }, kinds := [], alts := [], laidByText := true, laidKinds := [.data], laidTests := true, laidLooks := .later }
def WindowTellsUptoCardSaid : Prop := Claim7.holds Tryd.pinned (.plain (OpenSpec.upto windowTellsSpec)) windowTellsUptoCard

/-- THE SECOND FORM's CARD OF 'raddlelaw09.WindowOnce'. -/
def windowOnceUptoCard : Claim7 := { stood := { row := windowOnceUptoRow, standIns := [], harness := (true, "1c94ec559e1da5fd4c04e24ba1dd1013d623acc25d39d5c1d93910f566873bce"), looks := false }, kinds := [], alts := [], laidByText := true, laidKinds := [.data], laidTests := true, laidLooks := .later }
def WindowOnceUptoCardSaid : Prop := Claim7.holds Tryd.pinned (.plain (OpenSpec.upto windowOnceSpec)) windowOnceUptoCard

/-- THE SECOND FORM's CARD OF 'raddlelaw09.WindowReads'. -/
def windowReadsUptoCard : Claim7 := { stood := { row := windowReadsUptoRow, standIns := [], harness := (true, "1c94ec559e1da5fd4c04e24ba1dd1013d623acc25d39d5c1d93910f566873bce"), looks := false }, kinds := [], alts := [], laidByText := true, laidKinds := [.data], laidTests := true, laidLooks := .later }
def WindowReadsUptoCardSaid : Prop := Claim7.holds Tryd.pinned (.plain (OpenSpec.upto windowReadsSpec)) windowReadsUptoCard

/-- THE SECOND FORM's CARD OF 'raddlelaw09.WindowBack'. -/
def windowBackUptoCard : Claim7 := { stood := { row := windowBackUptoRow, standIns := [], harness := (true, "1c94ec559e1da5fd4c04e24ba1dd1013d623acc25d39d5c1d93910f566873bce"), looks := false }, kinds := [], alts := [], laidByText := true, laidKinds := [.data], laidTests := true, laidLooks := .later }
def WindowBackUptoCardSaid : Prop := Claim7.holds Tryd.pinned (.plain (OpenSpec.upto windowBackSpec)) windowBackUptoCard
end Rows
end Go.Proofs.YtmokngiokdffdaaDoor
