/-
  DERIVED. GIVEN WITH THE SEED: THE CARDS: each row of YtoadhpnmbchgcaaGreatDoorRows.lean that lists a variable, with what it lists TIED to the program's text (the seventh form; the later family's looks); each row that meets fmt, with fmt's text TOLD by the authors' own Lean function (tested against real Go, not proved from fmt's source: count such statements apart). THE CARD IS WHAT COUNTS. Prove the row's statement (the work); the ties are given (YtoadhpnmbchgcaaGreatDoorTie.lean); close each card by the builder's one call (the guide's Derived/Test/ToyasCard.lean, 'card_holds'). Laid BY PROGRAM, IN A SANDBOX (cutbox-door.mjs). By AI agents, Wed Nov 11 2026. No macro, syntax, notation, axiom, sorry.
-/
import Derived.Test.YtoadhpnmbchgcaaGreatDoorRows
import GoSem.ClaimSeven
namespace Go.Proofs.YtoadhpnmbchgcaaGreatDoor
namespace Rows

/-- THE TIED CARD OF 'dialtonelaw43.CarrierDerivesMatchReference'. -/
def carrierDerivesMatchReferenceCard : Claim7 := { stood := { row := carrierDerivesMatchReferenceRow, standIns := [], harness := (true, "21f3814bf06bc543d639deedc37b901e81965e1079606b1b8e75edcb3f239745"), looks := true }, kinds := [], alts := [], laidByText := true, laidKinds := [.data, .data, .sentinel, .pinned], laidTests := true, laidLooks := .later }
def CarrierDerivesMatchReferenceCardSaid : Prop := Claim7.holds Tryz.pinned (.plain (OpenSpec.ofChange carrierDerivesMatchReferenceSpec)) carrierDerivesMatchReferenceCard

/-- THE TIED CARD OF 'dialtonelaw43.CarrierOrder'. -/
def carrierOrderCard : Claim7 := { stood := { row := carrierOrderRow, standIns := [], harness := (true, "21f3814bf06bc543d639deedc37b901e81965e1079606b1b8e75edcb3f239745"), looks := true }, kinds := [], alts := [], laidByText := true, laidKinds := [.data, .data, .sentinel, .pinned], laidTests := true, laidLooks := .later }
def CarrierOrderCardSaid : Prop := Claim7.holds Tryz.pinned (.plain (OpenSpec.ofChange carrierOrderSpec)) carrierOrderCard

/-- THE TIED CARD OF 'dialtonelaw43.CarrierLies'. -/
def carrierLiesCard : Claim7 := { stood := { row := carrierLiesRow, standIns := [], harness := (true, "21f3814bf06bc543d639deedc37b901e81965e1079606b1b8e75edcb3f239745"), looks := true }, kinds := [], alts := [], laidByText := true, laidKinds := [.data, .data, .sentinel, .pinned], laidTests := true, laidLooks := .later }
def CarrierLiesCardSaid : Prop := Claim7.holds Tryz.pinned (.plain (OpenSpec.ofChange carrierLiesSpec)) carrierLiesCard

/-- THE TIED CARD OF 'dialtonelaw43.CarrierReads'. -/
def carrierReadsCard : Claim7 := { stood := { row := carrierReadsRow, standIns := [], harness := (true, "21f3814bf06bc543d639deedc37b901e81965e1079606b1b8e75edcb3f239745"), looks := true }, kinds := [], alts := [], laidByText := true, laidKinds := [.data, .data, .sentinel, .pinned], laidTests := true, laidLooks := .later }
def CarrierReadsCardSaid : Prop := Claim7.holds Tryz.pinned (.plain (OpenSpec.ofChange carrierReadsSpec)) carrierReadsCard

/-- THE TIED CARD OF 'dialtonelaw43.CarrierMatchesReference'. -/
def carrierMatchesReferenceCard : Claim7 := { stood := { row := carrierMatchesReferenceRow, standIns := [], harness := (true, "21f3814bf06bc543d639deedc37b901e81965e1079606b1b8e75edcb3f239745"), looks := true }, kinds := [], alts := [], laidByText := true, laidKinds := [.data, .data, .sentinel, .pinned], laidTests := true, laidLooks := .later }
def CarrierMatchesReferenceCardSaid : Prop := Claim7.holds Tryz.pinned (.plain (OpenSpec.ofChange carrierMatchesReferenceSpec)) carrierMatchesReferenceCard

/-- THE TIED CARD OF 'dialtonelaw43.CarrierLearns'. -/
def carrierLearnsCard : Claim7 := { stood := { row := carrierLearnsRow, standIns := [], harness := (true, "21f3814bf06bc543d639deedc37b901e81965e1079606b1b8e75edcb3f239745"), looks := true }, kinds := [], alts := [], laidByText := true, laidKinds := [.data, .data, .sentinel, .pinned], laidTests := true, laidLooks := .later }
def CarrierLearnsCardSaid : Prop := Claim7.holds Tryz.pinned (.plain (OpenSpec.ofChange carrierLearnsSpec)) carrierLearnsCard

/-- THE TIED CARD OF 'dialtonelaw43.CarrierReopens'. -/
def carrierReopensCard : Claim7 := { stood := { row := carrierReopensRow, standIns := [], harness := (true, "21f3814bf06bc543d639deedc37b901e81965e1079606b1b8e75edcb3f239745"), looks := true }, kinds := [], alts := [], laidByText := true, laidKinds := [.data, .data, .sentinel, .pinned], laidTests := true, laidLooks := .later }
def CarrierReopensCardSaid : Prop := Claim7.holds Tryz.pinned (.plain (OpenSpec.ofChange carrierReopensSpec)) carrierReopensCard

/-- THE TIED CARD OF 'dialtonelaw43.CarrierHolds'. -/
def carrierHoldsCard : Claim7 := { stood := { row := carrierHoldsRow, standIns := [], harness := (true, "21f3814bf06bc543d639deedc37b901e81965e1079606b1b8e75edcb3f239745"), looks := true }, kinds := [], alts := [], laidByText := true, laidKinds := [.data, .data, .sentinel, .pinned], laidTests := true, laidLooks := .later }
def CarrierHoldsCardSaid : Prop := Claim7.holds Tryz.pinned (.plain (OpenSpec.ofChange carrierHoldsSpec)) carrierHoldsCard

/-- THE TIED CARD OF 'dialtonelaw43.CarrierOnce'. -/
def carrierOnceCard : Claim7 := { stood := { row := carrierOnceRow, standIns := [], harness := (true, "21f3814bf06bc543d639deedc37b901e81965e1079606b1b8e75edcb3f239745"), looks := true }, kinds := [], alts := [], laidByText := true, laidKinds := [.data, .data, .sentinel, .pinned], laidTests := true, laidLooks := .later }
def CarrierOnceCardSaid : Prop := Claim7.holds Tryz.pinned (.plain (OpenSpec.ofChange carrierOnceSpec)) carrierOnceCard

/-- THE TIED CARD OF 'dialtonelaw43.CarrierCrashes'. -/
def carrierCrashesCard : Claim7 := { stood := { row := carrierCrashesRow, standIns := [], harness := (true, "21f3814bf06bc543d639deedc37b901e81965e1079606b1b8e75edcb3f239745"), looks := true }, kinds := [], alts := [], laidByText := true, laidKinds := [.data, .data, .sentinel, .pinned], laidTests := true, laidLooks := .later }
def CarrierCrashesCardSaid : Prop := Claim7.holds Tryz.pinned (.plain (OpenSpec.ofChange carrierCrashesSpec)) carrierCrashesCard

/-- THE SECOND FORM's CARD OF 'dialtonelaw43.CarrierDerivesMatchReference'. -/
def carrierDerivesMatchReferenceUptoCard : Claim7 := { stood := { row := carrierDerivesMatchReferenceUptoRow, standIns := [], harness := (true, "21f3814bf06bc543d639deedc37b901e81965e1079606b1b8e75edcb3f239745"), looks := true }, kinds := [], alts := [], laidByText := true, laidKinds := [.data, .data, .sentinel, .pinned], laidTests := true, laidLooks := .later }
def CarrierDerivesMatchReferenceUptoCardSaid : Prop := Claim7.holds Tryz.pinned (.plain (OpenSpec.upto carrierDerivesMatchReferenceSpec)) carrierDerivesMatchReferenceUptoCard

/-- THE SECOND FORM's CARD OF 'dialtonelaw43.CarrierOrder'. -/
def carrierOrderUptoCard : Claim7 := { stood := { row := carrierOrderUptoRow, standIns := [], harness := (true, "21f3814bf06bc543d639deedc37b901e81965e1079606b1b8e75edcb3f239745"), looks := true }, kinds := [], alts := [], laidByText := true, laidKinds := [.data, .data, .sentinel, .pinned], laidTests := true, laidLooks := .later }
def CarrierOrderUptoCardSaid : Prop := Claim7.holds Tryz.pinned (.plain (OpenSpec.upto carrierOrderSpec)) carrierOrderUptoCard

/-- THE SECOND FORM's CARD OF 'dialtonelaw43.CarrierLies'. -/
def carrierLiesUptoCard : Claim7 := { stood := { row := carrierLiesUptoRow, standIns := [], harness := (true, "21f3814bf06bc543d639deedc37b901e81965e1079606b1b8e75edcb3f239745"), looks := true }, kinds := [], alts := [], laidByText := true, laidKinds := [.data, .data, .sentinel, .pinned], laidTests := true, laidLooks := .later }
def CarrierLiesUptoCardSaid : Prop := Claim7.holds Tryz.pinned (.plain (OpenSpec.upto carrierLiesSpec)) carrierLiesUptoCard

/-- THE SECOND FORM's CARD OF 'dialtonelaw43.CarrierReads'. -/
def carrierReadsUptoCard : Claim7 := { stood := { row := carrierReadsUptoRow, standIns := [], harness := (true, "21f3814bf06bc543d639deedc37b901e81965e1079606b1b8e75edcb3f239745"), looks := true }, kinds := [], alts := [], laidByText := true, laidKinds := [.data, .data, .sentinel, .pinned], laidTests := true, laidLooks := .later }
def CarrierReadsUptoCardSaid : Prop := Claim7.holds Tryz.pinned (.plain (OpenSpec.upto carrierReadsSpec)) carrierReadsUptoCard

/-- THE SECOND FORM's CARD OF 'dialtonelaw43.CarrierMatchesReference'. -/
def carrierMatchesReferenceUptoCard : Claim7 := { stood := { row := carrierMatchesReferenceUptoRow, standIns := [], harness := (true, "21f3814bf06bc543d639deedc37b901e81965e1079606b1b8e75edcb3f239745"), looks := true }, kinds := [], alts := [], laidByText := true, laidKinds := [.data, .data, .sentinel, .pinned], laidTests := true, laidLooks := .later }
def CarrierMatchesReferenceUptoCardSaid : Prop := Claim7.holds Tryz.pinned (.plain (OpenSpec.upto carrierMatchesReferenceSpec)) carrierMatchesReferenceUptoCard

/-- THE SECOND FORM's CARD OF 'dialtonelaw43.CarrierLearns'. -/
def carrierLearnsUptoCard : Claim7 := { stood := { row := carrierLearnsUptoRow, standIns := [], harness := (true, "21f3814bf06bc543d639deedc37b901e81965e1079606b1b8e75edcb3f239745"), looks := true }, kinds := [], alts := [], laidByText := true, laidKinds := [.data, .data, .sentinel, .pinned], laidTests := true, laidLooks := .later }
def CarrierLearnsUptoCardSaid : Prop := Claim7.holds Tryz.pinned (.plain (OpenSpec.upto carrierLearnsSpec)) carrierLearnsUptoCard

/-- THE SECOND FORM's CARD OF 'dialtonelaw43.CarrierReopens'. -/
def carrierReopensUptoCard : Claim7 := { stood := { row := carrierReopensUptoRow, standIns := [], harness := (true, "21f3814bf06bc543d639deedc37b901e81965e1079606b1b8e75edcb3f239745"), looks := true }, kinds := [], alts := [], laidByText := true, laidKinds := [.data, .data, .sentinel, .pinned], laidTests := true, laidLooks := .later }
def CarrierReopensUptoCardSaid : Prop := Claim7.holds Tryz.pinned (.plain (OpenSpec.upto carrierReopensSpec)) carrierReopensUptoCard

/-- THE SECOND FORM's CARD OF 'dialtonelaw43.CarrierHolds'. -/
def carrierHoldsUptoCard : Claim7 := { stood := { row := carrierHoldsUptoRow, standIns := [], harness := (true, "21f3814bf06bc543d639deedc37b901e81965e1079606b1b8e75edcb3f239745"), looks := true }, kinds := [], alts := [], laidByText := true, laidKinds := [.data, .data, .sentinel, .pinned], laidTests := true, laidLooks := .later }
def CarrierHoldsUptoCardSaid : Prop := Claim7.holds Tryz.pinned (.plain (OpenSpec.upto carrierHoldsSpec)) carrierHoldsUptoCard

/-- THE SECOND FORM's CARD OF 'dialtonelaw43.CarrierOnce'. -/
def carrierOnceUptoCard : Claim7 := { stood := { row := carrierOnceUptoRow, standIns := [], harness := (true, "21f3814bf06bc543d639deedc37b901e81965e1079606b1b8e75edcb3f239745"), looks := true }, kinds := [], alts := [], laidByText := true, laidKinds := [.data, .data, .sentinel, .pinned], laidTests := true, laidLooks := .later }
def CarrierOnceUptoCardSaid : Prop := Claim7.holds Tryz.pinned (.plain (OpenSpec.upto carrierOnceSpec)) carrierOnceUptoCard

/-- THE SECOND FORM's CARD OF 'dialtonelaw43.CarrierCrashes'. -/
def carrierCrashesUptoCard : Claim7 := { stood := { row := carrierCrashesUptoRow, standIns := [], harness := (true, "21f3814bf06bc543d639deedc37b901e81965e1079606b1b8e75edcb3f239745"), looks := true }, kinds := [], alts := [], laidByText := true, laidKinds := [.data, .data, .sentinel, .pinned], laidTests := true, laidLooks := .later }
def CarrierCrashesUptoCardSaid : Prop := Claim7.holds Tryz.pinned (.plain (OpenSpec.upto carrierCrashesSpec)) carrierCrashesUptoCard
end Rows
end Go.Proofs.YtoadhpnmbchgcaaGreatDoor
