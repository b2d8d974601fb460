/- CarrierReads: closed facts of the row. -/
import Derived.Test.YtoadhpnmbchgcaaGreatDoorCards
import Derived.Stop.Joined
namespace Go.Proofs.YtoadhpnmbchgcaaGreatDoor
open Go
theorem k1 : laidOutB Tryz.pinned.checked.prog = true := by kernel_rfl
theorem k2 : mapsRowed Tryz.pinned.checked.prog = true := by kernel_rfl
theorem k8 : (Tryz.pinned.checked.prog.stops == []) = true := by kernel_rfl
theorem k9 : (Tryz.pinned.checked.prog.stopKnobs == []) = true := by kernel_rfl
theorem k30 : Tryz.pinned.checked.prog.stopsHeard = true := by kernel_rfl
theorem k31 : Tryz.pinned.checked.prog.mayEnter = true := by kernel_rfl
theorem r3 : Rows.carrierReadsRow.wf (OpenSpec.ofChange Rows.carrierReadsSpec) = true := by kernel_rfl
theorem r4 : Tryz.f6.params.all (Tryz.pinned.checked.prog.readableRec ·) = true := by kernel_rfl
theorem r5 : namedTie Tryz.pinned.checked.prog Rows.carrierReadsRow.named Rows.carrierReadsSpec.vars = true := by kernel_rfl
theorem r10 : (Rows.carrierReadsRow.inPlace == Tryz.pinned.checked.prog.inPlace 6) = true := by kernel_rfl
theorem r11 : (Rows.carrierReadsRow.unfollowed == Tryz.pinned.checked.prog.unfollowed 6) = true := by kernel_rfl
theorem r12 : (Rows.carrierReadsRow.recurses == Tryz.pinned.checked.prog.recurses 6) = true := by kernel_rfl
theorem r13 : (Rows.carrierReadsRow.named == Tryz.pinned.checked.prog.varsNamed 6) = true := by kernel_rfl
theorem r14 : (Rows.carrierReadsRow.maps == (Tryz.f6.params.toList ++ Rows.carrierReadsSpec.plain.varTypes Tryz.pinned.checked.prog).any (Tryz.pinned.checked.prog.mapsRec ·)) = true := by kernel_rfl
theorem r15 : (Rows.carrierReadsRow.ifaces == (Tryz.f6.params.toList ++ Rows.carrierReadsSpec.plain.varTypes Tryz.pinned.checked.prog).any (Tryz.pinned.checked.prog.ifacesRec ·)) = true := by kernel_rfl
theorem r16 : (Rows.carrierReadsRow.mapsOut == Tryz.pinned.checked.prog.mapsAmong Tryz.f6.resultTypes.toList) = true := by kernel_rfl
theorem r17 : (Rows.carrierReadsRow.loops == (Tryz.f6.params.toList ++ Rows.carrierReadsSpec.plain.varTypes Tryz.pinned.checked.prog).any (Tryz.pinned.checked.prog.loopsFrom ·)) = true := by kernel_rfl
theorem r18 : (Rows.carrierReadsRow.wideKeys == (Tryz.f6.params.toList ++ Rows.carrierReadsSpec.plain.varTypes Tryz.pinned.checked.prog ++ Tryz.f6.resultTypes.toList).any (Tryz.pinned.checked.prog.wideKeysFrom ·)) = true := by kernel_rfl
theorem r19 : Rows.carrierReadsSpec.vars.all (Tryz.pinned.checked.prog.varReadable ·) = true := by kernel_rfl
theorem r20 : Tryz.f6.resultTypes.all (fun t => Tryz.pinned.checked.prog.readableRec t && decide (t < Tryz.pinned.checked.prog.types.size)) = true := by kernel_rfl
theorem r21 : (Rows.carrierReadsRow.ifacesOut == Tryz.f6.resultTypes.toList.any (Tryz.pinned.checked.prog.ifacesRec ·)) = true := by kernel_rfl
theorem r22 : (Rows.carrierReadsRow.loopsOut == Tryz.f6.resultTypes.toList.any (Tryz.pinned.checked.prog.loopsFrom ·)) = true := by kernel_rfl
theorem r23 : (Rows.carrierReadsRow.plainKeys == Tryz.pinned.checked.prog.plainKeys) = true := by kernel_rfl
theorem r32 : (Rows.carrierReadsRow.lifted == Tryz.pinned.checked.prog.liftsFinal) = true := by kernel_rfl
theorem r33 : (Tryz.pinned.checked.prog.make == some Rows.carrierReadsRow.make) = true := by kernel_rfl
theorem r34 : (Rows.carrierReadsRow.kinds == (if Rows.carrierReadsRow.domain.isEmpty then [] else Tryz.f6.params.toList.map fun t => match Tryz.pinned.checked.prog.underlying t with | some (.int k) => some k | _ => none)) = true := by kernel_rfl
theorem r35 : (Rows.carrierReadsRow.pinned == Rows.carrierReadsRow.pinnedBy) = true := by kernel_rfl
theorem r36 : (Rows.carrierReadsRow.veiled == (Tryz.f6.params.toList ++ Rows.carrierReadsSpec.plain.varTypes Tryz.pinned.checked.prog ++ Tryz.f6.resultTypes.toList).any (Tryz.pinned.checked.prog.veiledRec ·)) = true := by kernel_rfl
theorem r37 : Rows.carrierReadsRow.veiledFits Tryz.pinned.checked.prog Tryz.f6.params.toList (Tryz.f6.params.toList ++ Rows.carrierReadsSpec.plain.varTypes Tryz.pinned.checked.prog ++ Tryz.f6.resultTypes.toList) = true := by kernel_rfl

end Go.Proofs.YtoadhpnmbchgcaaGreatDoor
