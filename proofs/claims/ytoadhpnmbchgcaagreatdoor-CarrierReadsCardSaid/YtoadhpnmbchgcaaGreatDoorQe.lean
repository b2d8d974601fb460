/- CarrierReads: closed facts. -/
import Derived.Test.YtoadhpnmbchgcaaGreatDoorCards
import Derived.Stop.Joined
namespace Go.Proofs.YtoadhpnmbchgcaaGreatDoor
open Go

theorem named_reads : Tryz.pinned.checked.prog.funcNamed Rows.carrierReadsRow.func = some 6 := by kernel_rfl
theorem inst_reads : Func.isInstance Tryz.pinned.checked.prog Tryz.f6 Rows.carrierReadsRow.origin Rows.carrierReadsRow.targs := of_decide_eq_true (by kernel_rfl)
theorem wrap_reads : Func.isWrapper Tryz.pinned.checked.prog Tryz.f6 Rows.carrierReadsRow.wrapper Rows.carrierReadsRow.mainSum := by unfold Func.isWrapper; first | (rw [if_pos (by decide +kernel)]; kernel_rfl) | (rw [if_neg (by decide +kernel)]; exact ⟨rfl, rfl⟩)
end Go.Proofs.YtoadhpnmbchgcaaGreatDoor
