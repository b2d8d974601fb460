/- Pieces of 'sane'. -/
import Derived.Test.YtoadhpnmbchgcaaGreatDoorSa
namespace Go.HI
open Go Go.Proofs
theorem pc17 : pieceB 3000 (part13 17 1) (frameOf p17_f 271 [3]) (storeOf p17_b p17_m p17_n [3]) p18_f 271 [3] p18_b p18_m p18_n [3] = true := by kernel_rfl
end Go.HI
