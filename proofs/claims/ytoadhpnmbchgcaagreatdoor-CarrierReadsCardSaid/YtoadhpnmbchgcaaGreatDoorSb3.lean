/- Pieces of 'sane'. -/
import Derived.Test.YtoadhpnmbchgcaaGreatDoorSa
namespace Go.HI
open Go Go.Proofs
theorem pc12 : pieceB 3000 (part13 12 1) (frameOf p12_f 271 [3]) (storeOf p12_b p12_m p12_n [3]) p13_f 271 [3] p13_b p13_m p13_n [3] = true := by kernel_rfl
end Go.HI
