/- Pieces of 'sane'. -/
import Derived.Test.YtoadhpnmbchgcaaGreatDoorSa
namespace Go.HI
open Go Go.Proofs
theorem pc7 : pieceB 3000 (part13 7 1) (frameOf p7_f 271 [3]) (storeOf p7_b p7_m p7_n [3]) p8_f 271 [3] p8_b p8_m p8_n [3] = true := by kernel_rfl
end Go.HI
