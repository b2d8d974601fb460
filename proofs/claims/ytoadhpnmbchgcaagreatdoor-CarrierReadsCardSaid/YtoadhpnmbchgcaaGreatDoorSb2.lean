/- Pieces of 'sane'. -/
import Derived.Test.YtoadhpnmbchgcaaGreatDoorSa
namespace Go.HI
open Go Go.Proofs
theorem pc8 : pieceB 3000 (part13 8 3) (frameOf p8_f 271 [3]) (storeOf p8_b p8_m p8_n [3]) p11_f 271 [3] p11_b p11_m p11_n [3] = true := by kernel_rfl
theorem pc11 : pieceB 3000 (part13 11 1) (frameOf p11_f 271 [3]) (storeOf p11_b p11_m p11_n [3]) p12_f 271 [3] p12_b p12_m p12_n [3] = true := by kernel_rfl
end Go.HI
