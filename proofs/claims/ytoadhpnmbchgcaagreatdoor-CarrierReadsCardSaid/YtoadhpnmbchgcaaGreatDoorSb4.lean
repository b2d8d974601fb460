/- Pieces of 'sane'. -/
import Derived.Test.YtoadhpnmbchgcaaGreatDoorSa
namespace Go.HI
open Go Go.Proofs
theorem pc13 : pieceB 3000 (part13 13 1) (frameOf p13_f 271 [3]) (storeOf p13_b p13_m p13_n [3]) p14_f 271 [3] p14_b p14_m p14_n [3] = true := by kernel_rfl
theorem pc14 : pieceB 3000 (part13 14 1) (frameOf p14_f 271 [3]) (storeOf p14_b p14_m p14_n [3]) p15_f 271 [3] p15_b p15_m p15_n [3] = true := by kernel_rfl
theorem pc15 : pieceB 3000 (part13 15 1) (frameOf p15_f 271 [3]) (storeOf p15_b p15_m p15_n [3]) p16_f 271 [3] p16_b p16_m p16_n [3] = true := by kernel_rfl
theorem pc16 : pieceB 3000 (part13 16 1) (frameOf p16_f 271 [3]) (storeOf p16_b p16_m p16_n [3]) p17_f 271 [3] p17_b p17_m p17_n [3] = true := by kernel_rfl
end Go.HI
