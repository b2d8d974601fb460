/- Pieces of 'sane'. -/
import Derived.Test.YtoadhpnmbchgcaaGreatDoorSa
namespace Go.HI
open Go Go.Proofs
theorem pc0 : pieceB 3000 (part13 0 3) (enterH 271 [3] []) σt p3_f 271 [3] p3_b p3_m p3_n [3] = true := by kernel_rfl
theorem pc3 : pieceB 3000 (part13 3 1) (frameOf p3_f 271 [3]) (storeOf p3_b p3_m p3_n [3]) p4_f 271 [3] p4_b p4_m p4_n [3] = true := by kernel_rfl
theorem pc4 : pieceB 3000 (part13 4 1) (frameOf p4_f 271 [3]) (storeOf p4_b p4_m p4_n [3]) p5_f 271 [3] p5_b p5_m p5_n [3] = true := by kernel_rfl
theorem pc5 : pieceB 3000 (part13 5 2) (frameOf p5_f 271 [3]) (storeOf p5_b p5_m p5_n [3]) p7_f 271 [3] p7_b p7_m p7_n [3] = true := by kernel_rfl
end Go.HI
