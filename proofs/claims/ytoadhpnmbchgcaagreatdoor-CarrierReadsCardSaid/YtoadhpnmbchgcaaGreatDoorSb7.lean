/- Pieces of 'sane'. -/
import Derived.Test.YtoadhpnmbchgcaaGreatDoorSa
namespace Go.HI
open Go Go.Proofs
theorem pc19 : pieceB 3000 (part13 19 1) (frameOf p19_f 271 [3]) (storeOf p19_b p19_m p19_n [3]) p20_f 271 [3] p20_b p20_m p20_n [3] = true := by kernel_rfl
theorem pc20 : pieceB 3000 (part13 20 1) (frameOf p20_f 271 [3]) (storeOf p20_b p20_m p20_n [3]) p21_f 271 [3] p21_b p21_m p21_n [3] = true := by kernel_rfl
end Go.HI
