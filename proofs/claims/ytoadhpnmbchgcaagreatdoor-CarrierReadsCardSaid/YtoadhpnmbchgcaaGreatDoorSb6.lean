/- Pieces of 'sane'. -/
import Derived.Test.YtoadhpnmbchgcaaGreatDoorSa
namespace Go.HI
open Go Go.Proofs
theorem pc18 : pieceB 3000 (part13 18 1) (frameOf p18_f 271 [3]) (storeOf p18_b p18_m p18_n [3]) p19_f 271 [3] p19_b p19_m p19_n [3] = true := by kernel_rfl
end Go.HI
