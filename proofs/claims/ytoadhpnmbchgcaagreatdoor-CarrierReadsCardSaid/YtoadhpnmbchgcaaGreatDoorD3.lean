/- dialtoneref43.Made: notices that integers determine. -/
import Derived.Test.YtoadhpnmbchgcaaGreatDoorD1
import Derived.Test.YtoadhpnmbchgcaaGreatDoorD2
import Derived.Test.YtoadhpnmbchgcaaGreatDoorSc
namespace Go.HI
open Go Go.Proofs
noncomputable section

def sums5S : SumsS := sumsOf [(56, sumPick)]
def VM : OpEvS := evalOpS Tryz.prog (fun o => match o.op with | .indexAddr t _ _ => Nat.beq t 42 | .binOp .eql _ _ _ _ => (match o.dst with | some d => Nat.beq d 115 | none => false) | _ => false)

theorem sums5S_ok : SumsSOK Tryz.prog sums5S := sumsOf_ok fun p hp => by
  simp only [List.mem_cons, List.not_mem_nil, or_false] at hp
  subst hp
  exact sumPick_ok pick_56

def goal28 (so x0 x1 x2 x3 x4 x5 : Int) (K : HEnd → Prop) : Prop := (erS VM V0 Tryz.prog B0 D0 sums5S 80).fn 28 [.int .i64 so, .agg [.int .i64 x0, .int .i64 x1, .int .i64 x2, .int .i64 x3, .int .i64 x4, .int .i64 x5]] emptyS (fun e _ => K e)
theorem t28 (so : Int) (x0 : Int) (x1 : Int) (x2 : Int) (x3 : Int) (x4 : Int) (x5 : Int) (K : Go.HI.HEnd → Prop) : goal28 so x0 x1 x2 x3 x4 x5 K = (True ∧ (((HV.int .i64 x1) = (HV.int .i64 x1)) ∧ (((HV.int .i64 x0) = (HV.int .i64 x0)) ∧ ((pickOK x0 3) ∧ (True ∧ (((HV.int .i64 x1) = (HV.int .i64 x1)) ∧ ((pickOK x1 4) ∧ (True ∧ ((pickOK x1 16) ∧ (br (eqQ (pickZ x1 16) 15)
 ((pickOK x2 60) ∧ (br (eqQ (wrapQ .i64 (addQ 1 (pickZ x0 3))) 1)
 ((pickOK x3 3) ∧ (((HV.int .i64 x2) = (HV.int .i64 x2)) ∧ (((HV.int .i64 (wrapQ .i64 (addQ 10 (wrapQ .i64 (mulQ 5 (pickZ x1 4)))))) = (HV.int .i64 (wrapQ .i64 (addQ 10 (wrapQ .i64 (mulQ 5 (pickZ x1 4))))))) ∧ ((pickOK x2 3) ∧ (((HV.int .i64 (wrapQ .i64 (addQ 10 (wrapQ .i64 (mulQ 5 (pickZ x1 4)))))) = (HV.int .i64 (wrapQ .i64 (addQ 10 (wrapQ .i64 (mulQ 5 (pickZ x1 4))))))) ∧ ((pickOK x4 2) ∧ (((HV.int .i64 (pickZ x3 3)) = (HV.int .i64 (pickZ x3 3))) ∧ ((nz 3) ∧ (br (eqQ (wrapQ .i64 (addQ 1 (pickZ x0 3))) 2)
 ((nz 2) ∧ ((pickOK x5 6) ∧ (((HV.int .i64 x4) = (HV.int .i64 x4)) ∧ (((HV.int .i64 (wrapQ .i64 (mulQ 10 (pickZ x2 3)))) = (HV.int .i64 (wrapQ .i64 (mulQ 10 (pickZ x2 3))))) ∧ ((pickOK (IntKind.wrap .i64 (Int.tdiv x4 2)) 30) ∧ (((HV.int .i64 (wrapQ .i64 (mulQ 10 (pickZ x2 3)))) = (HV.int .i64 (wrapQ .i64 (mulQ 10 (pickZ x2 3))))) ∧ (br (eqQ (wrapQ .i64 (addQ 1 (pickZ x5 6))) 2)
 (br (eqQ (wrapQ .i64 (addQ 1 (pickZ x5 6))) 6)
 (K (.returned (HV.agg [(HV.int .i64 so), (HV.int .i64 (wrapQ .i64 (addQ 1 (pickZ x0 3)))), (HV.int .i64 (wrapQ .i64 (addQ 10 (wrapQ .i64 (mulQ 5 (pickZ x1 4)))))), (HV.int .i64 0), (HV.int .i64 0), (HV.int .i64 0), (HV.int .i64 (wrapQ .i64 (addQ 10 (wrapQ .i64 (mulQ 5 (pickZ x1 4)))))), (HV.int .i64 (pickZ x3 3)), (HV.int .i64 (Int.tmod (wrapQ .i64 (addQ (wrapQ .i64 (addQ (pickZ x3 3) 1)) (pickZ x4 2))) 3)), (HV.int .i64 0), (HV.int .i64 (wrapQ .i64 (mulQ 10 (pickZ x2 3)))), (HV.bool .false), (HV.int .i64 (wrapQ .i64 (addQ 1 (pickZ x5 6)))), (HV.int .i64 (wrapQ .i64 (addQ (wrapQ .i64 (mulQ 10 (pickZ x2 3))) (pickZ (IntKind.wrap .i64 (Int.tdiv x4 2)) 30)))), (HV.int .i64 0)])))
 ((nz 6) ∧ ((pickOK (IntKind.wrap .i64 (Int.tdiv x5 6)) 3) ∧ (K (.returned (HV.agg [(HV.int .i64 so), (HV.int .i64 (wrapQ .i64 (addQ 1 (pickZ x0 3)))), (HV.int .i64 (wrapQ .i64 (addQ 10 (wrapQ .i64 (mulQ 5 (pickZ x1 4)))))), (HV.int .i64 0), (HV.int .i64 0), (HV.int .i64 0), (HV.int .i64 (wrapQ .i64 (addQ 10 (wrapQ .i64 (mulQ 5 (pickZ x1 4)))))), (HV.int .i64 (pickZ x3 3)), (HV.int .i64 (Int.tmod (wrapQ .i64 (addQ (wrapQ .i64 (addQ (pickZ x3 3) 1)) (pickZ x4 2))) 3)), (HV.int .i64 0), (HV.int .i64 (wrapQ .i64 (mulQ 10 (pickZ x2 3)))), (HV.bool .false), (HV.int .i64 (wrapQ .i64 (addQ 1 (pickZ x5 6)))), (HV.int .i64 (wrapQ .i64 (addQ (wrapQ .i64 (mulQ 10 (pickZ x2 3))) (pickZ (IntKind.wrap .i64 (Int.tdiv x4 2)) 30)))), (HV.int .i64 (wrapQ .i64 (addQ 1 (pickZ (IntKind.wrap .i64 (Int.tdiv x5 6)) 3))))]))))))
 ((nz 6) ∧ ((pickOK (IntKind.wrap .i64 (Int.tdiv x5 6)) 3) ∧ (K (.returned (HV.agg [(HV.int .i64 so), (HV.int .i64 (wrapQ .i64 (addQ 1 (pickZ x0 3)))), (HV.int .i64 (wrapQ .i64 (addQ 10 (wrapQ .i64 (mulQ 5 (pickZ x1 4)))))), (HV.int .i64 0), (HV.int .i64 0), (HV.int .i64 0), (HV.int .i64 (wrapQ .i64 (addQ 10 (wrapQ .i64 (mulQ 5 (pickZ x1 4)))))), (HV.int .i64 (pickZ x3 3)), (HV.int .i64 (Int.tmod (wrapQ .i64 (addQ (wrapQ .i64 (addQ (pickZ x3 3) 1)) (pickZ x4 2))) 3)), (HV.int .i64 0), (HV.int .i64 (wrapQ .i64 (mulQ 10 (pickZ x2 3)))), (HV.bool .false), (HV.int .i64 (wrapQ .i64 (addQ 1 (pickZ x5 6)))), (HV.int .i64 (wrapQ .i64 (addQ (wrapQ .i64 (mulQ 10 (pickZ x2 3))) (pickZ (IntKind.wrap .i64 (Int.tdiv x4 2)) 30)))), (HV.int .i64 (wrapQ .i64 (addQ 1 (pickZ (IntKind.wrap .i64 (Int.tdiv x5 6)) 3))))]))))))))))))
 ((pickOK x5 8) ∧ (br (ltQ (pickZ x5 8) 7)
 ((pickOK x5 3) ∧ ((nz 2) ∧ ((pickOK (IntKind.wrap .i64 (Int.tdiv x4 2)) 2) ∧ (K (.returned (HV.agg [(HV.int .i64 so), (HV.int .i64 (wrapQ .i64 (addQ 1 (pickZ x0 3)))), (HV.int .i64 (wrapQ .i64 (addQ 10 (wrapQ .i64 (mulQ 5 (pickZ x1 4)))))), (HV.int .i64 0), (HV.int .i64 0), (HV.int .i64 0), (HV.int .i64 (wrapQ .i64 (addQ 10 (wrapQ .i64 (mulQ 5 (pickZ x1 4)))))), (HV.int .i64 (pickZ x3 3)), (HV.int .i64 (Int.tmod (wrapQ .i64 (addQ (wrapQ .i64 (addQ (pickZ x3 3) 1)) (pickZ x4 2))) 3)), (HV.int .i64 (pickZ x5 3)), (HV.int .i64 (wrapQ .i64 (mulQ 10 (pickZ x2 3)))), (HV.bool (eqQ (pickZ (IntKind.wrap .i64 (Int.tdiv x4 2)) 2) 1)), (HV.int .i64 0), (HV.int .i64 0), (HV.int .i64 0)]))))))
 (br (Bool.not (eqQ (Int.tmod (wrapQ .i64 (addQ (wrapQ .i64 (addQ (pickZ x3 3) 1)) (pickZ x4 2))) 3) so))
 ((pickOK x5 3) ∧ ((nz 2) ∧ ((pickOK (IntKind.wrap .i64 (Int.tdiv x4 2)) 2) ∧ (K (.returned (HV.agg [(HV.int .i64 so), (HV.int .i64 (wrapQ .i64 (addQ 1 (pickZ x0 3)))), (HV.int .i64 (wrapQ .i64 (addQ 10 (wrapQ .i64 (mulQ 5 (pickZ x1 4)))))), (HV.int .i64 0), (HV.int .i64 0), (HV.int .i64 0), (HV.int .i64 (wrapQ .i64 (addQ 10 (wrapQ .i64 (mulQ 5 (pickZ x1 4)))))), (HV.int .i64 (pickZ x3 3)), (HV.int .i64 (Int.tmod (wrapQ .i64 (addQ (wrapQ .i64 (addQ (pickZ x3 3) 1)) (pickZ x4 2))) 3)), (HV.int .i64 (pickZ x5 3)), (HV.int .i64 (wrapQ .i64 (mulQ 10 (pickZ x2 3)))), (HV.bool (eqQ (pickZ (IntKind.wrap .i64 (Int.tdiv x4 2)) 2) 1)), (HV.int .i64 0), (HV.int .i64 0), (HV.int .i64 0)]))))))
 (br (ltQ so 3)
 ((pickOK x5 3) ∧ ((nz 2) ∧ ((pickOK (IntKind.wrap .i64 (Int.tdiv x4 2)) 2) ∧ (K (.returned (HV.agg [(HV.int .i64 so), (HV.int .i64 (wrapQ .i64 (addQ 1 (pickZ x0 3)))), (HV.int .i64 (wrapQ .i64 (addQ 10 (wrapQ .i64 (mulQ 5 (pickZ x1 4)))))), (HV.int .i64 0), (HV.int .i64 0), (HV.int .i64 0), (HV.int .i64 (wrapQ .i64 (addQ 10 (wrapQ .i64 (mulQ 5 (pickZ x1 4)))))), (HV.int .i64 (pickZ x3 3)), (HV.int .i64 (Int.tmod (wrapQ .i64 (addQ (wrapQ .i64 (addQ (pickZ x3 3) 1)) (pickZ x4 2))) 3)), (HV.int .i64 (pickZ x5 3)), (HV.int .i64 (wrapQ .i64 (mulQ 10 (pickZ x2 3)))), (HV.bool (eqQ (pickZ (IntKind.wrap .i64 (Int.tdiv x4 2)) 2) 1)), (HV.int .i64 0), (HV.int .i64 0), (HV.int .i64 0)]))))))
 ((pickOK x3 2) ∧ ((nz 3) ∧ ((pickOK x5 3) ∧ ((nz 2) ∧ ((pickOK (IntKind.wrap .i64 (Int.tdiv x4 2)) 2) ∧ (K (.returned (HV.agg [(HV.int .i64 so), (HV.int .i64 (wrapQ .i64 (addQ 1 (pickZ x0 3)))), (HV.int .i64 (wrapQ .i64 (addQ 10 (wrapQ .i64 (mulQ 5 (pickZ x1 4)))))), (HV.int .i64 0), (HV.int .i64 0), (HV.int .i64 0), (HV.int .i64 (wrapQ .i64 (addQ 10 (wrapQ .i64 (mulQ 5 (pickZ x1 4)))))), (HV.int .i64 (Int.tmod (wrapQ .i64 (addQ (wrapQ .i64 (addQ so 1)) (pickZ x3 2))) 3)), (HV.int .i64 so), (HV.int .i64 (pickZ x5 3)), (HV.int .i64 (wrapQ .i64 (mulQ 10 (pickZ x2 3)))), (HV.bool (eqQ (pickZ (IntKind.wrap .i64 (Int.tdiv x4 2)) 2) 1)), (HV.int .i64 0), (HV.int .i64 0), (HV.int .i64 0)])))))))))))))))))))))
 ((pickOK x2 6) ∧ (((HV.int .i64 x3) = (HV.int .i64 x3)) ∧ ((pickOK x3 3) ∧ ((pickOK x4 4) ∧ (br (eqQ (pickZ x4 4) 3)
 (K (.returned (HV.agg [(HV.int .i64 so), (HV.int .i64 (wrapQ .i64 (addQ 1 (pickZ x0 3)))), (HV.int .i64 (wrapQ .i64 (addQ 10 (wrapQ .i64 (mulQ 5 (pickZ x1 4)))))), (HV.int .i64 1), (HV.int .i64 (pickZ x2 6)), (HV.int .i64 (pickZ x3 3)), (HV.int .i64 0), (HV.int .i64 0), (HV.int .i64 0), (HV.int .i64 0), (HV.int .i64 0), (HV.bool .false), (HV.int .i64 0), (HV.int .i64 0), (HV.int .i64 0)])))
 ((pickOK x5 4) ∧ ((((pickZ x5 4) = 3) ∨ (((pickZ x5 4) = 2) ∨ (((pickZ x5 4) = 1) ∨ (((pickZ x5 4) = 0) ∨ False)))) ∧ ((((pickZ x5 4) = 3) → (K (.returned (HV.agg [(HV.int .i64 so), (HV.int .i64 (wrapQ .i64 (addQ 1 (pickZ x0 3)))), (HV.int .i64 (wrapQ .i64 (addQ 10 (wrapQ .i64 (mulQ 5 (pickZ x1 4)))))), (HV.int .i64 6), (HV.int .i64 (pickZ x2 60)), (HV.int .i64 (-1)), (HV.int .i64 0), (HV.int .i64 0), (HV.int .i64 0), (HV.int .i64 0), (HV.int .i64 0), (HV.bool .false), (HV.int .i64 0), (HV.int .i64 0), (HV.int .i64 0)])))) ∧ ((((pickZ x5 4) = 2) → (K (.returned (HV.agg [(HV.int .i64 so), (HV.int .i64 (wrapQ .i64 (addQ 1 (pickZ x0 3)))), (HV.int .i64 (wrapQ .i64 (addQ 10 (wrapQ .i64 (mulQ 5 (pickZ x1 4)))))), (HV.int .i64 5), (HV.int .i64 (pickZ x2 60)), (HV.int .i64 (-1)), (HV.int .i64 0), (HV.int .i64 0), (HV.int .i64 0), (HV.int .i64 0), (HV.int .i64 0), (HV.bool .false), (HV.int .i64 0), (HV.int .i64 0), (HV.int .i64 0)])))) ∧ ((((pickZ x5 4) = 1) → (K (.returned (HV.agg [(HV.int .i64 so), (HV.int .i64 (wrapQ .i64 (addQ 1 (pickZ x0 3)))), (HV.int .i64 (wrapQ .i64 (addQ 10 (wrapQ .i64 (mulQ 5 (pickZ x1 4)))))), (HV.int .i64 4), (HV.int .i64 (pickZ x2 60)), (HV.int .i64 (-1)), (HV.int .i64 0), (HV.int .i64 0), (HV.int .i64 0), (HV.int .i64 0), (HV.int .i64 0), (HV.bool .false), (HV.int .i64 0), (HV.int .i64 0), (HV.int .i64 0)])))) ∧ ((((pickZ x5 4) = 0) → (K (.returned (HV.agg [(HV.int .i64 so), (HV.int .i64 (wrapQ .i64 (addQ 1 (pickZ x0 3)))), (HV.int .i64 (wrapQ .i64 (addQ 10 (wrapQ .i64 (mulQ 5 (pickZ x1 4)))))), (HV.int .i64 3), (HV.int .i64 (pickZ x2 60)), (HV.int .i64 (-1)), (HV.int .i64 0), (HV.int .i64 0), (HV.int .i64 0), (HV.int .i64 0), (HV.int .i64 0), (HV.bool .false), (HV.int .i64 0), (HV.int .i64 0), (HV.int .i64 0)])))) ∧ True)))))))))))))
 ((pickOK x1 40) ∧ ((pickOK x2 60) ∧ (br (eqQ (wrapQ .i64 (addQ 1 (pickZ x0 3))) 1)
 ((pickOK x3 3) ∧ (((HV.int .i64 x2) = (HV.int .i64 x2)) ∧ (((HV.int .i64 (pickZ x1 40)) = (HV.int .i64 (pickZ x1 40))) ∧ ((pickOK x2 3) ∧ (((HV.int .i64 (pickZ x1 40)) = (HV.int .i64 (pickZ x1 40))) ∧ ((pickOK x4 2) ∧ (((HV.int .i64 (pickZ x3 3)) = (HV.int .i64 (pickZ x3 3))) ∧ ((nz 3) ∧ (br (eqQ (wrapQ .i64 (addQ 1 (pickZ x0 3))) 2)
 ((nz 2) ∧ ((pickOK x5 6) ∧ (((HV.int .i64 x4) = (HV.int .i64 x4)) ∧ (((HV.int .i64 (wrapQ .i64 (mulQ 10 (pickZ x2 3)))) = (HV.int .i64 (wrapQ .i64 (mulQ 10 (pickZ x2 3))))) ∧ ((pickOK (IntKind.wrap .i64 (Int.tdiv x4 2)) 30) ∧ (((HV.int .i64 (wrapQ .i64 (mulQ 10 (pickZ x2 3)))) = (HV.int .i64 (wrapQ .i64 (mulQ 10 (pickZ x2 3))))) ∧ (br (eqQ (wrapQ .i64 (addQ 1 (pickZ x5 6))) 2)
 (br (eqQ (wrapQ .i64 (addQ 1 (pickZ x5 6))) 6)
 (K (.returned (HV.agg [(HV.int .i64 so), (HV.int .i64 (wrapQ .i64 (addQ 1 (pickZ x0 3)))), (HV.int .i64 (pickZ x1 40)), (HV.int .i64 0), (HV.int .i64 0), (HV.int .i64 0), (HV.int .i64 (pickZ x1 40)), (HV.int .i64 (pickZ x3 3)), (HV.int .i64 (Int.tmod (wrapQ .i64 (addQ (wrapQ .i64 (addQ (pickZ x3 3) 1)) (pickZ x4 2))) 3)), (HV.int .i64 0), (HV.int .i64 (wrapQ .i64 (mulQ 10 (pickZ x2 3)))), (HV.bool .false), (HV.int .i64 (wrapQ .i64 (addQ 1 (pickZ x5 6)))), (HV.int .i64 (wrapQ .i64 (addQ (wrapQ .i64 (mulQ 10 (pickZ x2 3))) (pickZ (IntKind.wrap .i64 (Int.tdiv x4 2)) 30)))), (HV.int .i64 0)])))
 ((nz 6) ∧ ((pickOK (IntKind.wrap .i64 (Int.tdiv x5 6)) 3) ∧ (K (.returned (HV.agg [(HV.int .i64 so), (HV.int .i64 (wrapQ .i64 (addQ 1 (pickZ x0 3)))), (HV.int .i64 (pickZ x1 40)), (HV.int .i64 0), (HV.int .i64 0), (HV.int .i64 0), (HV.int .i64 (pickZ x1 40)), (HV.int .i64 (pickZ x3 3)), (HV.int .i64 (Int.tmod (wrapQ .i64 (addQ (wrapQ .i64 (addQ (pickZ x3 3) 1)) (pickZ x4 2))) 3)), (HV.int .i64 0), (HV.int .i64 (wrapQ .i64 (mulQ 10 (pickZ x2 3)))), (HV.bool .false), (HV.int .i64 (wrapQ .i64 (addQ 1 (pickZ x5 6)))), (HV.int .i64 (wrapQ .i64 (addQ (wrapQ .i64 (mulQ 10 (pickZ x2 3))) (pickZ (IntKind.wrap .i64 (Int.tdiv x4 2)) 30)))), (HV.int .i64 (wrapQ .i64 (addQ 1 (pickZ (IntKind.wrap .i64 (Int.tdiv x5 6)) 3))))]))))))
 ((nz 6) ∧ ((pickOK (IntKind.wrap .i64 (Int.tdiv x5 6)) 3) ∧ (K (.returned (HV.agg [(HV.int .i64 so), (HV.int .i64 (wrapQ .i64 (addQ 1 (pickZ x0 3)))), (HV.int .i64 (pickZ x1 40)), (HV.int .i64 0), (HV.int .i64 0), (HV.int .i64 0), (HV.int .i64 (pickZ x1 40)), (HV.int .i64 (pickZ x3 3)), (HV.int .i64 (Int.tmod (wrapQ .i64 (addQ (wrapQ .i64 (addQ (pickZ x3 3) 1)) (pickZ x4 2))) 3)), (HV.int .i64 0), (HV.int .i64 (wrapQ .i64 (mulQ 10 (pickZ x2 3)))), (HV.bool .false), (HV.int .i64 (wrapQ .i64 (addQ 1 (pickZ x5 6)))), (HV.int .i64 (wrapQ .i64 (addQ (wrapQ .i64 (mulQ 10 (pickZ x2 3))) (pickZ (IntKind.wrap .i64 (Int.tdiv x4 2)) 30)))), (HV.int .i64 (wrapQ .i64 (addQ 1 (pickZ (IntKind.wrap .i64 (Int.tdiv x5 6)) 3))))]))))))))))))
 ((pickOK x5 8) ∧ (br (ltQ (pickZ x5 8) 7)
 ((pickOK x5 3) ∧ ((nz 2) ∧ ((pickOK (IntKind.wrap .i64 (Int.tdiv x4 2)) 2) ∧ (K (.returned (HV.agg [(HV.int .i64 so), (HV.int .i64 (wrapQ .i64 (addQ 1 (pickZ x0 3)))), (HV.int .i64 (pickZ x1 40)), (HV.int .i64 0), (HV.int .i64 0), (HV.int .i64 0), (HV.int .i64 (pickZ x1 40)), (HV.int .i64 (pickZ x3 3)), (HV.int .i64 (Int.tmod (wrapQ .i64 (addQ (wrapQ .i64 (addQ (pickZ x3 3) 1)) (pickZ x4 2))) 3)), (HV.int .i64 (pickZ x5 3)), (HV.int .i64 (wrapQ .i64 (mulQ 10 (pickZ x2 3)))), (HV.bool (eqQ (pickZ (IntKind.wrap .i64 (Int.tdiv x4 2)) 2) 1)), (HV.int .i64 0), (HV.int .i64 0), (HV.int .i64 0)]))))))
 (br (Bool.not (eqQ (Int.tmod (wrapQ .i64 (addQ (wrapQ .i64 (addQ (pickZ x3 3) 1)) (pickZ x4 2))) 3) so))
 ((pickOK x5 3) ∧ ((nz 2) ∧ ((pickOK (IntKind.wrap .i64 (Int.tdiv x4 2)) 2) ∧ (K (.returned (HV.agg [(HV.int .i64 so), (HV.int .i64 (wrapQ .i64 (addQ 1 (pickZ x0 3)))), (HV.int .i64 (pickZ x1 40)), (HV.int .i64 0), (HV.int .i64 0), (HV.int .i64 0), (HV.int .i64 (pickZ x1 40)), (HV.int .i64 (pickZ x3 3)), (HV.int .i64 (Int.tmod (wrapQ .i64 (addQ (wrapQ .i64 (addQ (pickZ x3 3) 1)) (pickZ x4 2))) 3)), (HV.int .i64 (pickZ x5 3)), (HV.int .i64 (wrapQ .i64 (mulQ 10 (pickZ x2 3)))), (HV.bool (eqQ (pickZ (IntKind.wrap .i64 (Int.tdiv x4 2)) 2) 1)), (HV.int .i64 0), (HV.int .i64 0), (HV.int .i64 0)]))))))
 (br (ltQ so 3)
 ((pickOK x5 3) ∧ ((nz 2) ∧ ((pickOK (IntKind.wrap .i64 (Int.tdiv x4 2)) 2) ∧ (K (.returned (HV.agg [(HV.int .i64 so), (HV.int .i64 (wrapQ .i64 (addQ 1 (pickZ x0 3)))), (HV.int .i64 (pickZ x1 40)), (HV.int .i64 0), (HV.int .i64 0), (HV.int .i64 0), (HV.int .i64 (pickZ x1 40)), (HV.int .i64 (pickZ x3 3)), (HV.int .i64 (Int.tmod (wrapQ .i64 (addQ (wrapQ .i64 (addQ (pickZ x3 3) 1)) (pickZ x4 2))) 3)), (HV.int .i64 (pickZ x5 3)), (HV.int .i64 (wrapQ .i64 (mulQ 10 (pickZ x2 3)))), (HV.bool (eqQ (pickZ (IntKind.wrap .i64 (Int.tdiv x4 2)) 2) 1)), (HV.int .i64 0), (HV.int .i64 0), (HV.int .i64 0)]))))))
 ((pickOK x3 2) ∧ ((nz 3) ∧ ((pickOK x5 3) ∧ ((nz 2) ∧ ((pickOK (IntKind.wrap .i64 (Int.tdiv x4 2)) 2) ∧ (K (.returned (HV.agg [(HV.int .i64 so), (HV.int .i64 (wrapQ .i64 (addQ 1 (pickZ x0 3)))), (HV.int .i64 (pickZ x1 40)), (HV.int .i64 0), (HV.int .i64 0), (HV.int .i64 0), (HV.int .i64 (pickZ x1 40)), (HV.int .i64 (Int.tmod (wrapQ .i64 (addQ (wrapQ .i64 (addQ so 1)) (pickZ x3 2))) 3)), (HV.int .i64 so), (HV.int .i64 (pickZ x5 3)), (HV.int .i64 (wrapQ .i64 (mulQ 10 (pickZ x2 3)))), (HV.bool (eqQ (pickZ (IntKind.wrap .i64 (Int.tdiv x4 2)) 2) 1)), (HV.int .i64 0), (HV.int .i64 0), (HV.int .i64 0)])))))))))))))))))))))
 ((pickOK x2 6) ∧ (((HV.int .i64 x3) = (HV.int .i64 x3)) ∧ ((pickOK x3 3) ∧ ((pickOK x4 4) ∧ (br (eqQ (pickZ x4 4) 3)
 (K (.returned (HV.agg [(HV.int .i64 so), (HV.int .i64 (wrapQ .i64 (addQ 1 (pickZ x0 3)))), (HV.int .i64 (pickZ x1 40)), (HV.int .i64 1), (HV.int .i64 (pickZ x2 6)), (HV.int .i64 (pickZ x3 3)), (HV.int .i64 0), (HV.int .i64 0), (HV.int .i64 0), (HV.int .i64 0), (HV.int .i64 0), (HV.bool .false), (HV.int .i64 0), (HV.int .i64 0), (HV.int .i64 0)])))
 ((pickOK x5 4) ∧ ((((pickZ x5 4) = 3) ∨ (((pickZ x5 4) = 2) ∨ (((pickZ x5 4) = 1) ∨ (((pickZ x5 4) = 0) ∨ False)))) ∧ ((((pickZ x5 4) = 3) → (K (.returned (HV.agg [(HV.int .i64 so), (HV.int .i64 (wrapQ .i64 (addQ 1 (pickZ x0 3)))), (HV.int .i64 (pickZ x1 40)), (HV.int .i64 6), (HV.int .i64 (pickZ x2 60)), (HV.int .i64 (-1)), (HV.int .i64 0), (HV.int .i64 0), (HV.int .i64 0), (HV.int .i64 0), (HV.int .i64 0), (HV.bool .false), (HV.int .i64 0), (HV.int .i64 0), (HV.int .i64 0)])))) ∧ ((((pickZ x5 4) = 2) → (K (.returned (HV.agg [(HV.int .i64 so), (HV.int .i64 (wrapQ .i64 (addQ 1 (pickZ x0 3)))), (HV.int .i64 (pickZ x1 40)), (HV.int .i64 5), (HV.int .i64 (pickZ x2 60)), (HV.int .i64 (-1)), (HV.int .i64 0), (HV.int .i64 0), (HV.int .i64 0), (HV.int .i64 0), (HV.int .i64 0), (HV.bool .false), (HV.int .i64 0), (HV.int .i64 0), (HV.int .i64 0)])))) ∧ ((((pickZ x5 4) = 1) → (K (.returned (HV.agg [(HV.int .i64 so), (HV.int .i64 (wrapQ .i64 (addQ 1 (pickZ x0 3)))), (HV.int .i64 (pickZ x1 40)), (HV.int .i64 4), (HV.int .i64 (pickZ x2 60)), (HV.int .i64 (-1)), (HV.int .i64 0), (HV.int .i64 0), (HV.int .i64 0), (HV.int .i64 0), (HV.int .i64 0), (HV.bool .false), (HV.int .i64 0), (HV.int .i64 0), (HV.int .i64 0)])))) ∧ ((((pickZ x5 4) = 0) → (K (.returned (HV.agg [(HV.int .i64 so), (HV.int .i64 (wrapQ .i64 (addQ 1 (pickZ x0 3)))), (HV.int .i64 (pickZ x1 40)), (HV.int .i64 3), (HV.int .i64 (pickZ x2 60)), (HV.int .i64 (-1)), (HV.int .i64 0), (HV.int .i64 0), (HV.int .i64 0), (HV.int .i64 0), (HV.int .i64 0), (HV.bool .false), (HV.int .i64 0), (HV.int .i64 0), (HV.int .i64 0)])))) ∧ True)))))))))))))))))))))))) := by kernel_rfl

end
end Go.HI

/- dialtoneref43.Made: what is made is formed. -/
namespace Go.HI
open Go Go.Proofs
noncomputable section

def MadeOut (so : Int) (e : HEnd) : Prop := ∃ n : NT, n.so = so ∧ formedN n = true ∧ e = .returned (ntHV n)

theorem mLeaf {so ki nu lk la lh cn cf ct ch ca : Int} {cb : Bool} {ek ea er : Int} (hf : formedQ so ki nu lk la lh cn cf ct ch ca cb ek ea er = true) :
    lf (MadeOut so) (.returned (.agg [.int .i64 so, .int .i64 ki, .int .i64 nu, .int .i64 lk, .int .i64 la, .int .i64 lh, .int .i64 cn, .int .i64 cf, .int .i64 ct, .int .i64 ch, .int .i64 ca, .bool cb, .int .i64 ek, .int .i64 ea, .int .i64 er])) :=
  ⟨rfl, ⟨so, ki, nu, lk, la, lh, cn, cf, ct, ch, ca, cb, ek, ea, er⟩, rfl, hf, rfl⟩

theorem tdiv_i64 {x d : Int} (h : i64 x) (hd : 2 ≤ d) : i64 (Int.tdiv x d) := by
  obtain ⟨h1, h2⟩ := h
  have e : (Int.tdiv x d).natAbs = x.natAbs / d.natAbs := Int.natAbs_tdiv x d
  have : x.natAbs / d.natAbs ≤ x.natAbs / 2 := Nat.div_le_div_left (by omega) (by decide)
  exact ⟨by omega, by omega⟩

theorem brE {a b : Int} {F T : Prop} : br (eqQ a b) F T ↔ (a = b → T) ∧ (a ≠ b → F) := by
  rw [br_iff, eqQ_eq]
  simp only [beq_iff_eq, beq_eq_false_iff_ne]
theorem brN {a b : Int} {F T : Prop} : br (not (eqQ a b)) F T ↔ (a ≠ b → T) ∧ (a = b → F) := by
  rw [br_iff, eqQ_eq]
  simp only [Bool.not_eq_true', Bool.not_eq_false', beq_iff_eq, beq_eq_false_iff_ne]
theorem brL {a b : Int} {F T : Prop} : br (ltQ a b) F T ↔ (a < b → T) ∧ (¬ a < b → F) := by
  rw [br_iff, ltQ_eq]
  simp only [decide_eq_true_eq, decide_eq_false_iff_not]

theorem lineLeaf {so ki nu lk la lh : Int} (h1 : 0 ≤ so ∧ so ≤ 7) (h2 : 0 ≤ nu ∧ nu ≤ 99999999) (h3 : ki = 1) (h4 : (1 ≤ lk ∧ lk ≤ 7) ∧ (0 ≤ la ∧ la ≤ 10000000) ∧ ((lk ≤ 2 ∧ 0 ≤ lh ∧ lh ≤ 63) ∨ (2 < lk ∧ lh = -1))) :
    formedQ so ki nu lk la lh 0 0 0 0 0 false 0 0 0 = true := formedQ_iff.2 ⟨h1, h2, .inl ⟨h3, ⟨rfl, rfl, rfl, rfl, rfl, rfl⟩, ⟨rfl, rfl, rfl⟩, lineQ_iff.2 h4⟩⟩
theorem claimLeaf {so ki nu cf ct ch ca : Int} {cb : Bool} (h1 : 0 ≤ so ∧ so ≤ 7) (h2 : 0 ≤ nu ∧ nu ≤ 99999999) (h3 : ki = 2) (h4 : (0 ≤ cf ∧ cf ≤ 7) ∧ (0 ≤ ct ∧ ct ≤ 7) ∧ cf ≠ ct ∧ (0 ≤ ch ∧ ch ≤ 63) ∧ (0 ≤ ca ∧ ca ≤ 10000000)) :
    formedQ so ki nu 0 0 0 nu cf ct ch ca cb 0 0 0 = true := formedQ_iff.2 ⟨h1, h2, .inr (.inl ⟨h3, ⟨rfl, rfl, rfl⟩, ⟨rfl, rfl, rfl⟩, rfl, claimQ_iff.2 ⟨h2, h4⟩⟩)⟩
theorem eventLeaf {so ki nu cf ct ca ek ea er : Int} (h1 : 0 ≤ so ∧ so ≤ 7) (h2 : 0 ≤ nu ∧ nu ≤ 99999999) (h3 : ki = 3) (h4 : (0 ≤ cf ∧ cf ≤ 7) ∧ (0 ≤ ct ∧ ct ≤ 7) ∧ cf ≠ ct ∧ (0 ≤ ca ∧ ca ≤ 10000000))
    (h5 : (1 ≤ ek ∧ ek ≤ 6) ∧ (ca ≤ ea ∧ ea ≤ 20000000) ∧ (((ek = 2 ∨ ek = 6) ∧ 1 ≤ er ∧ er ≤ 9) ∨ (ek ≠ 2 ∧ ek ≠ 6 ∧ er = 0))) :
    formedQ so ki nu 0 0 0 nu cf ct 0 ca false ek ea er = true := formedQ_iff.2 ⟨h1, h2, .inr (.inr ⟨h3, ⟨rfl, rfl, rfl⟩, rfl, rfl, rfl, claimQ_iff.2 ⟨h2, h4.1, h4.2.1, h4.2.2.1, ⟨by decide, by decide⟩, h4.2.2.2⟩, eventQ_iff.2 h5⟩)⟩

theorem made_tree {so x0 x1 x2 x3 x4 x5 : Int} (hso : 0 ≤ so ∧ so ≤ 7) (h0 : i64 x0) (h1 : i64 x1) (h2 : i64 x2) (h3 : i64 x3) (h4 : i64 x4) (h5 : i64 x5) : goal28 so x0 x1 x2 x3 x4 x5 (lf (MadeOut so)) := by
  rw [t28]
  have d42 : i64 (IntKind.i64.wrap (Int.tdiv x4 2)) := by rw [wrapI (tdiv_i64 h4 (by decide))]; exact tdiv_i64 h4 (by decide)
  have d56 : i64 (IntKind.i64.wrap (Int.tdiv x5 6)) := by rw [wrapI (tdiv_i64 h5 (by decide))]; exact tdiv_i64 h5 (by decide)
  obtain ⟨y4, hy4⟩ : ∃ y, y = IntKind.i64.wrap (Int.tdiv x4 2) := ⟨_, rfl⟩
  obtain ⟨y5, hy5⟩ : ∃ y, y = IntKind.i64.wrap (Int.tdiv x5 6) := ⟨_, rfl⟩
  rw [← hy4] at d42
  rw [← hy5] at d56
  rw [← hy4, ← hy5]
  have g0 : ∀ n : Int, 0 < n → (pickOK x0 n ↔ True) := fun n hn => iff_true_intro ⟨h0, hn⟩
  have g1 : ∀ n : Int, 0 < n → (pickOK x1 n ↔ True) := fun n hn => iff_true_intro ⟨h1, hn⟩
  have g2 : ∀ n : Int, 0 < n → (pickOK x2 n ↔ True) := fun n hn => iff_true_intro ⟨h2, hn⟩
  have g3 : ∀ n : Int, 0 < n → (pickOK x3 n ↔ True) := fun n hn => iff_true_intro ⟨h3, hn⟩
  have g4 : ∀ n : Int, 0 < n → (pickOK x4 n ↔ True) := fun n hn => iff_true_intro ⟨h4, hn⟩
  have g5 : ∀ n : Int, 0 < n → (pickOK x5 n ↔ True) := fun n hn => iff_true_intro ⟨h5, hn⟩
  have k4 : ∀ n : Int, 0 < n → (pickOK y4 n ↔ True) := fun n hn => iff_true_intro ⟨d42, hn⟩
  have k5 : ∀ n : Int, 0 < n → (pickOK y5 n ↔ True) := fun n hn => iff_true_intro ⟨d56, hn⟩
  have z2 : nz 2 ↔ True := iff_true_intro (by unfold nz; decide)
  have z3 : nz 3 ↔ True := iff_true_intro (by unfold nz; decide)
  have z6 : nz 6 ↔ True := iff_true_intro (by unfold nz; decide)
  simp only [g0 3 (by decide), g1 4 (by decide), g1 16 (by decide), g1 40 (by decide), g2 60 (by decide), g2 6 (by decide), g2 3 (by decide), g3 3 (by decide), g3 2 (by decide), g4 4 (by decide), g4 2 (by decide), g5 4 (by decide), g5 8 (by decide), g5 3 (by decide), g5 6 (by decide),
    k4 30 (by decide), k4 2 (by decide), k5 3 (by decide), z2, z3, z6, true_and, and_self]
  have b1 := pickZ_bounds (c := x0) (n := 3) (by decide)
  have b2 := pickZ_bounds (c := x1) (n := 4) (by decide)
  have b3 := pickZ_bounds (c := x1) (n := 40) (by decide)
  have b4 := pickZ_bounds (c := x2) (n := 60) (by decide)
  have b5 := pickZ_bounds (c := x2) (n := 6) (by decide)
  have b6 := pickZ_bounds (c := x2) (n := 3) (by decide)
  have b7 := pickZ_bounds (c := x3) (n := 3) (by decide)
  have b8 := pickZ_bounds (c := x3) (n := 2) (by decide)
  have b9 := pickZ_bounds (c := x4) (n := 2) (by decide)
  have b10 := pickZ_bounds (c := x5) (n := 4) (by decide)
  have b11 := pickZ_bounds (c := x5) (n := 3) (by decide)
  have b12 := pickZ_bounds (c := x5) (n := 6) (by decide)
  have b13 := pickZ_bounds (c := y4) (n := 30) (by decide)
  have b14 := pickZ_bounds (c := y5) (n := 3) (by decide)
  clear h0 h1 h2 h3 h4 h5 d42 d56 hy4 hy5 g0 g1 g2 g3 g4 g5 k4 k5 z2 z3 z6
  generalize pickZ x0 3 = p0 at *
  generalize pickZ x1 4 = p14 at *
  generalize pickZ x1 16 = p116 at *
  generalize pickZ x1 40 = p140 at *
  generalize pickZ x2 60 = p260 at *
  generalize pickZ x2 6 = p26 at *
  generalize pickZ x2 3 = p23 at *
  generalize pickZ x3 3 = p33 at *
  generalize pickZ x3 2 = p32 at *
  generalize pickZ x4 4 = p44 at *
  generalize pickZ x4 2 = p42 at *
  generalize pickZ x5 4 = p54 at *
  generalize pickZ x5 8 = p58 at *
  generalize pickZ x5 3 = p53 at *
  generalize pickZ x5 6 = p56 at *
  generalize pickZ y4 30 = q30 at *
  generalize pickZ y4 2 = q2 at *
  generalize pickZ y5 3 = q3 at *
  have ws : ∀ a : Int, -1000000 ≤ a → a ≤ 1000000 → wrapQ .i64 a = a := fun a h1 h2 => wrapI64 ⟨by omega, by omega⟩
  have w1 : wrapQ .i64 (addQ 1 p0) = 1 + p0 := by rw [addQ_eq, ws _ (by omega) (by omega)]
  have w2 : wrapQ .i64 (addQ 10 (wrapQ .i64 (mulQ 5 p14))) = 10 + 5 * p14 := by rw [mulQ_eq, ws (5 * p14) (by omega) (by omega), addQ_eq, ws (10 + 5 * p14) (by omega) (by omega)]
  have w3 : wrapQ .i64 (mulQ 10 p23) = 10 * p23 := by rw [mulQ_eq, ws _ (by omega) (by omega)]
  have w4 : Int.tmod (wrapQ .i64 (addQ (wrapQ .i64 (addQ p33 1)) p42)) 3 = (p33 + 1 + p42) % 3 := by
    rw [addQ_eq p33, ws (p33 + 1) (by omega) (by omega), addQ_eq, ws _ (by omega) (by omega), Int.tmod_eq_emod_of_nonneg (by omega)]
  have w5 : wrapQ .i64 (addQ 1 p56) = 1 + p56 := by rw [addQ_eq, ws _ (by omega) (by omega)]
  have w6 : wrapQ .i64 (addQ (10 * p23) q30) = 10 * p23 + q30 := by rw [addQ_eq, ws _ (by omega) (by omega)]
  have w7 : Int.tmod (wrapQ .i64 (addQ (wrapQ .i64 (addQ so 1)) p32)) 3 = (so + 1 + p32) % 3 := by
    rw [addQ_eq so, ws (so + 1) (by omega) (by omega), addQ_eq, ws _ (by omega) (by omega), Int.tmod_eq_emod_of_nonneg (by omega)]
  have w8 : wrapQ .i64 (addQ 1 q3) = 1 + q3 := by rw [addQ_eq, ws _ (by omega) (by omega)]
  simp only [w1, w2, w3, w4, w5, w6, w7, w8]
  clear w1 w2 w3 w4 w5 w6 w7 w8 ws
  simp only [brE, brN, brL]
  repeat' first | apply mLeaf | apply And.intro | intro _
  all_goals first
    | omega
    | trivial
    | exact lineLeaf hso (by omega) (by omega) (by omega)
    | exact claimLeaf hso (by omega) (by omega) (by omega)
    | exact eventLeaf hso (by omega) (by omega) (by omega) (by omega)

set_option maxRecDepth 100000 in
theorem ends_28 {so x0 x1 x2 x3 x4 x5 : Int} (hso : 0 ≤ so ∧ so ≤ 7) (h0 : i64 x0) (h1 : i64 x1) (h2 : i64 x2) (h3 : i64 x3) (h4 : i64 x4) (h5 : i64 x5) (σ : Store) :
    HCall Tryz.prog 28 [.int .i64 so, .agg [.int .i64 x0, .int .i64 x1, .int .i64 x2, .int .i64 x3, .int .i64 x4, .int .i64 x5]] σ (fun e σ' => MadeOut so e ∧ σ' = σ) :=
  hcall_of_tree (V := VM) (R := MadeOut so) (evalOpS_ok _) sums5S_ok rfl (by
    show goal28 so x0 x1 x2 x3 x4 x5 (lf (MadeOut so))
    exact made_tree hso h0 h1 h2 h3 h4 h5) σ

end
end Go.HI

/- dialtonelaw43.CarrierReads: the tree of its ways. -/
namespace Go.HI
open Go Go.Proofs
noncomputable section

def ntOf : HV → Option NT := fun v => match v with
  | .agg [.int .i64 so, .int .i64 ki, .int .i64 nu, .int .i64 lk, .int .i64 la, .int .i64 lh, .int .i64 cn, .int .i64 cf, .int .i64 ct, .int .i64 ch, .int .i64 ca, .bool cb, .int .i64 ek, .int .i64 ea, .int .i64 er] => some ⟨so, ki, nu, lk, la, lh, cn, cf, ct, ch, ca, cb, ek, ea, er⟩
  | _ => none
def rdB (so : Int) (s : List UInt8) : Bool := @decide (∃ n, Said so s n) (Classical.propDecidable _)
def madeOK (so x0 x1 x2 x3 x4 x5 : Int) : Prop := (0 ≤ so ∧ so ≤ 7) ∧ i64 x0 ∧ i64 x1 ∧ i64 x2 ∧ i64 x3 ∧ i64 x4 ∧ i64 x5
def formedOf (so : Int) (n : NT) : Prop := n.so = so ∧ formedN n = true
def shortS (s : List UInt8) : Prop := s.length < 4611686018427387904
def sumMade : SumF := fun args σ => match args with
  | [.int .i64 so, .agg [.int .i64 x0, .int .i64 x1, .int .i64 x2, .int .i64 x3, .int .i64 x4, .int .i64 x5]] => some (.guard (madeOK so x0 x1 x2 x3 x4 x5) (.many (formedOf so) fun n => .one (.returned (ntHV n)) σ))
  | _ => none
def sumText : SumF := fun args σ => match args with
  | [v] => match ntOf v with
    | some n => some (.ite (formedN n) (.one (.returned (.tuple [.str (textN n), .int .i64 0])) σ) (.one textErr σ))
    | none => none
  | _ => none
def sumRead : SumF := fun args σ => match args with
  | [.int .i64 so, .str s] => some (.guard (shortS s) (.ite (rdB so s) (.many (Said so s) fun n => .one (.returned (.tuple [ntHV n, .int .i64 0])) σ) (.one readErr σ)))
  | _ => none
def hasKs (σ : Store) : Bool := (match σ.blks.get 3 with | some b => HBlk.beq b ksBlk | none => false) && σ.globs == [3]
def sumSane : SumF := fun args σ => match args with
  | [] => Bool.rec none (some (.one (.returned (.bool true)) σ)) (hasKs σ)
  | _ => none
def sums6S : SumsS := sumsOf [(13, sumSane), (15, sumPick), (28, sumMade), (17, sumText), (19, sumRead)]

def kQ (a : Int) (t : List UInt8) : Int := pickZ a (t.length : Int)
def cutL (t : List UInt8) (k : Int) : List UInt8 := List.drop 0 (List.take (Int.toNat k) t)
def cutR (t : List UInt8) (k : Int) : List UInt8 := List.drop (Int.toNat k) (List.take (Int.toNat (t.length : Int)) t)
def z1Q (t : List UInt8) (k c : Int) : List UInt8 := (cutL t k ++ [UInt8.ofNat (Int.toNat c)]) ++ cutR t (wrapQ .i64 (addQ k 1))
/-- A round of the law: a string is read; where it says a notice, this one's text is compared. -/
def iterT (K : HEnd → Prop) (other : Int) (t z : List UInt8) (X : Prop) : Prop :=
  (pickOK other 8) ∧ ((shortS z) ∧ (br (rdB (pickZ other 8) z) (br (z == t) X (K (.returned (HV.bool .false))))
    (∀ m : NT, ((Said (pickZ other 8) z m) → (br (formedN m) (K (.returned (HV.bool .false)))
      (br (Bool.not ((textN m) == z)) ((pickOK other 8) ∧ (((HV.int .i64 (NT.so m)) = (HV.int .i64 (NT.so m))) ∧ (br (Bool.not (eqQ (NT.so m) (pickZ other 8))) X (K (.returned (HV.bool .false))))))
        (K (.returned (HV.bool .false)))))))))

def goal6 (source x0 x1 x2 x3 x4 x5 at_ c other : Int) (K : HEnd → Prop) : Prop := (erS VS V0 Tryz.prog B0 D0 sums6S 100).fn 6 [.int .i64 source, .agg [.int .i64 x0, .int .i64 x1, .int .i64 x2, .int .i64 x3, .int .i64 x4, .int .i64 x5], .int .i64 at_, .int .u8 c, .int .i64 other] σt (fun e σ' => K e ∧ σ'.blks.get 3 = some ksBlk)
def tree6 (source : Int) (x0 : Int) (x1 : Int) (x2 : Int) (x3 : Int) (x4 : Int) (x5 : Int) (at_ : Int) (c : Int) (other : Int) (K : Go.HI.HEnd → Prop) : Prop := (True ∧ (((HV.agg [(HV.int .i64 x0), (HV.int .i64 x1), (HV.int .i64 x2), (HV.int .i64 x3), (HV.int .i64 x4), (HV.int .i64 x5)]) = (HV.agg [(HV.int .i64 x0), (HV.int .i64 x1), (HV.int .i64 x2), (HV.int .i64 x3), (HV.int .i64 x4), (HV.int .i64 x5)])) ∧ ((pickOK source 8) ∧ (True ∧ (((HV.agg [(HV.int .i64 x0), (HV.int .i64 x1), (HV.int .i64 x2), (HV.int .i64 x3), (HV.int .i64 x4), (HV.int .i64 x5)]) = (HV.agg [(HV.int .i64 x0), (HV.int .i64 x1), (HV.int .i64 x2), (HV.int .i64 x3), (HV.int .i64 x4), (HV.int .i64 x5)])) ∧ ((madeOK (pickZ source 8) x0 x1 x2 x3 x4 x5) ∧ (∀ n0 : Go.HI.NT, ((formedOf (pickZ source 8) n0) → (True ∧ (br (formedN n0)
 ((shortS []) ∧ (br (rdB (NT.so n0) [])
 (K (.returned (HV.bool .false)))
 (∀ n1 : Go.HI.NT, ((Said (NT.so n0) [] n1) → (K (.returned (HV.bool .false)))))))
 ((shortS (textN n0)) ∧ (br (rdB (NT.so n0) (textN n0))
 (K (.returned (HV.bool .false)))
 (∀ n2 : Go.HI.NT, ((Said (NT.so n0) (textN n0) n2) → (br (Bool.not (Bool.and ((NT.so n2) == (NT.so n0)) (Bool.and ((NT.ki n2) == (NT.ki n0)) (Bool.and ((NT.nu n2) == (NT.nu n0)) (Bool.and (Bool.and ((NT.lk n2) == (NT.lk n0)) (Bool.and ((NT.la n2) == (NT.la n0)) (Bool.and ((NT.lh n2) == (NT.lh n0)) .true))) (Bool.and (Bool.and ((NT.cn n2) == (NT.cn n0)) (Bool.and ((NT.cf n2) == (NT.cf n0)) (Bool.and ((NT.ct n2) == (NT.ct n0)) (Bool.and ((NT.ch n2) == (NT.ch n0)) (Bool.and ((NT.ca n2) == (NT.ca n0)) (Bool.and ((NT.cb n2) == (NT.cb n0)) .true)))))) (Bool.and (Bool.and ((NT.ek n2) == (NT.ek n0)) (Bool.and ((NT.ea n2) == (NT.ea n0)) (Bool.and ((NT.er n2) == (NT.er n0)) .true))) .true)))))))
 (br (eqQ ((textN n0).length : Int) 0)
 ((pickOK at_ ((textN n0).length : Int)) ∧ ((inP 0 (kQ at_ (textN n0)) (textN n0)) ∧ (([(HV.int .u8 c)] = [(HV.int .u8 c)]) ∧ ((inP 0 (kQ at_ (textN n0)) (textN n0)) ∧ (((HV.str (cutL (textN n0) (kQ at_ (textN n0)))) = (HV.str (cutL (textN n0) (kQ at_ (textN n0))))) ∧ ((fit2 (cutL (textN n0) (kQ at_ (textN n0))) [(UInt8.ofNat (Int.toNat c))]) ∧ ((inP (wrapQ .i64 (addQ (kQ at_ (textN n0)) 1)) ((textN n0).length : Int) (textN n0)) ∧ ((fit2 ((cutL (textN n0) (kQ at_ (textN n0))) ++ [(UInt8.ofNat (Int.toNat c))]) (cutR (textN n0) (wrapQ .i64 (addQ (kQ at_ (textN n0)) 1)))) ∧ ((inP 0 (kQ at_ (textN n0)) (textN n0)) ∧ ((inP (kQ at_ (textN n0)) ((textN n0).length : Int) (textN n0)) ∧ ((fit2 (textN n0) (textN n0)) ∧ (([(HV.str (z1Q (textN n0) (kQ at_ (textN n0)) c)), (HV.str (cutL (textN n0) (kQ at_ (textN n0)))), (HV.str (cutR (textN n0) (kQ at_ (textN n0)))), (HV.str ((textN n0) ++ (textN n0)))] = [(HV.str (z1Q (textN n0) (kQ at_ (textN n0)) c)), (HV.str (cutL (textN n0) (kQ at_ (textN n0)))), (HV.str (cutR (textN n0) (kQ at_ (textN n0)))), (HV.str ((textN n0) ++ (textN n0)))]) ∧ ((inP (kQ at_ (textN n0)) ((textN n0).length : Int) (textN n0)) ∧ (((HV.str (cutR (textN n0) (kQ at_ (textN n0)))) = (HV.str (cutR (textN n0) (kQ at_ (textN n0))))) ∧ ((inP 0 (kQ at_ (textN n0)) (textN n0)) ∧ (((HV.str (cutL (textN n0) (kQ at_ (textN n0)))) = (HV.str (cutL (textN n0) (kQ at_ (textN n0))))) ∧ ((inP (wrapQ .i64 (addQ (kQ at_ (textN n0)) 1)) ((textN n0).length : Int) (textN n0)) ∧ (((HV.str (cutR (textN n0) (wrapQ .i64 (addQ (kQ at_ (textN n0)) 1)))) = (HV.str (cutR (textN n0) (wrapQ .i64 (addQ (kQ at_ (textN n0)) 1))))) ∧ (((HV.str [(UInt8.ofNat (Int.toNat c))]) = (HV.str [(UInt8.ofNat (Int.toNat c))])) ∧ (([(HV.int .u8 c)] = [(HV.int .u8 c)]) ∧ ((inP 0 (kQ at_ (textN n0)) (textN n0)) ∧ (((HV.str (cutL (textN n0) (kQ at_ (textN n0)))) = (HV.str (cutL (textN n0) (kQ at_ (textN n0))))) ∧ (iterT K other (textN n0) (z1Q (textN n0) (kQ at_ (textN n0)) c) (iterT K other (textN n0) (cutL (textN n0) (kQ at_ (textN n0))) (iterT K other (textN n0) (cutR (textN n0) (kQ at_ (textN n0))) (iterT K other (textN n0) (textN n0 ++ textN n0) (K (.returned (HV.bool .true)))))))))))))))))))))))))))))
 (K (.returned (HV.bool .false))))
 (K (.returned (HV.bool .false))))))))))))))))))
theorem t6 (source : Int) (x0 : Int) (x1 : Int) (x2 : Int) (x3 : Int) (x4 : Int) (x5 : Int) (at_ : Int) (c : Int) (other : Int) (K : Go.HI.HEnd → Prop) : goal6 source x0 x1 x2 x3 x4 x5 at_ c other K = tree6 source x0 x1 x2 x3 x4 x5 at_ c other (fun e => K e ∧ some ksBlk = some ksBlk) := by kernel_rfl

end
end Go.HI

/- dialtonelaw43.CarrierReads answers true. -/
namespace Go.HI
open Go Go.Proofs
noncomputable section

/-! ### The summaries -/
theorem ks_of {σ : Store} (h : hasKs σ = true) : σ.blks.get 3 = some ksBlk ∧ σ.globs = [3] := by
  unfold hasKs at h
  simp only [Bool.and_eq_true, beq_iff_eq] at h
  obtain ⟨h1, h2⟩ := h
  refine ⟨?_, h2⟩
  split at h1
  · rename_i b hb
    rw [hb, HBlk.beq_eq h1]
  · cases h1

theorem sane_at {σ : Store} (h3 : σ.blks.get 3 = some ksBlk) (hg : σ.globs = [3]) : HCall Tryz.prog 13 [] σ (fun e σ' => e = .returned (.bool true) ∧ σ' = σ) := by
  refine HCall.withWF fun hwf => ?_
  have hp : PairsOK σ [(3, 3)] 4 [3] := by
    refine ⟨?_, ?_, ?_, ?_, ?_⟩
    · intro p hp
      simp only [List.mem_singleton] at hp
      subst hp
      exact ⟨by decide, hwf.lt h3⟩
    · intro p hp q hq _
      simp only [List.mem_singleton] at hp hq
      rw [hp, hq]
    · intro p hp
      simp only [List.mem_singleton] at hp
      subst hp
      exact ⟨_, _, h3, ks_noRef, rfl⟩
    · intro p hp c f q v hb
      simp only [List.mem_singleton] at hp
      subst hp
      simp only at hb
      rw [h3] at hb
      cases hb
    · intro g hgg
      have : g = 3 := by simpa using hgg
      subst this
      exact ⟨by simp, by rw [hg]; simp⟩
  have hsm : small σ [(3, 3)] 4 [3] = σt := by
    simp only [small, smallT, h3, cellsOf?, ksBlk, σt]
  have := HCall.ofSmallPure (e := .returned (.bool true)) hp rfl (by
    rw [hsm]
    exact sane_small)
  exact this

theorem sumSane_ok : SumFOK Tryz.prog 13 sumSane := by
  intro args σ s hs R hR
  unfold sumSane at hs
  split at hs
  · cases hk : hasKs σ with
    | false => rw [hk] at hs; cases hs
    | true =>
      rw [hk] at hs
      cases hs
      obtain ⟨h1, h2⟩ := ks_of hk
      exact (sane_at h1 h2).mono fun e σ' ⟨e1, e2⟩ => by rw [e1, e2]; exact hR
  · cases hs

theorem sumMade_ok : SumFOK Tryz.prog 28 sumMade := by
  intro args σ s hs R hR
  unfold sumMade at hs
  split at hs
  · cases hs
    obtain ⟨⟨h, h0, h1, h2, h3, h4, h5⟩, hR⟩ : madeOK _ _ _ _ _ _ _ ∧ _ := hR
    refine (ends_28 h h0 h1 h2 h3 h4 h5 σ).mono fun e σ' ⟨⟨n, e1, e2, e3⟩, e4⟩ => ?_
    rw [e3, e4]
    exact hR n ⟨e1, e2⟩
  · cases hs

theorem ntOf_eq {v : HV} {n : NT} (h : ntOf v = some n) : v = ntHV n := by
  unfold ntOf at h
  split at h
  · cases h; rfl
  · cases h

theorem sumText_ok : SumFOK Tryz.prog 17 sumText := by
  intro args σ s hs R hR
  unfold sumText at hs
  split at hs
  · split at hs
    · rename_i n hn
      cases hs
      rw [ntOf_eq hn]
      refine (ends_17 n σ).mono fun e σ' ⟨e1, e2⟩ => ?_
      rw [e1, e2]
      unfold textEnd
      cases hf : formedN n with
      | true => rw [hf] at hR; exact hR
      | false => rw [hf] at hR; exact hR
    · cases hs
  · cases hs

theorem rdB_iff {so : Int} {s : List UInt8} : rdB so s = true ↔ ∃ n, Said so s n := by
  unfold rdB
  simp only [decide_eq_true_eq]

theorem sumRead_ok : SumFOK Tryz.prog 19 sumRead := by
  intro args σ s hs R hR
  unfold sumRead at hs
  split at hs
  · rename_i so t
    cases hs
    obtain ⟨hsh, hR⟩ : shortS t ∧ _ := hR
    refine (ends_19 (so := so) hsh σ).mono fun e σ' ⟨e1, e2⟩ => ?_
    rw [e2]
    cases hb : rdB so t with
    | true =>
      rw [hb] at hR
      rcases e1 with ⟨n, h1, h2⟩ | ⟨h1, _⟩
      · rw [h2]; exact hR n h1
      · exact absurd (rdB_iff.1 hb) h1
    | false =>
      rw [hb] at hR
      rcases e1 with ⟨n, h1, h2⟩ | ⟨_, h2⟩
      · exact (ff (rdB_iff.2 ⟨n, h1⟩) hb).elim
      · rw [h2]; exact hR
  · cases hs

theorem sums6S_ok : SumsSOK Tryz.prog sums6S := sumsOf_ok fun p hp => by
  simp only [List.mem_cons, List.not_mem_nil, or_false] at hp
  rcases hp with rfl | rfl | rfl | rfl | rfl
  · exact sumSane_ok
  · exact sumPick_ok pick_15
  · exact sumMade_ok
  · exact sumText_ok
  · exact sumRead_ok

/-! ### The law -/
theorem putL_len : ∀ xs : List Int, (putL xs).length ≤ 10 * xs.length
  | [] => by simp [putL]
  | x :: xs => by
    rw [putL, List.length_append, List.length_cons]
    have h1 := putB_length x
    have h2 := putL_len xs
    omega

theorem nums_len (n : NT) : (numsN n).length ≤ 8 ∧ ∃ xs, numsN n = n.ki :: xs := by
  unfold numsN
  split
  · exact ⟨by simp, _, rfl⟩
  · split
    · exact ⟨by simp, _, rfl⟩
    · exact ⟨by simp, _, rfl⟩

theorem putB_pos (v : Int) : 0 < (putB v).length := by
  unfold putB
  rw [lebI]
  cases ltQ (zig v) 128 with
  | true => simp
  | false => simp

theorem text_len (n : NT) : 0 < (textN n).length ∧ (textN n).length ≤ 80 := by
  obtain ⟨h1, xs, h2⟩ := nums_len n
  refine ⟨?_, ?_⟩
  · unfold textN
    rw [h2, putL, List.length_append]
    have := putB_pos n.ki
    omega
  · have := putL_len (numsN n)
    unfold textN
    omega

theorem formed_so {n : NT} (h : formedN n = true) {p : Int} (hp : 0 ≤ p ∧ p ≤ 7) : formedN { n with so := p } = true := by
  obtain ⟨_, h2, h3⟩ := formedQ_iff.1 h
  exact formedQ_iff.2 ⟨hp, h2, h3⟩

def isTrue (e : HEnd) : Prop := e = .returned (.bool true)
def isTrueK (e : HEnd) : Prop := isTrue e ∧ some ksBlk = some ksBlk

theorem iterT_ok {other : Int} {n : NT} {z : List UInt8} {X : Prop} (ho : i64 other) (hn : formedN n = true) (hz : z.length ≤ 1000) (hX : X) : iterT isTrueK other (textN n) z X := by
  have hp := pickZ_bounds (c := other) (n := 8) (by decide)
  have hpk : pickOK other 8 := ⟨ho, by decide⟩
  refine ⟨hpk, by unfold shortS; omega, nodeB (fun h => nodeB (fun _ => hX) fun he => ?_) fun _ m hm => ?_⟩
  · have e : z = textN n := by simpa using he
    have : rdB (pickZ other 8) z = true := rdB_iff.2 ⟨{ n with so := pickZ other 8 }, rfl, formed_so hn ⟨hp.1, by omega⟩, by rw [e]; rfl⟩
    exact (ff this h).elim
  · obtain ⟨m1, m2, m3⟩ := hm
    refine nodeB (fun h => (ff m2 h).elim) fun _ => nodeB (fun _ => ⟨hpk, rfl, nodeB (fun _ => hX) fun h => ?_⟩) fun h => ?_
    · have : eqQ m.so (pickZ other 8) = true := eqQ_of m1
      rw [this] at h
      cases h
    · rw [m3] at h
      have : (z == z) = true := by simp
      rw [this] at h
      cases h

theorem law6 {source x0 x1 x2 x3 x4 x5 at_ c other : Int} (hs : i64 source) (h0 : i64 x0) (h1 : i64 x1) (h2 : i64 x2) (h3 : i64 x3) (h4 : i64 x4) (h5 : i64 x5) (ha : i64 at_) (ho : i64 other) : goal6 source x0 x1 x2 x3 x4 x5 at_ c other isTrue := by
  rw [t6]
  show tree6 source x0 x1 x2 x3 x4 x5 at_ c other isTrueK
  unfold tree6
  have hp := pickZ_bounds (c := source) (n := 8) (by decide)
  refine ⟨trivial, rfl, ⟨hs, by decide⟩, trivial, rfl, ⟨⟨hp.1, by omega⟩, h0, h1, h2, h3, h4, h5⟩, fun n hn => ⟨trivial, ?_⟩⟩
  obtain ⟨n1, n2⟩ := hn
  obtain ⟨l1, l2⟩ := text_len n
  have said : Said n.so (textN n) n := ⟨rfl, n2, rfl⟩
  refine nodeB (fun h => (ff n2 h).elim) fun _ => ⟨by unfold shortS; omega, nodeB (fun h => (ff (rdB_iff.2 ⟨n, said⟩) h).elim) fun _ m hm => ?_⟩
  have e := said_once hm said
  subst e
  have hk := pickZ_bounds (c := at_) (n := ((textN m).length : Int)) (by omega)
  have hk : 0 ≤ kQ at_ (textN m) ∧ kQ at_ (textN m) < ((textN m).length : Int) := hk
  have hw : wrapQ .i64 (addQ (kQ at_ (textN m)) 1) = kQ at_ (textN m) + 1 := by rw [addQ_eq, wrapI64 ⟨by omega, by omega⟩]
  have cl : ∀ k, (cutL (textN m) k).length ≤ 80 := fun k => by
    unfold cutL
    rw [List.drop_zero, List.length_take]
    omega
  have cr : ∀ k, (cutR (textN m) k).length ≤ 80 := fun k => by
    unfold cutR
    rw [List.length_drop, List.length_take]
    omega
  have z1 : ∀ k, (z1Q (textN m) k c).length ≤ 1000 := fun k => by
    unfold z1Q
    rw [List.length_append, List.length_append]
    have h1 := cl k
    have h2 := cr (wrapQ .i64 (addQ k 1))
    simp only [List.length_singleton]
    omega
  refine nodeB (fun _ => ?_) fun h => ?_
  · refine nodeB (fun _ => ?_) fun h => ?_
    · rw [hw]
      refine ⟨⟨ha, by omega⟩, ⟨by omega, by omega, by omega⟩, rfl, ⟨by omega, by omega, by omega⟩, rfl, fit_of ?_ ?_, ⟨by omega, by omega, by omega⟩, fit_of ?_ ?_, ⟨by omega, by omega, by omega⟩, ⟨by omega, by omega, by omega⟩, fit_of ?_ ?_, rfl, ⟨by omega, by omega, by omega⟩, rfl, ⟨by omega, by omega, by omega⟩, rfl, ⟨by omega, by omega, by omega⟩, rfl, rfl, rfl, ⟨by omega, by omega, by omega⟩, rfl, ?_⟩
      · have := cl (kQ at_ (textN m)); omega
      · simp
      · rw [List.length_append]; have := cl (kQ at_ (textN m)); simp only [List.length_singleton]; omega
      · have := cr (kQ at_ (textN m) + 1); omega
      · omega
      · omega
      · refine iterT_ok ho n2 (z1 _) (iterT_ok ho n2 ?_ (iterT_ok ho n2 ?_ (iterT_ok ho n2 ?_ ⟨rfl, rfl⟩)))
        · have := cl (kQ at_ (textN m)); omega
        · have := cr (kQ at_ (textN m)); omega
        · rw [List.length_append]; omega
    · have : ((textN m).length : Int) = 0 := eqQ_true h
      omega
  · simp at h

set_option maxRecDepth 100000 in
/-- In the store in which it begins. -/
theorem ends_6 {source x0 x1 x2 x3 x4 x5 at_ c other : Int} (hs : i64 source) (h0 : i64 x0) (h1 : i64 x1) (h2 : i64 x2) (h3 : i64 x3) (h4 : i64 x4) (h5 : i64 x5) (ha : i64 at_) (ho : i64 other) :
    HCall Tryz.prog 6 [.int .i64 source, .agg [.int .i64 x0, .int .i64 x1, .int .i64 x2, .int .i64 x3, .int .i64 x4, .int .i64 x5], .int .i64 at_, .int .u8 c, .int .i64 other] σt (fun e σ' => isTrue e ∧ σ'.blks.get 3 = some ksBlk) :=
  (erS_ok VS_ok V0_eq mixed0 B0_ok sums6S_ok 100 100 (Nat.le_refl _)).2 6 _ σt _ (by
    show goal6 source x0 x1 x2 x3 x4 x5 at_ c other isTrue
    exact law6 hs h0 h1 h2 h3 h4 h5 ha ho)

end
end Go.HI
