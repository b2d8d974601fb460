/- Trees of ways: what the evaluator asks, in short words. -/
import Derived.Test.YtoadhpnmbchgcaaGreatDoorNc
import Derived.Test.YtoadhpnmbchgcaaGreatDoorC3
namespace Go.HI
open Go.Proofs

/-- Two ways: the second where the condition holds. -/
noncomputable abbrev br (b : Bool) (F T : Prop) : Prop := @Bool.rec (fun _ => Prop) F T b
theorem br_iff {b : Bool} {F T : Prop} : br b F T ↔ (b = true → T) ∧ (b = false → F) := by
  cases b <;> simp [br]

def lf (R : HEnd → Prop) (e : HEnd) : Prop := e.bare = true ∧ R e

/-- From low to high. -/
def inQ (n lo hi : Int) : Bool := and (not (ltQ n lo)) (not (ltQ hi n))
theorem inQ_iff {n lo hi : Int} : inQ n lo hi = true ↔ lo ≤ n ∧ n ≤ hi := by
  simp only [inQ, ltQ_eq, Bool.and_eq_true, Bool.not_eq_true', decide_eq_false_iff_not]
  omega

noncomputable def VS : OpEvS := evalOpS Tryz.prog (fun _ => false)

theorem hcall_of_tree {V : OpEvS} (hV : V.OK Tryz.prog) {D : FuncId → Bool} {S : SumsS} (hS : SumsSOK Tryz.prog S) {n : Nat} {f : FuncId} {args : List HV} {R : HEnd → Prop} (ha : HV.bareL args = true)
    (h : (erS V V0 Tryz.prog B0 D S n).fn f args emptyS (fun e _ => lf R e)) (σ : Store) : HCall Tryz.prog f args σ (fun e σ' => R e ∧ σ' = σ) :=
  HCall.ofEmpty ha ((erS_ok hV V0_eq mixed0 B0_ok hS n n (Nat.le_refl _)).2 f args emptyS _ h) σ

/-- A summary that comes to one tree of ends. -/
theorem SumsSOK.of_end {P : Program} {f : FuncId} {args : List HV} {σ : Store} {R : HEnd → Store → Prop} {s : HEnd → Prop} (h : HCall P f args σ (fun e σ' => s e ∧ σ' = σ)) (hR : ∀ e, s e → R e σ) : HCall P f args σ R :=
  h.mono fun e σ' ⟨h1, h2⟩ => by rw [h2]; exact hR e h1

end Go.HI
