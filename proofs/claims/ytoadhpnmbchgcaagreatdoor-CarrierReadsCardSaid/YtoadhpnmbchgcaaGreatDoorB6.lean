/- The evaluator with functions that defer. -/
import Derived.Test.YtoadhpnmbchgcaaGreatDoorB5
import Derived.Test.YtoadhpnmbchgcaaGreatDoorB1
namespace Go.HI
noncomputable section

variable {P : Program} {α : Type}

def erFnD (A : Ans α) (V : OpEv) (P : Program) (D : FuncId → Bool) (S : Sums) (E : Er α) (f : FuncId) (args : List HV) (σ : Store) (k : KE α) : α :=
  match S f with
  | some g => match g args σ with
    | some p => k p.1 p.2
    | none => A.fail
  | none => Bool.rec (erBody A P E f args σ k) (erDefers A V P E f args σ k) (D f)

def erD (A : Ans α) (V : OpEv) (P : Program) (B D : FuncId → Bool) (S : Sums) (n : Nat) : Er α := erG A V P B (erFnD A V P D S) n

variable {A : Ans α} {φ : α → Prop} {V : OpEv}

theorem erFnD_ok (hA : A.Good φ) (hV : V = evalOp P) {D : FuncId → Bool} {S : Sums} (hS : SumsOK P S) {E : Er α} (h1 : CodeK P φ E.code) : FnK P φ (erFnD A V P D S E) := by
  intro f args σ k h
  unfold erFnD at h
  split at h
  · rename_i g hg
    split at h
    · rename_i p hp
      exact hS f g hg args σ p.1 p.2 hp _ h
    · exact (hA.fail h).elim
  · cases hd : D f with
    | true => rw [hd] at h; exact erDefers_ok hA hV h1 h
    | false => rw [hd] at h; exact erBody_ok hA h1 h

theorem erD_ok (hA : A.Good φ) (hV : V = evalOp P) (hm : P.follows .mixedOrders = true) {B D : FuncId → Bool} {S : Sums} (hB : ∀ f, B f = true → hasBody P f = true) (hS : SumsOK P S) :
    ∀ n m, m ≤ n → CodeK P φ (erD A V P B D S m).code ∧ FnK P φ (erD A V P B D S m).fn := erG_ok hA hV hm hB fun _ h1 _ => erFnD_ok hA hV hS h1

/-- A call, one outcome. -/
def callD1 (V : OpEv) (P : Program) (B D : FuncId → Bool) (S : Sums) (n : Nat) (f : FuncId) (args : List HV) (σ : Store) : Option (HEnd × Store) :=
  (erD A1 V P B D S n).fn f args σ fun e σ => some (e, σ)

theorem callD1_ok (hV : V = evalOp P) (hm : P.follows .mixedOrders = true) {B D : FuncId → Bool} {S : Sums} (hB : ∀ f, B f = true → hasBody P f = true) (hS : SumsOK P S) {n : Nat} {f : FuncId} {args : List HV} {σ : Store} {e : HEnd} {σ' : Store}
    (h : callD1 V P B D S n f args σ = some (e, σ')) {R : HEnd → Store → Prop} (hR : R e σ') : HCall P f args σ R := by
  have hx : ok1 R ((erD A1 V P B D S n).fn f args σ fun e σ => some (e, σ)) := by
    unfold callD1 at h
    rw [h]
    exact hR
  exact (erD_ok (A1_good R) hV hm hB hS n n (Nat.le_refl _)).2 f args σ _ hx

/-- A call, all outcomes. -/
def callDL (V : OpEv) (P : Program) (B D : FuncId → Bool) (S : Sums) (n : Nat) (f : FuncId) (args : List HV) (σ : Store) : Outs :=
  (erD AL V P B D S n).fn f args σ outK

theorem callDL_ok (hV : V = evalOp P) (hm : P.follows .mixedOrders = true) {B D : FuncId → Bool} {S : Sums} (hB : ∀ f, B f = true → hasBody P f = true) (hS : SumsOK P S) {n : Nat} {f : FuncId} {args : List HV} {σ : Store} {l : List (HEnd × Store)}
    (h : callDL V P B D S n f args σ = some l) {R : HEnd → Store → Prop} (hR : ∀ p ∈ l, R p.1 p.2) : HCall P f args σ R := by
  have hx : okL R ((erD AL V P B D S n).fn f args σ outK) := by
    unfold callDL at h
    rw [h]
    exact hR
  exact ((erD_ok (AL_good R) hV hm hB hS n n (Nat.le_refl _)).2 f args σ _ hx).mono fun e σ he => he (e, σ) (by simp)

end
end Go.HI
