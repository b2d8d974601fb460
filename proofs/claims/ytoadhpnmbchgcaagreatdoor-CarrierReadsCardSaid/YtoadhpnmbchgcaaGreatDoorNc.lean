/- Calls without addresses: what they come to in the empty store, they come to in every store. -/
import Derived.Test.YtoadhpnmbchgcaaGreatDoorNb
import Derived.Test.YtoadhpnmbchgcaaGreatDoorB2
namespace Go.HI
variable {P : Program}

def noPlace (_ : Nat) : Bool := false
/-- Without addresses. -/
def HV.bare (v : HV) : Bool := v.refs noPlace
def HV.bareL (v : List HV) : Bool := HV.refsL noPlace v
def HEnd.bare (e : HEnd) : Bool := e.refs noPlace

mutual
theorem HV.bare_refs {p : Nat → Bool} : ∀ {h : HV}, h.bare = true → h.refs p = true
  | .ptr (some (b, _)), h => by simp [HV.bare, HV.refs, noPlace] at h
  | .slice (some (b, _)) _ _, h => by simp [HV.bare, HV.refs, noPlace] at h
  | .map (some r), h => by simp [HV.bare, HV.refs, noPlace] at h
  | .func fn first cap, h => by
    simp only [HV.bare, HV.refs, Bool.and_eq_true] at h ⊢
    refine ⟨⟨?_, HV.bareL_refs h.1.2⟩, HV.bareL_refs h.2⟩
    cases fn <;> first | rfl | exact absurd h.1.1 (by simp [noPlace])
  | .iface _ x, h => by
    simp only [HV.bare, HV.refs] at h ⊢
    exact HV.bare_refs h
  | .agg cs, h => by
    simp only [HV.bare, HV.refs] at h ⊢
    exact HV.bareL_refs h
  | .tuple cs, h => by
    simp only [HV.bare, HV.refs] at h ⊢
    exact HV.bareL_refs h
  | .any, _ | .bool _, _ | .int .., _ | .str _, _ | .pad .., _ | .ptr none, _ | .slice none _ _, _ | .map none, _ | .nilFunc, _ | .nilIface, _ => by simp [HV.refs]
theorem HV.bareL_refs {p : Nat → Bool} : ∀ {h : List HV}, HV.bareL h = true → HV.refsL p h = true
  | [], _ => rfl
  | x :: xs, h => by
    simp only [HV.bareL, HV.refsL, Bool.and_eq_true] at h ⊢
    exact ⟨HV.bare_refs h.1, HV.bareL_refs h.2⟩
end

mutual
theorem HV.bare_ren {ι : Nat → Nat} : ∀ {h : HV}, h.bare = true → h.ren ι = h
  | .ptr (some (b, _)), h => by simp [HV.bare, HV.refs, noPlace] at h
  | .slice (some (b, _)) _ _, h => by simp [HV.bare, HV.refs, noPlace] at h
  | .map (some r), h => by simp [HV.bare, HV.refs, noPlace] at h
  | .func fn first cap, h => by
    simp only [HV.bare, HV.refs, Bool.and_eq_true] at h
    rw [HV.ren, HV.bareL_ren h.1.2, HV.bareL_ren h.2]
    congr 1
    cases fn <;> first | rfl | exact absurd h.1.1 (by simp [noPlace])
  | .iface _ x, h => by
    simp only [HV.bare, HV.refs] at h
    rw [HV.ren, HV.bare_ren h]
  | .agg cs, h => by
    simp only [HV.bare, HV.refs] at h
    rw [HV.ren, HV.bareL_ren h]
  | .tuple cs, h => by
    simp only [HV.bare, HV.refs] at h
    rw [HV.ren, HV.bareL_ren h]
  | .any, _ | .bool _, _ | .int .., _ | .str _, _ | .pad .., _ | .ptr none, _ | .slice none _ _, _ | .map none, _ | .nilFunc, _ | .nilIface, _ => by simp [HV.ren]
theorem HV.bareL_ren {ι : Nat → Nat} : ∀ {h : List HV}, HV.bareL h = true → HV.renL ι h = h
  | [], _ => rfl
  | x :: xs, h => by
    simp only [HV.bareL, HV.refsL, Bool.and_eq_true] at h
    rw [HV.renL, HV.bare_ren h.1, HV.bareL_ren h.2]
end

theorem HEnd.bare_refs {p : Nat → Bool} {e : HEnd} (h : e.bare = true) : e.refs p = true := by cases e <;> exact HV.bare_refs h
theorem HEnd.bare_ren {ι : Nat → Nat} {e : HEnd} (h : e.bare = true) : e.ren ι = e := by cases e <;> simp only [HEnd.ren] <;> rw [HV.bare_ren h]

def emptyS : Store := { blks := .e, next := 0, fams := .e, globs := [] }

theorem Rel.bare {ρ : Ren} {σ : Store} {w : World} (h : Rel ρ σ w) : Rel ρ { blks := .e, next := σ.next, fams := .e, globs := [] } w where
  wf := ⟨fun b _ => rfl, fun f _ => rfl, fun b c f p v hx => by simp at hx, fun b b' c c' f p p' v hx => by simp at hx⟩
  dom := h.dom
  blk := fun b L x hL hx => by simp at hx
  inj := fun b b' L L' x x' hL hL' hx => by simp at hx
  glob := fun g hg => by simp at hg

theorem HCall.ofEmpty {f : FuncId} {args : List HV} {R : HEnd → Prop} (ha : HV.bareL args = true) (h : HCall P f args emptyS (fun e _ => e.bare = true ∧ R e)) (σb : Store) : HCall P f args σb (fun e σ' => R e ∧ σ' = σb) := by
  have h1 : HCall P f args emptyS (fun e σ' => (e.bare = true ∧ R e) ∧ σ'.blks = .e ∧ σ'.fams = .e ∧ σ'.globs = []) :=
    HCall.told h fun e σ' he => ⟨{ blks := .e, next := σ'.next, fams := .e, globs := [] }, ⟨he, rfl, rfl, rfl⟩, rfl, fun ρ w hR => hR.bare⟩
  have h2 : HCall P f args emptyS (fun e σ' => (e.bare = true ∧ R e) ∧ σ'.next = 0 ∧ (∀ f, σ'.fams.get f = none) ∧ σ'.globs = [] ∧ ∀ b, σ'.blks.get b = none) := by
    refine h1.gc fun e σ' ⟨he, hb, hf, hg⟩ => .inr ⟨0, Nat.le_refl _, ⟨Nat.zero_le _, fun b x hlt => absurd hlt (Nat.not_lt_zero _), fun g hg' => by rw [hg] at hg'; simp at hg'⟩, HEnd.bare_refs he.1, he, rfl, fun f => ?_, hg, fun b => ?_⟩
    · simp only [Store.gc, hf, T.get_filt]; split <;> rfl
    · simp only [Store.gc, hb, T.get_filt]; split <;> rfl
  have hp : PairsOK σb [] 0 [] := ⟨fun p hp => (by cases hp), fun p hp => (by cases hp), fun p hp => (by cases hp), fun p hp => (by cases hp), fun g hg => (by simp at hg)⟩
  have h3 : HCall P f args (small σb [] 0 []) (fun e σ' => (e.bare = true ∧ R e) ∧ σ'.next = 0 ∧ (∀ f, σ'.fams.get f = none) ∧ σ'.globs = [] ∧ ∀ b, σ'.blks.get b = none) := h2
  have h4 := HCall.ofSmall (R' := fun e σ' => R e ∧ σ' = σb) hp (HV.bareL_refs ha) h3 (by
    rintro e σ' ⟨⟨h1, h2⟩, g1, g2, g3, g4⟩
    refine ⟨⟨g1, g2, g3, fun b c hb => ?_, fun b _ => g4 b⟩, by rw [HEnd.bare_ren h1]; exact h2, ?_⟩
    · have : (small σb [] 0 []).blks.get b = none := rfl
      rw [this] at hb; cases hb
    · unfold Store.merge
      obtain ⟨blks, next, fams, globs⟩ := σb
      simp only [Store.mk.injEq, and_true]
      refine ⟨setAll_same _ _ fun b x hx => ?_, by omega, setAll_same _ _ fun b x hx => by rw [g2 b] at hx; cases hx⟩
      rw [g4 b] at hx; cases hx)
  rwa [HV.bareL_ren ha] at h4

end Go.HI
