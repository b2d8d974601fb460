/- Summaries from small stores: what stays, and what one block becomes. -/
import Derived.Test.YtoadhpnmbchgcaaGreatDoorB1
namespace Go.HI
noncomputable section

variable {P : Program}

theorem T.setF_same {α : Type} {x : α} : ∀ (f : Nat) (t : T α) (i : Nat), i < f → t.getC i = some x → T.setF f t i x = t
  | 0, _, _, h, _ => by omega
  | f + 1, .e, i, _, hg => by simp [T.getC] at hg
  | f + 1, .n l v r, 0, _, hg => by
    simp only [T.getC] at hg
    simp [T.setF, T.left, T.right, hg]
  | f + 1, .n l v r, j + 1, h, hg => by
    simp only [T.getC] at hg
    simp only [T.setF, T.left, T.right, T.here]
    split
    · rename_i hj
      rw [if_pos hj] at hg
      rw [T.setF_same f l (j / 2) (by omega) hg]
    · rename_i hj
      rw [if_neg hj] at hg
      rw [T.setF_same f r (j / 2) (by omega) hg]

theorem T.set_same {α : Type} {x : α} {t : T α} {i : Nat} (h : t.get i = some x) : t.set i x = t := by
  rw [T.set_setC]
  rw [T.get_getC] at h
  exact T.setF_same _ t i (by omega) h

theorem setAll_same {α : Type} {g : Nat → Option α} {ι : Nat → Nat} : ∀ (l : List Nat) (t : T α), (∀ b x, g b = some x → t.get (ι b) = some x) → setAll g ι l t = t
  | [], _, _ => rfl
  | b :: l, t, h => by
    rw [setAll]
    cases hg : g b with
    | none => exact setAll_same l t h
    | some x =>
      simp only
      rw [T.set_same (h b x hg)]
      exact setAll_same l t h

theorem HCall.withWF {f : FuncId} {args : List HV} {σ : Store} {R : HEnd → Store → Prop} (h : WF σ → HCall P f args σ R) : HCall P f args σ R :=
  fun n ρ w args' hR ha => h hR.wf n ρ w args' hR ha

section
variable {σb : Store} {l : List (Nat × Nat)} {n : Nat} {gl : List Nat}

/-- The kind of block that a small store has. -/
theorem small_kind {b : Nat} {x : HBlk} (h : (small σb l n gl).blks.get b = some x) : ∃ c, x = .cells c none := by
  obtain ⟨_, c, _, _, h⟩ := smallT_get h
  exact ⟨c, h⟩

structure Small (σ σ' : Store) : Prop where
  next : σ'.next = σ.next
  fams : ∀ f, σ'.fams.get f = none
  globs : σ'.globs = σ.globs
  same : ∀ b c, σ.blks.get b = some (.cells c none) → ∃ c', σ'.blks.get b = some (.cells c' none) ∧ c'.length = c.length
  none : ∀ b, σ.blks.get b = none → σ'.blks.get b = none

theorem Small.after {σ' : Store} (h : Small (small σb l n gl) σ') : After (small σb l n gl) σ' where
  keep := fun b hb => by
    obtain ⟨x, hx⟩ := present_iff.1 hb
    obtain ⟨c, rfl⟩ := small_kind hx
    obtain ⟨c', h1, _⟩ := h.same b c hx
    exact present_iff.2 ⟨_, h1⟩
  old := fun b _ hb => by
    obtain ⟨x, hx⟩ := present_iff.1 hb
    cases hq : (small σb l n gl).blks.get b with
    | none => rw [h.none b hq] at hx; cases hx
    | some y => exact present_iff.2 ⟨y, hq⟩
  oldFam := fun f _ hf => by rw [h.fams f] at hf; cases hf
  flat := fun b x hx => by
    cases hq : (small σb l n gl).blks.get b with
    | none => rw [h.none b hq] at hx; cases hx
    | some y =>
      obtain ⟨c, rfl⟩ := small_kind hq
      obtain ⟨c', h1, _⟩ := h.same b c hq
      rw [h1] at hx
      cases hx
      simp [HBlk.flat, HV.refsL_all]
  kept := fun b c k c' hb => by obtain ⟨c, hc⟩ := small_kind hb; cases hc
  kind := fun b c y hb hy => by
    obtain ⟨c', h1, h2⟩ := h.same b c hb
    rw [h1] at hy
    cases hy
    exact ⟨c', rfl, h2⟩

theorem present_small_of {a b : Nat} (hp : PairsOK σb l n gl) (h : (a, b) ∈ l) : present (small σb l n gl) a = true := by
  have : ∃ x, (smallT σb l).get a = some x := by
    have hcells := hp.cells
    clear hp
    induction l with
    | nil => cases h
    | cons p l ih =>
      obtain ⟨c, k, hc, _⟩ := hcells p (List.mem_cons_self ..)
      simp only [smallT, hc, cellsOf?]
      rw [T.get_set]
      split
      · exact ⟨_, rfl⟩
      · rename_i e
        rcases List.mem_cons.1 h with e' | h2
        · exact absurd (by rw [← e']) e
        · exact ih h2 fun q hq => hcells q (List.mem_cons_of_mem _ hq)
  exact present_iff.2 this

theorem HCall.ofSmall {f : FuncId} {args : List HV} {R R' : HEnd → Store → Prop} (hp : PairsOK σb l n gl) (ha : HV.refsL (present (small σb l n gl)) args = true) (h : HCall P f args (small σb l n gl) R)
    (hk : ∀ e σ', R e σ' → Small (HI.small σb l n gl) σ' ∧ R' (e.ren (ext (iotaOf l) n σb.next)) (σb.merge σ' (ext (iotaOf l) n σb.next) n)) : HCall P f (HV.renL (iotaOf l) args) σb R' :=
  HCall.frame (small_inside hp) ha h fun e σ' hR => ⟨(hk e σ' hR).1.after, (hk e σ' hR).2⟩

/-- A call that leaves the small store leaves the great one. -/
theorem HCall.ofSmallPure {f : FuncId} {args : List HV} {e : HEnd} (hp : PairsOK σb l n gl) (ha : HV.refsL (present (small σb l n gl)) args = true)
    (h : HCall P f args (small σb l n gl) (fun e' σ' => e' = e ∧ σ'.next = n ∧ (∀ f, σ'.fams.get f = none) ∧ σ'.globs = gl ∧ ∀ b, σ'.blks.get b = (HI.small σb l n gl).blks.get b)) :
    HCall P f (HV.renL (iotaOf l) args) σb (fun e' σ' => e' = e.ren (ext (iotaOf l) n σb.next) ∧ σ' = σb) := by
  refine HCall.ofSmall hp ha h ?_
  rintro e' σ' ⟨rfl, h1, h2, h3, h4⟩
  refine ⟨⟨h1, h2, h3, fun b c hb => ⟨c, (h4 b).trans hb, rfl⟩, fun b hb => (h4 b).trans hb⟩, rfl, ?_⟩
  have h1' : ∀ p ∈ l, ∀ q ∈ l, p.1 = q.1 → p = q := fun p hp' q hq e => hp.once p hp' q hq (.inl e)
  unfold Store.merge
  obtain ⟨blks, next, fams, globs⟩ := σb
  simp only [Store.mk.injEq, and_true]
  refine ⟨setAll_same _ _ fun b x hx => ?_, by omega, setAll_same _ _ fun b x hx => by rw [h2 b] at hx; cases hx⟩
  rw [h4 b] at hx
  cases hq : (HI.small ⟨blks, next, fams, globs⟩ l n gl).blks.get b with
  | none => rw [hq] at hx; cases hx
  | some y =>
    rw [hq] at hx
    obtain ⟨bb, c, hm, hc, rfl⟩ := smallT_get hq
    have hlt := (hp.lt _ hm).1
    have hι : ext (iotaOf l) n next b = bb := by unfold ext; rw [if_pos hlt]; exact iotaOf_mem h1' hm
    obtain ⟨k, hk⟩ := cellsOf_some hc
    simp only at hk
    obtain ⟨c', k', hg, hn, _⟩ := hp.cells _ hm
    simp only at hg
    rw [hg] at hk
    cases hk
    simp only [Option.map_some, Option.some.injEq] at hx
    rw [hι, hg] at hx ⊢
    simp only [HBlk.ren, renK, rekey, noRef_renL hn] at hx
    rw [← hx]

end

/-- A new array has its family for itself. -/
theorem alone_of_new {σ : Store} (hwf : WF σ) {b f p v : Nat} {c : List HV} {F : Fam} (hb : σ.blks.get b = some (.cells c (some (f, p, v)))) (hF : σ.fams.get f = some F) (hl : F.last = 0) :
    ∀ B c' p' v', σ.blks.get B = some (.cells c' (some (f, p', v'))) → B = b := by
  intro B c' p' v' hB
  obtain ⟨F1, h1, h2, _⟩ := hwf.fam _ _ _ _ _ hb
  obtain ⟨F2, h3, h4, _⟩ := hwf.fam _ _ _ _ _ hB
  rw [hF] at h1 h3
  cases h1
  cases h3
  have e1 : v = 0 := by omega
  have e2 : v' = 0 := by omega
  subst e1 e2
  exact hwf.ver _ _ _ _ _ _ _ _ hB hb

/-- One array, for itself. -/
def newArr? (σ : Store) (b : Nat) : Option (List HV) :=
  match σ.blks.get b with
  | some (.cells c (some (f, p, v))) => match σ.fams.get f with
    | some F => if Nat.beq F.last 0 && Nat.ble F.floor v && c.all noRef then some c else none
    | none => none
  | _ => none

theorem newArr_pairs {σ : Store} (hwf : WF σ) {b : Nat} {c : List HV} (h : newArr? σ b = some c) : PairsOK σ [(0, b)] 1 [] ∧ cellsOf? (σ.blks.get b) = some c := by
  unfold newArr? at h
  split at h
  · rename_i c0 f p v hb
    split at h
    · rename_i F hF
      split at h
      · rename_i hc
        cases h
        simp only [Bool.and_eq_true, Nat.beq_eq, Nat.ble_eq] at hc
        refine ⟨⟨?_, ?_, ?_, ?_, ?_⟩, by rw [hb]; rfl⟩
        · intro p hp
          simp only [List.mem_singleton] at hp
          subst hp
          exact ⟨Nat.one_pos, hwf.lt hb⟩
        · intro p hp q hq _
          simp only [List.mem_singleton] at hp hq
          rw [hp, hq]
        · intro p hp
          simp only [List.mem_singleton] at hp
          subst hp
          exact ⟨c, _, hb, hc.2, by simp [Store.validK, hF, hc.1.2]⟩
        · intro p hp c' f' q v' hb'
          simp only [List.mem_singleton] at hp
          subst hp
          simp only at hb'
          rw [hb] at hb'
          cases hb'
          exact alone_of_new hwf hb hF hc.1.1
        · intro g hg; cases hg
      · cases h
    · cases h
  · cases h

end
end Go.HI
