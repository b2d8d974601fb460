/- Dropping blocks; a small store within a great one. -/
import Derived.Test.YtoadhpnmbchgcaaGreatDoorA5
namespace Go.HI
noncomputable section

/-! ### Names in values -/
mutual
def HV.refs (p : Nat → Bool) : HV → Bool
  | .ptr (some (b, _)) => p b
  | .slice (some (b, _)) _ _ => p b
  | .map (some r) => p r
  | .func fn first cap => (match fn with | .yield l => p l | _ => true) && HV.refsL p first && HV.refsL p cap
  | .iface _ x => HV.refs p x
  | .agg cs => HV.refsL p cs
  | .tuple cs => HV.refsL p cs
  | _ => true
def HV.refsL (p : Nat → Bool) : List HV → Bool
  | [] => true
  | x :: xs => HV.refs p x && HV.refsL p xs
end

def renFn (ι : Nat → Nat) : Fn → Fn
  | .yield l => .yield (ι l)
  | f => f

mutual
def HV.ren (ι : Nat → Nat) : HV → HV
  | .ptr (some (b, o)) => .ptr (some (ι b, o))
  | .slice (some (b, o)) n e => .slice (some (ι b, o)) n e
  | .map (some r) => .map (some (ι r))
  | .func fn first cap => .func (renFn ι fn) (HV.renL ι first) (HV.renL ι cap)
  | .iface t x => .iface t (HV.ren ι x)
  | .agg cs => .agg (HV.renL ι cs)
  | .tuple cs => .tuple (HV.renL ι cs)
  | v => v
def HV.renL (ι : Nat → Nat) : List HV → List HV
  | [] => []
  | x :: xs => HV.ren ι x :: HV.renL ι xs
end

theorem HV.renL_length (ι : Nat → Nat) : ∀ l : List HV, (HV.renL ι l).length = l.length
  | [] => rfl
  | x :: xs => by simp [HV.renL, HV.renL_length ι xs]

/-- What is named under one renaming is so under another one. -/
def Agree (p : Nat → Bool) (ι : Nat → Nat) (ρ ρ₂ : Ren) : Prop := ∀ b L, p b = true → ρ b = some L → ρ₂ (ι b) = some L
def Agree' (p : Nat → Bool) (ι : Nat → Nat) (ρ ρ₂ : Ren) : Prop := ∀ b L, p b = true → ρ₂ (ι b) = some L → ρ b = some L

mutual
theorem VRel.ren {p : Nat → Bool} {ι : Nat → Nat} {ρ ρ₂ : Ren} (hs : Agree p ι ρ ρ₂) : ∀ (h : HV) (v : Value), h.refs p = true → VRel ρ h v → VRel ρ₂ (h.ren ι) v
  | .any, _, _, _ => by simp [HV.ren, VRel]
  | .bool _, _, _, h => by simpa [VRel, HV.ren] using h
  | .int _ _, _, _, h => by simpa [VRel, HV.ren] using h
  | .str _, _, _, h => by simpa [VRel, HV.ren] using h
  | .pad .., _, _, h => by simpa [VRel, HV.ren] using h
  | .ptr none, _, _, h => by simpa [VRel, HV.ren] using h
  | .ptr (some (b, o)), v, hp, h => by
    simp only [VRel, HV.ren] at h ⊢
    obtain ⟨L, h1, h2⟩ := h
    exact ⟨L, hs _ _ hp h1, h2⟩
  | .slice none _ _, _, _, h => by simpa [VRel, HV.ren] using h
  | .slice (some (b, o)) n e, v, hp, h => by
    simp only [VRel, HV.ren] at h ⊢
    rcases h with ⟨L, cap, h1, h2⟩ | h
    · exact .inl ⟨L, cap, hs _ _ hp h1, h2⟩
    · exact .inr h
  | .map none, _, _, h => by simpa [VRel, HV.ren] using h
  | .map (some r), v, hp, h => by
    simp only [VRel, HV.ren] at h ⊢
    obtain ⟨L, h1, h2⟩ := h
    exact ⟨L, hs _ _ hp h1, h2⟩
  | .func fn first cap, v, hp, h => by
    simp only [HV.refs, Bool.and_eq_true] at hp
    simp only [VRel, HV.ren] at h ⊢
    obtain ⟨fn', a, c, h1, h2, h3, h4⟩ := h
    refine ⟨fn', a, c, h1, ?_, VsRel.ren hs _ _ hp.1.2 h3, VsRel.ren hs _ _ hp.2 h4⟩
    cases fn with
    | yield l => obtain ⟨L, h5, h6⟩ := h2; exact ⟨L, hs _ _ hp.1.1 h5, h6⟩
    | _ => exact h2
  | .nilFunc, _, _, h => by simpa [VRel, HV.ren] using h
  | .iface t x, v, hp, h => by
    simp only [VRel, HV.ren] at h ⊢
    obtain ⟨x', h1, h2⟩ := h
    exact ⟨x', h1, VRel.ren hs _ _ hp h2⟩
  | .nilIface, _, _, h => by simpa [VRel, HV.ren] using h
  | .agg cs, v, hp, h => by
    simp only [VRel, HV.ren] at h ⊢
    obtain ⟨vs, h1, h2⟩ := h
    exact ⟨vs, h1, VsRel.ren hs _ _ hp h2⟩
  | .tuple cs, v, hp, h => by
    simp only [VRel, HV.ren] at h ⊢
    obtain ⟨vs, h1, h2⟩ := h
    exact ⟨vs, h1, VsRel.ren hs _ _ hp h2⟩
theorem VsRel.ren {p : Nat → Bool} {ι : Nat → Nat} {ρ ρ₂ : Ren} (hs : Agree p ι ρ ρ₂) : ∀ (h : List HV) (v : List Value), HV.refsL p h = true → VsRel ρ h v → VsRel ρ₂ (HV.renL ι h) v
  | [], _, _, h => by simpa [VsRel, HV.renL] using h
  | x :: xs, vs, hp, h => by
    simp only [HV.refsL, Bool.and_eq_true] at hp
    simp only [VsRel, HV.renL] at h ⊢
    obtain ⟨v, vs', h1, h2, h3⟩ := h
    exact ⟨v, vs', h1, VRel.ren hs _ _ hp.1 h2, VsRel.ren hs _ _ hp.2 h3⟩
end

mutual
theorem VRel.unren {p : Nat → Bool} {ι : Nat → Nat} {ρ ρ₂ : Ren} (hs : Agree' p ι ρ ρ₂) : ∀ (h : HV) (v : Value), h.refs p = true → VRel ρ₂ (h.ren ι) v → VRel ρ h v
  | .any, _, _, _ => by simp [VRel]
  | .bool _, _, _, h => by simpa [VRel, HV.ren] using h
  | .int _ _, _, _, h => by simpa [VRel, HV.ren] using h
  | .str _, _, _, h => by simpa [VRel, HV.ren] using h
  | .pad .., _, _, h => by simpa [VRel, HV.ren] using h
  | .ptr none, _, _, h => by simpa [VRel, HV.ren] using h
  | .ptr (some (b, o)), v, hp, h => by
    simp only [VRel, HV.ren] at h ⊢
    obtain ⟨L, h1, h2⟩ := h
    exact ⟨L, hs _ _ hp h1, h2⟩
  | .slice none _ _, _, _, h => by simpa [VRel, HV.ren] using h
  | .slice (some (b, o)) n e, v, hp, h => by
    simp only [VRel, HV.ren] at h ⊢
    rcases h with ⟨L, cap, h1, h2⟩ | h
    · exact .inl ⟨L, cap, hs _ _ hp h1, h2⟩
    · exact .inr h
  | .map none, _, _, h => by simpa [VRel, HV.ren] using h
  | .map (some r), v, hp, h => by
    simp only [VRel, HV.ren] at h ⊢
    obtain ⟨L, h1, h2⟩ := h
    exact ⟨L, hs _ _ hp h1, h2⟩
  | .func fn first cap, v, hp, h => by
    simp only [HV.refs, Bool.and_eq_true] at hp
    simp only [VRel, HV.ren] at h ⊢
    obtain ⟨fn', a, c, h1, h2, h3, h4⟩ := h
    refine ⟨fn', a, c, h1, ?_, VsRel.unren hs _ _ hp.1.2 h3, VsRel.unren hs _ _ hp.2 h4⟩
    cases fn with
    | yield l => obtain ⟨L, h5, h6⟩ := h2; exact ⟨L, hs _ _ hp.1.1 h5, h6⟩
    | _ => exact h2
  | .nilFunc, _, _, h => by simpa [VRel, HV.ren] using h
  | .iface t x, v, hp, h => by
    simp only [VRel, HV.ren] at h ⊢
    obtain ⟨x', h1, h2⟩ := h
    exact ⟨x', h1, VRel.unren hs _ _ hp h2⟩
  | .nilIface, _, _, h => by simpa [VRel, HV.ren] using h
  | .agg cs, v, hp, h => by
    simp only [VRel, HV.ren] at h ⊢
    obtain ⟨vs, h1, h2⟩ := h
    exact ⟨vs, h1, VsRel.unren hs _ _ hp h2⟩
  | .tuple cs, v, hp, h => by
    simp only [VRel, HV.ren] at h ⊢
    obtain ⟨vs, h1, h2⟩ := h
    exact ⟨vs, h1, VsRel.unren hs _ _ hp h2⟩
theorem VsRel.unren {p : Nat → Bool} {ι : Nat → Nat} {ρ ρ₂ : Ren} (hs : Agree' p ι ρ ρ₂) : ∀ (h : List HV) (v : List Value), HV.refsL p h = true → VsRel ρ₂ (HV.renL ι h) v → VsRel ρ h v
  | [], _, _, h => by simpa [VsRel, HV.renL] using h
  | x :: xs, vs, hp, h => by
    simp only [HV.refsL, Bool.and_eq_true] at hp
    simp only [VsRel, HV.renL] at h ⊢
    obtain ⟨v, vs', h1, h2, h3⟩ := h
    exact ⟨v, vs', h1, VRel.unren hs _ _ hp.1 h2, VsRel.unren hs _ _ hp.2 h3⟩
end

mutual
theorem HV.ren_id : ∀ h : HV, h.ren id = h
  | .any => by simp [HV.ren]
  | .bool _ => by simp [HV.ren]
  | .int _ _ => by simp [HV.ren]
  | .str _ => by simp [HV.ren]
  | .pad .. => by simp [HV.ren]
  | .ptr none => by simp [HV.ren]
  | .ptr (some (b, o)) => by simp [HV.ren]
  | .slice none _ _ => by simp [HV.ren]
  | .slice (some (b, o)) _ _ => by simp [HV.ren]
  | .map none => by simp [HV.ren]
  | .map (some _) => by simp [HV.ren]
  | .func fn a c => by
    simp only [HV.ren, HV.renL_id a, HV.renL_id c, HV.func.injEq, and_true]
    cases fn <;> rfl
  | .nilFunc => by simp [HV.ren]
  | .iface t x => by simp [HV.ren, HV.ren_id x]
  | .nilIface => by simp [HV.ren]
  | .agg cs => by simp [HV.ren, HV.renL_id cs]
  | .tuple cs => by simp [HV.ren, HV.renL_id cs]
theorem HV.renL_id : ∀ h : List HV, HV.renL id h = h
  | [] => by simp [HV.renL]
  | x :: xs => by simp [HV.renL, HV.ren_id x, HV.renL_id xs]
end

/-! ### Blocks -/
def renK (ι : Nat → Nat) : Option (Nat × Nat × Nat) → Option (Nat × Nat × Nat)
  | some (f, p, v) => some (ι f, p, v)
  | none => none

def HEntry.ren (ι : Nat → Nat) (e : HEntry) : HEntry := ⟨e.key.ren ι, e.val.ren ι, e.born⟩
def HEntry.refs (p : Nat → Bool) (e : HEntry) : Bool := e.key.refs p && e.val.refs p

def HBlk.ren (ι : Nat → Nat) : HBlk → HBlk
  | .cells c k => .cells (HV.renL ι c) (renK ι k)
  | .map es clk => .map (es.map (HEntry.ren ι)) clk
  | .omap es => .omap (es.map fun e => (e.1.ren ι, e.2.ren ι))
  | x => x

/-- Cells or a map, all names good. -/
def HBlk.flat (p q : Nat → Bool) : HBlk → Bool
  | .cells c k => HV.refsL p c && (match k with | some (f, _, _) => q f | none => true)
  | .map es _ => es.all (HEntry.refs p)
  | .omap es => es.all fun e => e.1.refs p && e.2.refs p
  | .pad _ _ => true
  | _ => false

theorem EntsRel.ren {p : Nat → Bool} {ι : Nat → Nat} {ρ ρ₂ : Ren} (hs : Agree p ι ρ ρ₂) : ∀ {es : List HEntry} {es' : List MapEntry}, es.all (HEntry.refs p) = true → EntsRel ρ es es' → EntsRel ρ₂ (es.map (HEntry.ren ι)) es'
  | [], _, _, h => h
  | e :: es, _, hp, ⟨e', es', h1, h2, h3⟩ => by
    simp only [List.all_cons, Bool.and_eq_true, HEntry.refs] at hp
    exact ⟨e', es', h1, ⟨VRel.ren hs _ _ hp.1.1 h2.1, VRel.ren hs _ _ hp.1.2 h2.2.1, h2.2.2⟩, EntsRel.ren hs hp.2 h3⟩
theorem EntsRel.unren {p : Nat → Bool} {ι : Nat → Nat} {ρ ρ₂ : Ren} (hs : Agree' p ι ρ ρ₂) : ∀ {es : List HEntry} {es' : List MapEntry}, es.all (HEntry.refs p) = true → EntsRel ρ₂ (es.map (HEntry.ren ι)) es' → EntsRel ρ es es'
  | [], _, _, h => h
  | e :: es, _, hp, ⟨e', es', h1, h2, h3⟩ => by
    simp only [List.all_cons, Bool.and_eq_true, HEntry.refs] at hp
    exact ⟨e', es', h1, ⟨VRel.unren hs _ _ hp.1.1 h2.1, VRel.unren hs _ _ hp.1.2 h2.2.1, h2.2.2⟩, EntsRel.unren hs hp.2 h3⟩

theorem PairsRel.ren {p : Nat → Bool} {ι : Nat → Nat} {ρ ρ₂ : Ren} (hs : Agree p ι ρ ρ₂) : ∀ {es : List (HV × HV)} {es' : List MapEntry}, (es.all fun e => e.1.refs p && e.2.refs p) = true → PairsRel ρ es es' → PairsRel ρ₂ (es.map fun e => (e.1.ren ι, e.2.ren ι)) es'
  | [], _, _, h => h
  | e :: es, _, hp, ⟨e', es', h1, h2, h3⟩ => by
    simp only [List.all_cons, Bool.and_eq_true] at hp
    exact ⟨e', es', h1, ⟨VRel.ren hs _ _ hp.1.1 h2.1, VRel.ren hs _ _ hp.1.2 h2.2⟩, PairsRel.ren hs (by simpa using hp.2) h3⟩
theorem PairsRel.unren {p : Nat → Bool} {ι : Nat → Nat} {ρ ρ₂ : Ren} (hs : Agree' p ι ρ ρ₂) : ∀ {es : List (HV × HV)} {es' : List MapEntry}, (es.all fun e => e.1.refs p && e.2.refs p) = true → PairsRel ρ₂ (es.map fun e => (e.1.ren ι, e.2.ren ι)) es' → PairsRel ρ es es'
  | [], _, _, h => h
  | e :: es, _, hp, ⟨e', es', h1, h2, h3⟩ => by
    simp only [List.all_cons, Bool.and_eq_true] at hp
    exact ⟨e', es', h1, ⟨VRel.unren hs _ _ hp.1.1 h2.1, VRel.unren hs _ _ hp.1.2 h2.2⟩, PairsRel.unren hs (by simpa using hp.2) h3⟩

theorem padCells_refs (p : Nat → Bool) (l : List UInt8) (n : Nat) : HV.refsL p (padCells l n) = true := by
  unfold padCells
  induction (l ++ List.replicate n 0) with
  | nil => rfl
  | cons x xs ih => simpa [HV.refsL, HV.refs] using ih
theorem padCells_ren (ι : Nat → Nat) (l : List UInt8) (n : Nat) : HV.renL ι (padCells l n) = padCells l n := by
  unfold padCells
  induction (l ++ List.replicate n 0) with
  | nil => rfl
  | cons x xs ih => simpa [HV.renL, HV.ren] using ih

theorem BRel.ren {p q : Nat → Bool} {ι : Nat → Nat} {ρ ρ₂ : Ren} {σ σ₂ : Store} {w : World} {L : Loc} {x : HBlk} (hs : Agree p ι ρ ρ₂) (hf : x.flat p q = true)
    (hk : ∀ c k, x = .cells c k → σ₂.validK (renK ι k) = true → σ.validK k = true) (h : BRel ρ σ w L x) : BRel ρ₂ σ₂ w L (x.ren ι) := by
  cases x with
  | cells c k =>
    intro hv
    simp only [HBlk.flat, Bool.and_eq_true] at hf
    obtain ⟨cs, h1, h2, h3⟩ := h (hk c k rfl hv)
    refine ⟨cs, h1, by rw [HV.renL_length]; exact h2, ?_⟩
    rw [HV.renL_length]
    exact VsRel.ren hs _ _ hf.1 h3
  | map es clk => obtain ⟨es', h1, h2⟩ := h; exact ⟨es', h1, EntsRel.ren hs hf h2⟩
  | omap es => obtain ⟨es', clk, l, h1, h2, h3⟩ := h; exact ⟨es', clk, l, h1, h2, PairsRel.ren hs hf h3⟩
  | pad l n => obtain ⟨cs, h1, h2, h3⟩ := h; exact ⟨cs, h1, h2, by have := VsRel.ren hs _ _ (padCells_refs p l n) h3; rwa [padCells_ren] at this⟩
  | iter m since seen last => cases hf
  | loop st pend fr ps assign body => cases hf

theorem BRel.unren {p q : Nat → Bool} {ι : Nat → Nat} {ρ ρ₂ : Ren} {σ σ₂ : Store} {w : World} {L : Loc} {x : HBlk} (hs : Agree' p ι ρ ρ₂) (hf : x.flat p q = true)
    (hk : ∀ c k, x = .cells c k → σ.validK k = true → σ₂.validK (renK ι k) = true) (h : BRel ρ₂ σ₂ w L (x.ren ι)) : BRel ρ σ w L x := by
  cases x with
  | cells c k =>
    intro hv
    simp only [HBlk.flat, Bool.and_eq_true] at hf
    obtain ⟨cs, h1, h2, h3⟩ := h (hk c k rfl hv)
    rw [HV.renL_length] at h2 h3
    exact ⟨cs, h1, h2, VsRel.unren hs _ _ hf.1 h3⟩
  | map es clk => obtain ⟨es', h1, h2⟩ := h; exact ⟨es', h1, EntsRel.unren hs hf h2⟩
  | omap es => obtain ⟨es', clk, l, h1, h2, h3⟩ := h; exact ⟨es', clk, l, h1, h2, PairsRel.unren hs hf h3⟩
  | pad l n => obtain ⟨cs, h1, h2, h3⟩ := h; exact ⟨cs, h1, h2, VsRel.unren hs _ _ (padCells_refs p l n) (by rw [padCells_ren]; exact h3)⟩
  | iter m since seen last => cases hf
  | loop st pend fr ps assign body => cases hf

theorem renK_id (k : Option (Nat × Nat × Nat)) : renK id k = k := by
  cases k with
  | none => rfl
  | some k => obtain ⟨f, p, v⟩ := k; rfl

theorem HBlk.ren_id {p q : Nat → Bool} {x : HBlk} (hf : x.flat p q = true) : x.ren id = x := by
  cases x with
  | cells c k => simp [HBlk.ren, HV.renL_id, renK_id]
  | map es clk =>
    simp only [HBlk.ren, HBlk.map.injEq, and_true]
    have : (HEntry.ren id) = id := by funext e; simp [HEntry.ren, HV.ren_id]
    rw [this]; simp
  | iter => cases hf
  | loop => cases hf
  | omap es => simp [HBlk.ren, HV.ren_id]
  | pad => rfl

/-! ### Dropping -/
def T.filt {α : Type} : T α → (Nat → Bool) → T α
  | .e, _ => .e
  | .n l v r, p => .n (l.filt fun k => p (2 * k + 1)) (if p 0 then v else none) (r.filt fun k => p (2 * k + 2))

theorem T.getC_filt {α : Type} : ∀ (t : T α) (p : Nat → Bool) (i : Nat), (t.filt p).getC i = if p i then t.getC i else none
  | .e, p, i => by simp [T.filt, T.getC]
  | .n l v r, p, i => by
    cases i with
    | zero => simp [T.filt, T.getC]
    | succ j =>
      simp only [T.filt, T.getC]
      split
      · rename_i h
        rw [T.getC_filt l]
        have : 2 * (j / 2) + 1 = j + 1 := by omega
        rw [this]
      · rename_i h
        rw [T.getC_filt r]
        have : 2 * (j / 2) + 2 = j + 1 := by omega
        rw [this]

theorem T.get_filt {α : Type} (t : T α) (p : Nat → Bool) (i : Nat) : (t.filt p).get i = if p i then t.get i else none := by
  rw [T.get_getC, T.getC_filt, T.get_getC]

/-- The store without the blocks from a number on. -/
def Store.gc (σ : Store) (M : Nat) : Store :=
  { blks := σ.blks.filt fun b => Nat.blt b M, fams := σ.fams.filt fun b => Nat.blt b M, next := M, globs := σ.globs }

def below (M : Nat) (b : Nat) : Bool := Nat.blt b M

theorem below_iff {M b : Nat} : below M b = true ↔ b < M := by simp [below, Nat.blt_eq]
theorem blt_iff {M b : Nat} : Nat.blt b M = true ↔ b < M := by simp [Nat.blt_eq]

def HEnd.refs (p : Nat → Bool) : HEnd → Bool
  | .returned v => v.refs p
  | .panicked v => v.refs p
def HEnd.ren (ι : Nat → Nat) : HEnd → HEnd
  | .returned v => .returned (v.ren ι)
  | .panicked v => .panicked (v.ren ι)

theorem HEnd.of_ren {p : Nat → Bool} {ι : Nat → Nat} {ρ ρ₂ : Ren} (hs : Agree p ι ρ ρ₂) {x : HEnd} {e : Ending} (hp : x.refs p = true) (h : x.of ρ e) : (x.ren ι).of ρ₂ e := by
  cases x with
  | returned v => obtain ⟨v', h1, h2⟩ := h; exact ⟨v', h1, VRel.ren hs _ _ hp h2⟩
  | panicked v => obtain ⟨v', h1, h2⟩ := h; exact ⟨v', h1, VRel.ren hs _ _ hp h2⟩

theorem HEnd.ren_id (x : HEnd) : x.ren id = x := by cases x <;> simp [HEnd.ren, HV.ren_id]

/-- Nothing that stays names what goes. -/
structure GcOK (M : Nat) (σ : Store) : Prop where
  le : M ≤ σ.next
  flat : ∀ b x, b < M → σ.blks.get b = some x → x.flat (below M) (below M) = true
  globs : ∀ g, σ.globs.contains g = true → g < M

def gcB (M : Nat) (σ : Store) : Bool :=
  Nat.ble M σ.next && (List.range M).all (fun b => match σ.blks.get b with | some x => x.flat (below M) (below M) | none => true) && σ.globs.all (below M)

theorem gcB_ok {M : Nat} {σ : Store} (h : gcB M σ = true) : GcOK M σ := by
  simp only [gcB, Bool.and_eq_true, List.all_eq_true, List.mem_range, Nat.ble_eq] at h
  refine ⟨h.1.1, fun b x hb hx => ?_, fun g hg => ?_⟩
  · have := h.1.2 b hb; rw [hx] at this; exact this
  · exact below_iff.1 (h.2 g (by simpa using hg))

theorem Rel.gc {ρ : Ren} {σ : Store} {w : World} (h : Rel ρ σ w) {M : Nat} (hg : GcOK M σ) : Rel (fun b => if b < M then ρ b else none) (σ.gc M) w := by
  have hget : ∀ b, (σ.gc M).blks.get b = if b < M then σ.blks.get b else none := fun b => by
    simp only [Store.gc, T.get_filt, blt_iff]
  have hfam : ∀ b, (σ.gc M).fams.get b = if b < M then σ.fams.get b else none := fun b => by
    simp only [Store.gc, T.get_filt, blt_iff]
  have some_of : ∀ {b x}, (σ.gc M).blks.get b = some x → b < M ∧ σ.blks.get b = some x := fun {b x} hx => by
    rw [hget] at hx
    split at hx
    · rename_i hb; exact ⟨hb, hx⟩
    · cases hx
  have named : ∀ {b L}, (if b < M then ρ b else none) = some L → b < M ∧ ρ b = some L := fun {b L} hx => by
    split at hx
    · rename_i hb; exact ⟨hb, hx⟩
    · cases hx
  refine ⟨⟨fun b hb => ?_, fun f hf => ?_, fun b c f p v hb => ?_, fun b b' c c' f p p' v hb hb' => ?_⟩, fun b L hb => ?_, fun b L x hb hx => ?_, fun b b' L L' x x' hb hb' hx hx' hne he => ?_, fun g hgl => ?_⟩
  · rw [hget, if_neg (by simp only [Store.gc] at hb; omega)]
  · rw [hfam, if_neg (by simp only [Store.gc] at hf; omega)]
  · obtain ⟨hb1, hb2⟩ := some_of hb
    have := hg.flat b _ hb1 hb2
    simp only [HBlk.flat, Bool.and_eq_true, below_iff] at this
    obtain ⟨F, h1, h2⟩ := h.wf.fam _ _ _ _ _ hb2
    exact ⟨F, by rw [hfam, if_pos this.2]; exact h1, h2⟩
  · exact h.wf.ver _ _ _ _ _ _ _ _ (some_of hb).2 (some_of hb').2
  · obtain ⟨h1, h2⟩ := named hb
    exact ⟨h1, (h.dom b L h2).2⟩
  · obtain ⟨h1, h2⟩ := named hb
    obtain ⟨_, h3⟩ := some_of hx
    have hf := hg.flat b x h1 h3
    have := BRel.ren (ι := id) (p := below M) (q := below M) (ρ₂ := fun b => if b < M then ρ b else none) (σ₂ := σ.gc M) (fun b L hb hL => by simp only [id]; rw [if_pos (below_iff.1 hb)]; exact hL) hf (fun c k hc hk => ?_) (h.blk b L x h2 h3)
    · rw [HBlk.ren_id hf] at this
      exact this
    · rw [renK_id] at hk
      cases k with
      | none => rfl
      | some k =>
        obtain ⟨f, p, v⟩ := k
        simp only [Store.validK, hfam] at hk ⊢
        split at hk
        · rename_i F hF
          split at hF
          · rw [hF]; exact hk
          · cases hF
        · cases hk
  · exact h.inj b b' L L' x x' (named hb).2 (named hb').2 (some_of hx).2 (some_of hx').2 hne he
  · obtain ⟨tot, ht⟩ := h.glob g hgl
    exact ⟨tot, by rw [if_pos (hg.globs g hgl)]; exact ht⟩

theorem Fr.gc {N N' : Nat} {ρ ρ' : Ren} {w w' : World} (h : Fr N N' ρ ρ' w w') {M : Nat} (hN : N ≤ M) (hd : ∀ b L, ρ b = some L → b < N) : Fr N M ρ (fun b => if b < M then ρ' b else none) w w' where
  sub := fun b L hb => by have := hd b L hb; simp only []; rw [if_pos (by omega)]; exact h.sub b L hb
  size := h.size
  keep := h.keep
  shape := h.shape
  new := fun b L hb hb' => by
    split at hb'
    · exact h.new b L hb hb'
    · cases hb'
  tape := h.tape
  os := h.os
  output := h.output
  le := hN
  fresh := fun b hb hn => by split; exact h.fresh b hb hn; rfl

variable {P : Program}

/-- After a call, what nobody names is dropped. -/
theorem HCall.gc {f : FuncId} {args : List HV} {σ : Store} {R R' : HEnd → Store → Prop} (h : HCall P f args σ R)
    (hk : ∀ e σ', R e σ' → (R' e σ') ∨ ∃ M, σ.next ≤ M ∧ GcOK M σ' ∧ e.refs (below M) = true ∧ R' e (σ'.gc M)) : HCall P f args σ R' := by
  intro n ρ w args' hR ha
  refine (h n ρ w args' hR ha).mono ?_
  rintro e w' ⟨x, σ', ρ', h1, h2, h3, h4⟩
  rcases hk x σ' h2 with hk | ⟨M, hN, hg, hx, hr⟩
  · exact ⟨x, σ', ρ', h1, hk, h3, h4⟩
  · refine ⟨x, σ'.gc M, _, ?_, hr, h3.gc hg, h4.gc hN fun b L hb => (hR.dom b L hb).1⟩
    have := HEnd.of_ren (ι := id) (p := below M) (ρ₂ := fun b => if b < M then ρ' b else none) (fun b L hb hL => by simp only [id]; rw [if_pos (below_iff.1 hb)]; exact hL) hx h1
    rwa [HEnd.ren_id] at this

end
end Go.HI

/- A small store within a great one: what a call shows there, it shows here. -/
namespace Go.HI
noncomputable section

variable {P : Program}

def present (σ : Store) (b : Nat) : Bool := (σ.blks.get b).isSome

theorem present_iff {σ : Store} {b : Nat} : present σ b = true ↔ ∃ x, σ.blks.get b = some x := Option.isSome_iff_exists

/-- A block of the small store, where it lies in the great one: as it is; or, if it is an array that has its family for itself, without a family. -/
def InBlk (ι : Nat → Nat) (σ σb : Store) (b : Nat) (x : HBlk) : Prop :=
  σb.blks.get (ι b) = some (x.ren ι) ∨
  ∃ c f p v, x = .cells c none ∧ σb.blks.get (ι b) = some (.cells (HV.renL ι c) (some (f, p, v))) ∧ σb.validK (some (f, p, v)) = true ∧
    (∀ B c' p' v', σb.blks.get B = some (.cells c' (some (f, p', v'))) → B = ι b) ∧ ∀ g, (σ.fams.get g).isSome = true → ι g ≠ f

/-- What is in use. -/
def live (σ : Store) (b : Nat) : Prop := present σ b = true ∨ (σ.fams.get b).isSome = true

/-- The small store lies within the great one. -/
structure Inside (ι : Nat → Nat) (σ σb : Store) : Prop where
  wf : WF σ
  inj : ∀ a b, live σ a → live σ b → ι a = ι b → a = b
  lt : ∀ a, live σ a → ι a < σb.next
  blk : ∀ b x, σ.blks.get b = some x → x.flat (present σ) (fun _ => true) = true ∧ InBlk ι σ σb b x
  fam : ∀ f F, σ.fams.get f = some F → σb.fams.get (ι f) = some F
  closed : ∀ B c f p v, σb.blks.get B = some (.cells c (some (ι f, p, v))) → f < σ.next → (σ.fams.get f).isSome = true → ∃ b, B = ι b ∧ present σ b = true
  glob : ∀ g, σ.globs.contains g = true → ι g = g ∧ present σ g = true ∧ σb.globs.contains g = true

/-- What became of the small store. -/
structure After (σ σ' : Store) : Prop where
  keep : ∀ b, present σ b = true → present σ' b = true
  old : ∀ b, b < σ.next → present σ' b = true → present σ b = true
  oldFam : ∀ f, f < σ.next → (σ'.fams.get f).isSome = true → (σ.fams.get f).isSome = true
  flat : ∀ b x, σ'.blks.get b = some x → x.flat (fun _ => true) (fun _ => true) = true
  kept : ∀ b c k c', σ.blks.get b = some (.cells c (some k)) → σ'.blks.get b = some (.cells c' none) → False
  kind : ∀ b c y, σ.blks.get b = some (.cells c none) → σ'.blks.get b = some y → ∃ c', y = .cells c' none ∧ c'.length = c.length

/-- New names behind the great store's. -/
def ext (ι : Nat → Nat) (n m : Nat) (b : Nat) : Nat := if b < n then ι b else m + (b - n)

def setAll {α : Type} (g : Nat → Option α) (ι : Nat → Nat) : List Nat → T α → T α
  | [], t => t
  | b :: l, t => setAll g ι l (match g b with | some x => t.set (ι b) x | none => t)

theorem setAll_out {α : Type} {g : Nat → Option α} {ι : Nat → Nat} {B : Nat} : ∀ (l : List Nat) (t : T α), (∀ b ∈ l, (g b).isSome = true → ι b ≠ B) → (setAll g ι l t).get B = t.get B
  | [], t, _ => rfl
  | b :: l, t, h => by
    rw [setAll, setAll_out l _ fun c hc => h c (List.mem_cons_of_mem _ hc)]
    split
    · rename_i x hx
      rw [T.get_set, if_neg]
      exact fun e => h b (List.mem_cons_self ..) (by rw [hx]; rfl) e.symm
    · rfl

theorem setAll_in {α : Type} {g : Nat → Option α} {ι : Nat → Nat} {b : Nat} {x : α} : ∀ (l : List Nat) (t : T α), b ∈ l → l.Nodup → (∀ a ∈ l, (g a).isSome = true → ι a = ι b → a = b) → g b = some x → (setAll g ι l t).get (ι b) = some x
  | c :: l, t, hm, hn, hi, hg => by
    have hn' := List.nodup_cons.1 hn
    rw [setAll]
    by_cases e : c = b
    · subst e
      rw [setAll_out l _ fun a ha hs hab => ?_]
      · rw [hg]; simp only; rw [T.get_set, if_pos rfl]
      · have := hi a (List.mem_cons_of_mem _ ha) hs hab
        subst this
        exact hn'.1 ha
    · refine setAll_in l _ ?_ hn'.2 (fun a ha => hi a (List.mem_cons_of_mem _ ha)) hg
      rcases List.mem_cons.1 hm with h | h
      · exact absurd h.symm e
      · exact h

/-- An array keeps its family. -/
def rekey : Option HBlk → HBlk → HBlk
  | some (.cells _ k), .cells c none => .cells c k
  | _, x => x

/-- The great store after what became of the small one. -/
def Store.merge (σb σ' : Store) (ι : Nat → Nat) (n : Nat) : Store :=
  { blks := setAll (fun b => (σ'.blks.get b).map fun y => rekey (σb.blks.get (ι b)) (y.ren ι)) ι (List.range σ'.next) σb.blks
    next := σb.next + (σ'.next - n)
    fams := setAll (fun b => σ'.fams.get b) ι (List.range σ'.next) σb.fams
    globs := σb.globs }

theorem HV.refsL_true : True := trivial
mutual
theorem HV.refs_all : ∀ h : HV, h.refs (fun _ => true) = true
  | .any => by simp [HV.refs]
  | .bool _ => by simp [HV.refs]
  | .int _ _ => by simp [HV.refs]
  | .str _ => by simp [HV.refs]
  | .pad .. => by simp [HV.refs]
  | .ptr none => by simp [HV.refs]
  | .ptr (some (b, o)) => by simp [HV.refs]
  | .slice none _ _ => by simp [HV.refs]
  | .slice (some (b, o)) _ _ => by simp [HV.refs]
  | .map none => by simp [HV.refs]
  | .map (some _) => by simp [HV.refs]
  | .func fn a c => by
    simp only [HV.refs, HV.refsL_all a, HV.refsL_all c, Bool.and_true]
    cases fn <;> rfl
  | .nilFunc => by simp [HV.refs]
  | .iface t x => by simp [HV.refs, HV.refs_all x]
  | .nilIface => by simp [HV.refs]
  | .agg cs => by simp [HV.refs, HV.refsL_all cs]
  | .tuple cs => by simp [HV.refs, HV.refsL_all cs]
theorem HV.refsL_all : ∀ h : List HV, HV.refsL (fun _ => true) h = true
  | [] => by simp [HV.refsL]
  | x :: xs => by simp [HV.refsL, HV.refs_all x, HV.refsL_all xs]
end

theorem HEnd.refs_all (x : HEnd) : x.refs (fun _ => true) = true := by cases x <;> exact HV.refs_all _

theorem renK_some {ι : Nat → Nat} {k : Option (Nat × Nat × Nat)} {f p v : Nat} (h : renK ι k = some (f, p, v)) : ∃ f0, k = some (f0, p, v) ∧ f = ι f0 := by
  cases k with
  | none => cases h
  | some k => obtain ⟨f0, p0, v0⟩ := k; simp only [renK, Option.some.injEq, Prod.mk.injEq] at h; obtain ⟨h1, rfl, rfl⟩ := h; exact ⟨f0, rfl, h1.symm⟩

theorem ren_cells {ι : Nat → Nat} {x : HBlk} {c : List HV} {k : Option (Nat × Nat × Nat)} (h : x.ren ι = .cells c k) : ∃ c0 k0, x = .cells c0 k0 ∧ c = HV.renL ι c0 ∧ k = renK ι k0 := by
  cases x with
  | cells c0 k0 => simp only [HBlk.ren, HBlk.cells.injEq] at h; exact ⟨c0, k0, rfl, h.1.symm, h.2.symm⟩
  | map => cases h
  | iter => cases h
  | loop => cases h
  | omap => cases h
  | pad => cases h

section
variable {ι : Nat → Nat} {σ σb : Store}

theorem WF.lt {σ : Store} (h : WF σ) {b : Nat} {x : HBlk} (hx : σ.blks.get b = some x) : b < σ.next := by
  rcases Nat.lt_or_ge b σ.next with h' | h'
  · exact h'
  · rw [h.fresh b h'] at hx; cases hx
theorem WF.famLt {σ : Store} (h : WF σ) {b : Nat} {x : Fam} (hx : σ.fams.get b = some x) : b < σ.next := by
  rcases Nat.lt_or_ge b σ.next with h' | h'
  · exact h'
  · rw [h.famFresh b h'] at hx; cases hx

def inner (ι : Nat → Nat) (σ : Store) (ρb : Ren) : Ren := fun b => if present σ b then ρb (ι b) else none

theorem inner_some {ρb : Ren} {b : Nat} {L : Loc} (h : inner ι σ ρb b = some L) : present σ b = true ∧ ρb (ι b) = some L := by
  unfold inner at h
  split at h
  · rename_i hp; exact ⟨hp, h⟩
  · cases h

theorem Rel.inner {ρb : Ren} {w : World} (hR : Rel ρb σb w) (hi : Inside ι σ σb) : Rel (inner ι σ ρb) σ w where
  wf := hi.wf
  dom := fun b L hb => by
    obtain ⟨hp, hL⟩ := inner_some hb
    obtain ⟨x, hx⟩ := present_iff.1 hp
    exact ⟨hi.wf.lt hx, (hR.dom _ _ hL).2⟩
  blk := fun b L x hb hx => by
    obtain ⟨hp, hL⟩ := inner_some hb
    obtain ⟨hf, hg⟩ := hi.blk b x hx
    rcases hg with hg | ⟨c, f, p, v, rfl, hg, hv, _, _⟩
    rotate_left
    · intro _
      obtain ⟨cs, g1, g2, g3⟩ := hR.blk _ L _ hL hg hv
      rw [HV.renL_length] at g2 g3
      simp only [HBlk.flat, Bool.and_eq_true] at hf
      exact ⟨cs, g1, g2, VsRel.unren (fun c M hc hM => by unfold HI.inner; rw [if_pos hc]; exact hM) _ _ hf.1 g3⟩
    refine BRel.unren (ι := ι) (ρ₂ := ρb) (σ₂ := σb) (fun c M hc hM => by unfold HI.inner; rw [if_pos hc]; exact hM) hf (fun c k _ hk => ?_) (hR.blk _ L _ hL hg)
    cases k with
    | none => rfl
    | some k =>
      obtain ⟨f, p, v⟩ := k
      simp only [Store.validK, renK] at hk ⊢
      split at hk
      · rename_i F hF; rw [hi.fam f F hF]; exact hk
      · cases hk
  inj := fun b b' L L' x x' hb hb' hx hx' hne he => by
    obtain ⟨hp, hL⟩ := inner_some hb
    obtain ⟨hp', hL'⟩ := inner_some hb'
    have hne' : ι b ≠ ι b' := fun e => hne (hi.inj _ _ (.inl (present_iff.2 ⟨_, hx⟩)) (.inl (present_iff.2 ⟨_, hx'⟩)) e)
    have lone : ∀ (b b' : Nat) (y z : HBlk) (L L' : Loc), ι b ≠ ι b' → ρb (ι b) = some L → ρb (ι b') = some L' → L.blk = L'.blk → σb.blks.get (ι b) = some y → σb.blks.get (ι b') = some z →
        ∀ c f p v, y = .cells c (some (f, p, v)) → (∀ B c' p' v', σb.blks.get B = some (.cells c' (some (f, p', v'))) → B = ι b) → False := by
      intro b b' y z L L' hn hL hL' he hy hz c f p v hc hl
      obtain ⟨_, c1, c2, f1, p1, p2, v1, v2, e1, e2, _⟩ := hR.inj _ _ L L' y z hL hL' hy hz hn he
      rw [hc] at e1
      cases e1
      subst e2
      exact hn (hl _ _ _ _ hz).symm
    rcases (hi.blk b x hx).2 with h1 | ⟨c, f, p, v, rfl, h1, _, hl, _⟩
    rotate_left
    · exfalso
      rcases (hi.blk b' x' hx').2 with h2 | ⟨c2, f2, p2, v2, rfl, h2, _, _, _⟩
      · exact lone b b' _ _ L L' hne' hL hL' he h1 h2 _ _ _ _ rfl hl
      · exact lone b b' _ _ L L' hne' hL hL' he h1 h2 _ _ _ _ rfl hl
    rcases (hi.blk b' x' hx').2 with h2 | ⟨c2, f2, p2, v2, rfl, h2, _, hl, _⟩
    rotate_left
    · exact (lone b' b _ _ L' L (Ne.symm hne') hL' hL he.symm h2 h1 _ _ _ _ rfl hl).elim
    obtain ⟨ht, c, c', f, p, p', v, v', e1, e2, e3⟩ := hR.inj _ _ L L' _ _ hL hL' h1 h2 hne' he
    obtain ⟨c0, k0, rfl, _, hk⟩ := ren_cells e1
    obtain ⟨c0', k0', rfl, _, hk'⟩ := ren_cells e2
    obtain ⟨f0, rfl, hf⟩ := renK_some hk.symm
    obtain ⟨f0', rfl, hf'⟩ := renK_some hk'.symm
    obtain ⟨F, hF, _⟩ := hi.wf.fam _ _ _ _ _ hx
    obtain ⟨F', hF', _⟩ := hi.wf.fam _ _ _ _ _ hx'
    have := hi.inj f0 f0' (.inr (by rw [hF]; rfl)) (.inr (by rw [hF']; rfl)) (hf.symm.trans hf')
    subst this
    exact ⟨ht, c0, c0', f0, p, p', v, v', rfl, rfl, e3⟩
  glob := fun g hg => by
    obtain ⟨h1, h2, h3⟩ := hi.glob g hg
    obtain ⟨tot, ht⟩ := hR.glob g h3
    exact ⟨tot, by unfold HI.inner; rw [if_pos h2, h1]; exact ht⟩

theorem HCall.frame {f : FuncId} {args : List HV} {R R' : HEnd → Store → Prop} (hi : Inside ι σ σb) (ha : HV.refsL (present σ) args = true) (h : HCall P f args σ R)
    (hk : ∀ e σ', R e σ' → After σ σ' ∧ R' (e.ren (ext ι σ.next σb.next)) (σb.merge σ' (ext ι σ.next σb.next) σ.next)) : HCall P f (HV.renL ι args) σb R' := by
  intro n ρb w args' hR hargs
  have hpn : ∀ b, present σ b = true → b < σ.next := fun b hb => by obtain ⟨x, hx⟩ := present_iff.1 hb; exact hi.wf.lt hx
  refine (h n _ w args' (hR.inner hi) (VsRel.unren (fun c M hc hM => by unfold HI.inner; rw [if_pos hc]; exact hM) _ _ ha hargs)).mono ?_
  rintro e w' ⟨x, σ', ρ', h1, h2, h3, h4⟩
  obtain ⟨hA, hr⟩ := hk x σ' h2
  have hnn : σ.next ≤ σ'.next := h4.le
  -- the new names
  have hold : ∀ b, b < σ.next → ext ι σ.next σb.next b = ι b := fun b hb => by unfold ext; rw [if_pos hb]
  have hnew : ∀ b, σ.next ≤ b → ext ι σ.next σb.next b = σb.next + (b - σ.next) := fun b hb => by unfold ext; rw [if_neg (by omega)]
  have hinj : ∀ a b, (a < σ.next → live σ a) → (b < σ.next → live σ b) → ext ι σ.next σb.next a = ext ι σ.next σb.next b → a = b := by
    intro a b la lb hab
    by_cases ha : a < σ.next <;> by_cases hb : b < σ.next
    · rw [hold a ha, hold b hb] at hab; exact hi.inj a b (la ha) (lb hb) hab
    · rw [hold a ha, hnew b (by omega)] at hab; have := hi.lt a (la ha); omega
    · rw [hnew a (by omega), hold b hb] at hab; have := hi.lt b (lb hb); omega
    · rw [hnew a (by omega), hnew b (by omega)] at hab; omega
  generalize hι : ext ι σ.next σb.next = ι' at *
  let ρb' : Ren := fun B => match ρb B with
    | some L => some L
    | none => if σb.next ≤ B then ρ' (B - σb.next + σ.next) else none
  have hsub : ρb.sub ρb' := fun B L hB => by simp only [ρb', hB]
  have hbnone : ∀ B, σb.next ≤ B → ρb B = none := fun B hB => by
    cases hb : ρb B with
    | none => rfl
    | some L => have := (hR.dom B L hb).1; omega
  have hag : Agree (fun _ => true) ι' ρ' ρb' := by
    intro b L _ hb
    by_cases hlt : b < σ.next
    · cases hρ : HI.inner ι σ ρb b with
      | none => rw [h4.fresh b hlt hρ] at hb; cases hb
      | some L0 =>
        have := h4.sub b L0 hρ
        rw [hb] at this
        cases this
        rw [hold b hlt]
        exact hsub _ _ (inner_some hρ).2
    · rw [hnew b (by omega)]
      simp only [ρb', hbnone _ (Nat.le_add_right _ _)]
      rw [if_pos (Nat.le_add_right _ _)]
      have : σb.next + (b - σ.next) - σb.next + σ.next = b := by omega
      rw [this]; exact hb
  -- the merged store
  have hmn : (σb.merge σ' ι' σ.next).next = σb.next + (σ'.next - σ.next) := rfl
  have hin : ∀ b y, σ'.blks.get b = some y → (σb.merge σ' ι' σ.next).blks.get (ι' b) = some (rekey (σb.blks.get (ι' b)) (y.ren ι')) := fun b y hy =>
    setAll_in _ _ (List.mem_range.2 (h3.wf.lt hy)) List.nodup_range (fun a _ ha => hinj a b (fun hlt => .inl (hA.old a hlt (by simpa [present] using ha))) (fun hlt => .inl (hA.old b hlt (present_iff.2 ⟨_, hy⟩)))) (by rw [hy]; rfl)
  -- a block keeps its kind, or takes its family back
  have hrek : ∀ b y, σ'.blks.get b = some y → rekey (σb.blks.get (ι' b)) (y.ren ι') = y.ren ι' ∨
      ∃ c c' f p v, b < σ.next ∧ ι' b = ι b ∧ y = .cells c' none ∧ rekey (σb.blks.get (ι' b)) (y.ren ι') = .cells (HV.renL ι' c') (some (f, p, v)) ∧ σb.blks.get (ι b) = some (.cells (HV.renL ι c) (some (f, p, v))) ∧ c'.length = c.length ∧
        (∀ B c' p' v', σb.blks.get B = some (.cells c' (some (f, p', v'))) → B = ι b) ∧ ∀ g, (σ.fams.get g).isSome = true → ι g ≠ f := by
    intro b y hy
    by_cases hlt : b < σ.next
    · obtain ⟨x, hx⟩ := present_iff.1 (hA.old b hlt (present_iff.2 ⟨y, hy⟩))
      rcases (hi.blk b x hx).2 with hg | ⟨c, f, p, v, rfl, hg, _, hl, hf⟩
      · refine .inl ?_
        rw [hold b hlt, hg]
        cases x with
        | cells c k =>
          cases k with
          | none =>
            obtain ⟨c', rfl, _⟩ := hA.kind b c y hx hy
            rfl
          | some k => 
            cases y with
            | cells c' k' =>
              cases k' with
              | none => exact (hA.kept b c k c' hx hy).elim
              | some k' => rfl
            | _ => rfl
        | _ => rfl
      · obtain ⟨c', rfl, hlen⟩ := hA.kind b c y hx hy
        refine .inr ⟨c, c', f, p, v, hlt, hold b hlt, rfl, ?_, hg, hlen, hl, hf⟩
        rw [hold b hlt, hg]
        rfl
    · refine .inl ?_
      rw [hnew b (by omega), hR.wf.fresh _ (Nat.le_add_right _ _)]
      rfl
  have hout : ∀ B, (∀ b, present σ' b = true → ι' b ≠ B) → (σb.merge σ' ι' σ.next).blks.get B = σb.blks.get B := fun B hB =>
    setAll_out _ _ fun b _ hs => hB b (by simpa [present] using hs)
  have hfin : ∀ b y, σ'.fams.get b = some y → (σb.merge σ' ι' σ.next).fams.get (ι' b) = some y := fun b y hy =>
    setAll_in _ _ (List.mem_range.2 (h3.wf.famLt hy)) List.nodup_range (fun a _ ha => hinj a b (fun hlt => .inr (hA.oldFam a hlt ha)) (fun hlt => .inr (hA.oldFam b hlt (by rw [hy]; rfl)))) hy
  have hfout : ∀ B, (∀ b, (σ'.fams.get b).isSome = true → ι' b ≠ B) → (σb.merge σ' ι' σ.next).fams.get B = σb.fams.get B := fun B hB =>
    setAll_out _ _ fun b _ hs => hB b hs
  have hcl : ∀ B x, (σb.merge σ' ι' σ.next).blks.get B = some x → (∃ b y, σ'.blks.get b = some y ∧ B = ι' b ∧ x = rekey (σb.blks.get (ι' b)) (y.ren ι')) ∨ ((∀ b, present σ' b = true → ι' b ≠ B) ∧ σb.blks.get B = some x) := by
    intro B x hx
    by_cases hB : ∃ b, present σ' b = true ∧ ι' b = B
    · obtain ⟨b, hb, rfl⟩ := hB
      obtain ⟨y, hy⟩ := present_iff.1 hb
      rw [hin b y hy] at hx
      cases hx
      exact .inl ⟨b, y, hy, rfl, rfl⟩
    · have hB' : ∀ b, present σ' b = true → ι' b ≠ B := fun b hb he => hB ⟨b, hb, he⟩
      rw [hout B hB'] at hx
      exact .inr ⟨hB', hx⟩
  have hnotin : ∀ B, (∀ b, present σ' b = true → ι' b ≠ B) → ∀ b, present σ b = true → B ≠ ι b := fun B hB b hb he => by
    exact hB b (hA.keep b hb) (by rw [hold b (hpn b hb)]; exact he.symm)
  have hfamOut : ∀ B c f p v, (∀ b, present σ' b = true → ι' b ≠ B) → σb.blks.get B = some (.cells c (some (f, p, v))) → ∀ g, (σ'.fams.get g).isSome = true → ι' g ≠ f := by
    intro B c f p v hB hb g hg he
    by_cases hlt : g < σ.next
    · rw [hold g hlt] at he
      subst he
      obtain ⟨b, h5, h6⟩ := hi.closed B c g p v hb hlt (hA.oldFam g hlt hg)
      exact hnotin B hB b h6 h5
    · rw [hnew g (by omega)] at he
      obtain ⟨F, hF, _⟩ := hR.wf.fam _ _ _ _ _ hb
      have := hR.wf.famLt hF
      omega
  have hapart : ∀ b L0 B L x, HI.inner ι σ ρb b = some L0 → (∀ b, present σ' b = true → ι' b ≠ B) → ρb B = some L → σb.blks.get B = some x → L0.blk ≠ L.blk := by
    intro b L0 B L x hb hB hL hx he
    obtain ⟨hp, hL0⟩ := inner_some hb
    obtain ⟨y, hy⟩ := present_iff.1 hp
    rcases (hi.blk b y hy).2 with hg | ⟨cl, fl, pl, vl, rfl, hg, _, hl, _⟩
    rotate_left
    · obtain ⟨_, c, c', f, p, p', v, v', e1, e2, _⟩ := hR.inj (ι b) B L0 L _ x hL0 hL hg hx (hnotin B hB b hp).symm he
      cases e1
      subst e2
      exact hnotin B hB b hp (hl _ _ _ _ hx)
    obtain ⟨_, c, c', f, p, p', v, v', e1, e2, _⟩ := hR.inj (ι b) B L0 L _ x hL0 hL hg hx (hnotin B hB b hp).symm he
    obtain ⟨c0, k0, rfl, _, hk⟩ := ren_cells e1
    obtain ⟨f0, rfl, rfl⟩ := renK_some hk.symm
    subst e2
    obtain ⟨F, hF, _⟩ := hi.wf.fam _ _ _ _ _ hy
    obtain ⟨b2, h5, h6⟩ := hi.closed B c' f0 p' v' hx (hi.wf.famLt hF) (by rw [hF]; rfl)
    exact hnotin B hB b2 h6 h5
  have hnamedOut : ∀ B L x, ρb' B = some L → σb.blks.get B = some x → ρb B = some L := by
    intro B L x hB hx
    have := hR.wf.lt hx
    simp only [ρb'] at hB
    split at hB
    · rename_i L' hL'; cases hB; exact hL'
    · rw [if_neg (by omega)] at hB; cases hB
  have hnamedIn : ∀ b L y, ρb' (ι' b) = some L → σ'.blks.get b = some y → ρ' b = some L := by
    intro b L y hB hy
    by_cases hlt : b < σ.next
    · have hp := hA.old b hlt (present_iff.2 ⟨y, hy⟩)
      rw [hold b hlt] at hB
      simp only [ρb'] at hB
      split at hB
      · rename_i L' hL'
        cases hB
        exact h4.sub b _ (by unfold HI.inner; rw [if_pos hp]; exact hL')
      · have := hi.lt b (.inl hp)
        rw [if_neg (by omega)] at hB; cases hB
    · rw [hnew b (by omega)] at hB
      simp only [ρb', hbnone _ (Nat.le_add_right _ _)] at hB
      rw [if_pos (Nat.le_add_right _ _)] at hB
      have : σb.next + (b - σ.next) - σb.next + σ.next = b := by omega
      rw [this] at hB; exact hB
  have hloneFam : ∀ b c f p v, σb.blks.get (ι b) = some (.cells c (some (f, p, v))) → (∀ g, (σ.fams.get g).isSome = true → ι g ≠ f) → ∀ g, (σ'.fams.get g).isSome = true → ι' g ≠ f := by
    intro b c f p v hb hf g hg he
    by_cases hlt : g < σ.next
    · rw [hold g hlt] at he
      exact hf g (hA.oldFam g hlt hg) he
    · rw [hnew g (by omega)] at he
      obtain ⟨F, hF, _⟩ := hR.wf.fam _ _ _ _ _ hb
      have := hR.wf.famLt hF
      omega
  have hvalid : ∀ b c k, σ'.blks.get b = some (.cells c k) → (σb.merge σ' ι' σ.next).validK (renK ι' k) = true → σ'.validK k = true := by
    intro b c k hb hv
    cases k with
    | none => rfl
    | some k =>
      obtain ⟨f, p, v⟩ := k
      obtain ⟨F, hF, _⟩ := h3.wf.fam _ _ _ _ _ hb
      simp only [Store.validK, renK, hfin f F hF] at hv
      simp only [Store.validK, hF]
      exact hv
  refine ⟨x.ren ι', σb.merge σ' ι' σ.next, ρb', HEnd.of_ren hag (HEnd.refs_all x) h1, hr, ⟨⟨?_, ?_, ?_, ?_⟩, ?_, ?_, ?_, ?_⟩, ?_⟩
  · intro B hB
    rw [hout, hR.wf.fresh B (by omega)]
    intro b hb he
    obtain ⟨y, hy⟩ := present_iff.1 hb
    have := h3.wf.lt hy
    by_cases hlt : b < σ.next
    · rw [hold b hlt] at he; have := hi.lt b (.inl (hA.old b hlt hb)); omega
    · rw [hnew b (by omega)] at he; omega
  · intro B hB
    rw [hfout, hR.wf.famFresh B (by omega)]
    intro b hb he
    obtain ⟨y, hy⟩ := Option.isSome_iff_exists.1 hb
    have := h3.wf.famLt hy
    by_cases hlt : b < σ.next
    · rw [hold b hlt] at he; have := hi.lt b (.inr (hA.oldFam b hlt hb)); omega
    · rw [hnew b (by omega)] at he; omega
  · intro B c f p v hB
    rcases hcl B _ hB with ⟨b, y, hy, rfl, he⟩ | ⟨hB', hx⟩
    · rcases hrek b y hy with hr | ⟨c1, c1', f1, p1, v1, hlt, hib, rfl, hr, hg, hlen, hl, hf⟩
      rotate_left
      · rw [hr] at he
        cases he
        obtain ⟨F, hF, h5⟩ := hR.wf.fam _ _ _ _ _ hg
        refine ⟨F, by rw [hfout f (hloneFam b _ f p v hg hf)]; exact hF, h5.1, fun hv => ?_⟩
        have := h5.2 hv
        rw [HV.renL_length] at this ⊢
        omega
      rw [hr] at he
      obtain ⟨c0, k0, rfl, rfl, hk⟩ := ren_cells he.symm
      obtain ⟨f0, rfl, rfl⟩ := renK_some hk.symm
      obtain ⟨F, hF, h5⟩ := h3.wf.fam _ _ _ _ _ hy
      exact ⟨F, hfin f0 F hF, h5.1, fun hv => by rw [HV.renL_length]; exact h5.2 hv⟩
    · obtain ⟨F, hF, h5⟩ := hR.wf.fam _ _ _ _ _ hx
      exact ⟨F, by rw [hfout f fun g hg => hfamOut B c f p v hB' hx g hg]; exact hF, h5⟩
  · -- one block of each version
    have hlone : ∀ B c f p v, (σb.merge σ' ι' σ.next).blks.get B = some (.cells c (some (f, p, v))) → (∃ b f0 c0, σ'.blks.get b = some (.cells c0 (some (f0, p, v))) ∧ B = ι' b ∧ f = ι' f0) ∨
        (∃ c0, σb.blks.get B = some (.cells c0 (some (f, p, v))) ∧ ∀ g, (σ'.fams.get g).isSome = true → ι' g ≠ f) := by
      intro B c f p v hB
      rcases hcl B _ hB with ⟨b, y, hy, rfl, he⟩ | ⟨hBo, hx⟩
      · rcases hrek b y hy with hr | ⟨c1, c1', f1, p1, v1, hlt, hib, rfl, hr, hg, hlen, hl, hf⟩
        · rw [hr] at he
          obtain ⟨c0, k0, rfl, rfl, hk⟩ := ren_cells he.symm
          obtain ⟨f0, rfl, rfl⟩ := renK_some hk.symm
          exact .inl ⟨b, f0, c0, hy, rfl, rfl⟩
        · rw [hr] at he
          cases he
          exact .inr ⟨_, by rw [hib]; exact hg, hloneFam b _ f p v hg hf⟩
      · exact .inr ⟨c, hx, hfamOut B c f p v hBo hx⟩
    intro B B' c c' f p p' v hB hB2
    rcases hlone B _ _ _ _ hB with ⟨b, f0, c0, hy, rfl, rfl⟩ | ⟨c0, hx, hn⟩
    · rcases hlone B' _ _ _ _ hB2 with ⟨b', f1, c1, hy', rfl, hf1⟩ | ⟨c1, hx', hn'⟩
      · obtain ⟨F0, hF0, _⟩ := h3.wf.fam _ _ _ _ _ hy
        obtain ⟨F1, hF1, _⟩ := h3.wf.fam _ _ _ _ _ hy'
        have := hinj _ _ (fun hlt => .inr (hA.oldFam _ hlt (by rw [hF0]; rfl))) (fun hlt => .inr (hA.oldFam _ hlt (by rw [hF1]; rfl))) hf1
        subst this
        rw [h3.wf.ver _ _ _ _ _ _ _ _ hy hy']
      · obtain ⟨F, hF, _⟩ := h3.wf.fam _ _ _ _ _ hy
        exact absurd rfl (hn' f0 (by rw [hF]; rfl))
    · rcases hlone B' _ _ _ _ hB2 with ⟨b', f1, c1, hy', rfl, rfl⟩ | ⟨c1, hx', hn'⟩
      · obtain ⟨F, hF, _⟩ := h3.wf.fam _ _ _ _ _ hy'
        exact absurd rfl (hn f1 (by rw [hF]; rfl))
      · exact hR.wf.ver _ _ _ _ _ _ _ _ hx hx'
  · intro B L hB
    simp only [ρb'] at hB
    split at hB
    · rename_i L' hL'
      cases hB
      have := hR.dom B _ hL'
      exact ⟨by omega, Nat.lt_of_lt_of_le this.2 h4.size⟩
    · split at hB
      · have := h3.dom _ L hB
        exact ⟨by omega, this.2⟩
      · cases hB
  · intro B L x hB hx
    rcases hcl B _ hx with ⟨b, y, hy, rfl, rfl⟩ | ⟨hBo, hx'⟩
    · rcases hrek b y hy with hr | ⟨c1, c1', f1, p1, v1, hlt, hib, rfl, hr, hg, hlen, hl, hf⟩
      rotate_left
      · rw [hr]
        intro _
        obtain ⟨cs, g1, g2, g3⟩ := h3.blk b L _ (hnamedIn b L _ hB hy) hy rfl
        refine ⟨cs, g1, by rw [HV.renL_length]; exact g2, ?_⟩
        rw [HV.renL_length]
        exact VsRel.ren hag _ _ (HV.refsL_all _) g3
      rw [hr]
      refine BRel.ren hag (hA.flat b y hy) (fun c k hc hk => hvalid b c k (hc ▸ hy) hk) (h3.blk b L y (hnamedIn b L y hB hy) hy)
    · have hL := hnamedOut B L x hB hx'
      refine (hR.blk B L x hL hx').keep hsub (fun c k hc hk => ?_) (h4.keep _ (hR.dom B L hL).2 fun b L0 hb => hapart b L0 B L x hb hBo hL hx')
      subst hc
      cases k with
      | none => rfl
      | some k =>
        obtain ⟨f, p, v⟩ := k
        simp only [Store.validK, hfout f fun g hg => hfamOut B c f p v hBo hx' g hg] at hk ⊢
        exact hk
  · have mixed : ∀ b B L L' y x, ρb' (ι' b) = some L → ρb' B = some L' → σ'.blks.get b = some y → (∀ b, present σ' b = true → ι' b ≠ B) → σb.blks.get B = some x → L.blk ≠ L'.blk := by
      intro b B L L' y x hb hB hy hBo hx
      have h5 := hnamedIn b L y hb hy
      have h6 := hnamedOut B L' x hB hx
      cases hρ : HI.inner ι σ ρb b with
      | some L0 =>
        have := h4.sub b L0 hρ
        rw [h5] at this
        cases this
        exact hapart b L B L' x hρ hBo h6 hx
      | none =>
        rcases h4.new b L hρ h5 with h7 | ⟨b₀, L₀, h7, h8⟩
        · have := (hR.dom B L' h6).2; omega
        · rw [← h8]; exact hapart b₀ L₀ B L' x h7 hBo h6 hx
    intro B B' L L' x x' hB hB' hx hx' hne he
    rcases hcl B _ hx with ⟨b, y, hy, rfl, rfl⟩ | ⟨hBo, hxo⟩
    · rcases hcl B' _ hx' with ⟨b', y', hy', rfl, rfl⟩ | ⟨hBo', hxo'⟩
      · obtain ⟨ht, c, c', f, p, p', v, v', e1, e2, e3⟩ := h3.inj b b' L L' y y' (hnamedIn b L y hB hy) (hnamedIn b' L' y' hB' hy') hy hy' (fun e => hne (by rw [e])) he
        subst e1 e2
        rcases hrek b _ hy with hr | ⟨_, _, _, _, _, _, _, hc, _⟩
        rotate_left
        · cases hc
        rcases hrek b' _ hy' with hr' | ⟨_, _, _, _, _, _, _, hc, _⟩
        rotate_left
        · cases hc
        rw [hr, hr']
        exact ⟨ht, HV.renL ι' c, HV.renL ι' c', ι' f, p, p', v, v', rfl, rfl, e3⟩
      · exact absurd he (mixed b B' L L' y x' hB hB' hy hBo' hxo')
    · rcases hcl B' _ hx' with ⟨b', y', hy', rfl, rfl⟩ | ⟨hBo', hxo'⟩
      · exact absurd he.symm (mixed b' B L' L y' x hB' hB hy' hBo hxo)
      · exact hR.inj B B' L L' x x' (hnamedOut B L x hB hxo) (hnamedOut B' L' x' hB' hxo') hxo hxo' hne he
  · intro g hg
    obtain ⟨tot, ht⟩ := hR.glob g hg
    exact ⟨tot, hsub _ _ ht⟩
  · refine ⟨hsub, h4.size, fun C hC hn => h4.keep C hC fun b L hb => hn _ L (inner_some hb).2, h4.shape, fun B L hB hB' => ?_, h4.tape, h4.os, h4.output, by omega, fun B hB hn => ?_⟩
    · simp only [ρb', hB] at hB'
      split at hB'
      · have hnone : HI.inner ι σ ρb (B - σb.next + σ.next) = none := by
          cases hq : HI.inner ι σ ρb (B - σb.next + σ.next) with
          | none => rfl
          | some L0 => have := hpn _ (inner_some hq).1; omega
        rcases h4.new _ L hnone hB' with h5 | ⟨b₀, L₀, h5, h6⟩
        · exact .inl h5
        · exact .inr ⟨_, L₀, (inner_some h5).2, h6⟩
      · cases hB'
    · simp only [ρb', hn]
      rw [if_neg (by omega)]

end
end
end Go.HI

/- An evaluator in the continuation's style: alternatives, conditions that are not known, and answers of whatever kind; what it finds is so. -/
namespace Go.HI
noncomputable section

variable {P : Program} {α : Type}

abbrev OpEv := Oper → HFrame → Store → OpRes

/-- Answers. -/
structure Ans (α : Type) where
  fail : α
  both : α → α → α
  same : HV → HV → α → α

structure Ans.Good (A : Ans α) (φ : α → Prop) : Prop where
  fail : ¬ φ A.fail
  both : ∀ a b, φ (A.both a b) → φ a ∧ φ b
  same : ∀ v v' a, φ (A.same v v' a) → v = v' ∧ φ a

abbrev KX (α : Type) := HExit → HFrame → Store → α
abbrev KE (α : Type) := HEnd → Store → α
abbrev CallK (α : Type) := HV → List HV → Store → KE α → α

structure Er (α : Type) where
  code : Option Nat → Code → HFrame → Store → KX α → α
  fn : FuncId → List HV → Store → KE α → α

def altsK (A : Ans α) (k : HV → Store → α) (l : List (HV × Store)) : α :=
  List.rec (motive := fun _ => α) A.fail (fun p rest ih => List.rec (motive := fun _ => α) (k p.1 p.2) (fun _ _ _ => A.both (k p.1 p.2) ih) rest) l

def stepK (A : Ans α) (call : CallK α) (σ : Store) (r : OpRes) (kv kp : HV → Store → α) : α :=
  match r with
  | .val v σ' => kv v σ'
  | .alts l => altsK A kv l
  | .panic v => kp v σ
  | .call fv args => call fv args σ fun e σ' => match e with
    | .returned v => kv v σ'
    | .panicked v => kp v σ'
  | .stuck => A.fail

def erOps (A : Ans α) (V : OpEv) (call : CallK α) (ops : Array Oper) (k : KX α) (l : List Oper) : HFrame → Store → α :=
  List.rec (motive := fun _ => HFrame → Store → α) (fun fr σ => k .normal fr σ)
    (fun o _ ih fr σ => if isDefer o.op then A.fail else match wantedH ops o fr with
      | none => A.fail
      | some b => Bool.rec (ih (fr.put o.dst (.tuple [])) σ) (stepK A call σ (V o fr σ) (fun v σ' => ih (fr.put o.dst v) σ') (fun v σ' => k (.panic v) fr σ')) b) l

/-- Operations whose answer has nothing to do with memory. -/
def pureB : Op → Bool
  | .move _ | .fieldAddr .. | .field .. | .extract .. | .indexAddr .. | .index .. | .unOp .. => true
  | .binOp .. => true
  | _ => false

structure FloatE where
  i : Nat
  o : Oper
  F : HFrame
  v : HV
  g : Option Nat

def FloatE.flt (p : FloatE) : Float := (p.i, p.v, p.F, p.g)

/-- What came early is as it was. -/
def stayK (A : Ans α) (V : OpEv) (P : Program) (ops : Array Oper) (bf : Nat → Bool) (σ : Store) (k : α) (fl : List FloatE) : α :=
  List.rec (motive := fun _ => α) k (fun p _ ih => Bool.rec
    (match p.g with
      | none => match V p.o p.F σ with
        | .val v' _ => A.same v' p.v ih
        | _ => A.fail
      | some b => if lateB P p.o (restrictF p.F (p.o.looksAt ops)) σ p.v b then ih else A.fail) ih (bf p.i)) fl

def drawAlloc (A : Ans α) (V : OpEv) (P : Program) (ops : Array Oper) (i : Nat) (o : Oper) (fr : HFrame) (σ : Store) (fl : List FloatE) (k : HFrame → Store → List FloatE → α) : α :=
  match V o fr σ with
  | .val v σ' => if lateB P o (restrictF fr (o.looksAt ops)) σ' v σ.next then stayK A V P ops (fun _ => false) σ' (k (fr.put o.dst v) σ' (⟨i, o, fr, v, some σ.next⟩ :: fl)) fl else A.fail
  | _ => A.fail

def drawQuiet (A : Ans α) (V : OpEv) (i : Nat) (o : Oper) (fr : HFrame) (σ : Store) (fl : List FloatE) (k : HFrame → Store → List FloatE → α) : α :=
  match V o fr σ with
  | .val v _ => k (fr.put o.dst v) σ (Bool.rec (⟨i, o, fr, v, none⟩ :: fl) fl (pureB o.op))
  | _ => A.fail

def drawRun (A : Ans α) (V : OpEv) (P : Program) (call : CallK α) (ops : Array Oper) (M : List Nat) (frB : HFrame) (kx : KX α) (i : Nat) (o : Oper) (fr : HFrame) (σ : Store) (fl : List FloatE) (k : HFrame → Store → List FloatE → α) : α :=
  Bool.rec
    (Bool.rec
      (stepK A call σ (V o fr σ) (fun v σ' => stayK A V P ops (bef M i) σ' (k (fr.put o.dst v) σ' fl) fl) (fun v σ' => kx (.panic v) frB σ'))
      (drawQuiet A V i o fr σ fl k) (isQuiet P o.op))
    (drawAlloc A V P ops i o fr σ fl k) (isAlloc o.op)

def erDraw (A : Ans α) (V : OpEv) (P : Program) (call : CallK α) (ops : Array Oper) (M : List Nat) (frB : HFrame) (kx : KX α) (l : List (Nat × Oper)) : HFrame → Store → List FloatE → α :=
  List.rec (motive := fun _ => HFrame → Store → List FloatE → α) (fun fr σ _ => kx .normal fr σ)
    (fun p _ ih fr σ fl => match wantedH ops p.2 fr with
      | none => A.fail
      | some b => Bool.rec (ih (fr.put p.2.dst (.tuple [])) σ fl) (drawRun A V P call ops M frB kx p.1 p.2 fr σ fl ih) b) l

/-- The operations of a region, in the order of the walk. -/
def pairsOf (ops : Array Oper) (l : List Nat) : List (Nat × Oper) := l.filterMap fun i => (ops[i]?).map fun o => (i, o)

def planOf (P : Program) (ops : Array Oper) : Option (List Nat × List (Nat × Oper)) :=
  if drawB P ops && (eagerOf P ops).all (fun i => decide (i < ops.size)) then some (masksOf ops, pairsOf ops (eagerOf P ops)) else none

def roundK (A : Ans α) (E : Er α) (b : Nat) (body : Code) (fr : HFrame) (σ1 : Store) (k : KE α) : α :=
  match σ1.blks.get b with
  | some (.loop .ready pend1 lf1 ps1 as1 bo1) => E.code (some b) body fr (σ1.put b (.loop .busy pend1 lf1 ps1 as1 bo1)) fun x _ σ2 =>
    match jumpOf x, σ2.blks.get b with
    | some j, some (.loop _ _ lf2 ps2 as2 bo2) => k (.returned (.bool j.isNone)) (σ2.put b (.loop (if j.isNone then .ready else .done) j lf2 ps2 as2 bo2))
    | _, _ => A.fail
  | _ => A.fail

def erYield (A : Ans α) (E : Er α) (b : Nat) (args : List HV) (σ : Store) (k : KE α) : α :=
  match σ.blks.get b with
  | some (.loop _ _ lf ps assign body) => if args.length = ps.size then
      E.code (some b) assign (putParams ps.toList args lf) σ fun x fr1 σ1 => match x with
        | .normal => roundK A E b body fr1 σ1 k
        | _ => A.fail
    else A.fail
  | _ => A.fail

def erCall (A : Ans α) (E : Er α) (B : FuncId → Bool) (fv : HV) (args : List HV) (σ : Store) (k : KE α) : α :=
  match fv with
  | .func fn first cap => match fn with
    | .func f => if B f then E.fn f (first ++ args ++ cap) σ k else A.fail
    | .yield b => match first, cap with
      | [], [] => erYield A E b args σ k
      | _, _ => A.fail
    | _ => A.fail
  | _ => A.fail

def erSeq (E : Er α) (r : Option Nat) (x y : Code) (fr : HFrame) (σ : Store) (k : KX α) : α :=
  E.code r x fr σ fun e fr1 σ1 => match e with
    | .normal => E.code r y fr1 σ1 k
    | e => k e fr1 σ1

def erCond (A : Ans α) (E : Er α) (r : Option Nat) (c : Operand) (x y : Code) (fr : HFrame) (σ : Store) (k : KX α) : α :=
  match fr.eval c with
  | .bool b => Bool.rec (E.code r y fr σ k) (E.code r x fr σ k) b
  | _ => A.fail

def erBlock (E : Er α) (r : Option Nat) (id : Nat) (c : Code) (fr : HFrame) (σ : Store) (k : KX α) : α :=
  E.code r c fr σ fun e fr1 σ1 => match e with
    | .exit i => Bool.rec (k (.exit i) fr1 σ1) (k .normal fr1 σ1) (Nat.beq i id)
    | e => k e fr1 σ1

def erLoop (E : Er α) (r : Option Nat) (c : Code) (fr : HFrame) (σ : Store) (k : KX α) : α :=
  E.code r c fr σ fun e fr1 σ1 => match e with
    | .normal => E.code r (.loop c) fr1 σ1 k
    | e => k e fr1 σ1

def erRegion (A : Ans α) (V : OpEv) (P : Program) (call : CallK α) (ops : Array Oper) (draw : Bool) (fr : HFrame) (σ : Store) (k : KX α) : α :=
  Bool.rec (erOps A V call ops k ops.toList fr σ)
    (match planOf P ops with
      | some p => erDraw A V P call ops p.1 (blurF fr ops) k p.2 fr σ []
      | none => A.fail) draw

def erRange (A : Ans α) (E : Er α) (B : FuncId → Bool) (r : Option Nat) (g : Operand) (ps : Array Tmp) (assign body : Code) (fr : HFrame) (σ : Store) (k : KX α) : α :=
  match r, fr.eval g with
  | none, .func (.func f) first cap => if B f then
      E.fn f (first ++ [.func (.yield σ.next) [] []] ++ cap) (σ.push (.loop .ready none fr ps assign body)) fun e σ2 => match e with
        | .returned _ => match σ2.blks.get σ.next with
          | some (.loop st pend lf ps' as bo) => if busy st then A.fail else match pend with
            | none => k .normal fr (σ2.put σ.next (.loop .exhausted none lf ps' as bo))
            | some c => E.code none c fr (σ2.put σ.next (.loop .exhausted (some c) lf ps' as bo)) k
          | _ => A.fail
        | .panicked v => k (.panic v) fr σ2
    else A.fail
  | _, _ => A.fail

def erCode (A : Ans α) (V : OpEv) (P : Program) (B : FuncId → Bool) (E : Er α) (r : Option Nat) (c : Code) (fr : HFrame) (σ : Store) (k : KX α) : α :=
  match c with
  | .skip => k .normal fr σ
  | .label _ => k .normal fr σ
  | .exit id => k (.exit id) fr σ
  | .goto l => k (.goto l) fr σ
  | .ret => k .ret fr σ
  | .seq x y => erSeq E r x y fr σ k
  | .cond c x y => erCond A E r c x y fr σ k
  | .block id c => erBlock E r id c fr σ k
  | .loop c => erLoop E r c fr σ k
  | .region _ ops draw => erRegion A V P (erCall A E B) ops draw fr σ k
  | .rangeFunc g ps assign body => erRange A E B r g ps assign body fr σ k
  | _ => A.fail

def leaveK (A : Ans α) (P : Program) (rs : List ResultVar) (k : KE α) : KX α := fun e fr σ => match e with
  | .normal | .ret => match resultsH P rs fr σ with
    | some v => k (.returned v) σ
    | none => A.fail
  | .panic v => k (.panicked v) σ
  | _ => A.fail

def erBody (A : Ans α) (P : Program) (E : Er α) (f : FuncId) (args : List HV) (σ : Store) (k : KE α) : α :=
  match P.funcs[f]? with
  | none => A.fail
  | some fn => match fn.body with
    | none => A.fail
    | some c => if args.length ≤ fn.ntmps then E.code none c (enterH fn.ntmps σ.globs args) σ (leaveK A P fn.results.toList k) else A.fail

def erFn (A : Ans α) (P : Program) (S : Sums) (E : Er α) (f : FuncId) (args : List HV) (σ : Store) (k : KE α) : α :=
  match S f with
  | some g => match g args σ with
    | some p => k p.1 p.2
    | none => A.fail
  | none => erBody A P E f args σ k

abbrev FnStep (α : Type) := Er α → FuncId → List HV → Store → KE α → α

def erG (A : Ans α) (V : OpEv) (P : Program) (B : FuncId → Bool) (F : FnStep α) (n : Nat) : Er α :=
  Nat.rec (motive := fun _ => Er α) ⟨fun _ _ _ _ _ => A.fail, fun _ _ _ _ => A.fail⟩ (fun _ E => ⟨erCode A V P B E, F E⟩) n

def er (A : Ans α) (V : OpEv) (P : Program) (B : FuncId → Bool) (S : Sums) (n : Nat) : Er α := erG A V P B (erFn A P S) n

theorem er_succ (A : Ans α) (V : OpEv) (P : Program) (B : FuncId → Bool) (S : Sums) (n : Nat) : er A V P B S (n + 1) = ⟨erCode A V P B (er A V P B S n), erFn A P S (er A V P B S n)⟩ := rfl

/-! ### What it finds is so -/
def CodeK (P : Program) (φ : α → Prop) (code : Option Nat → Code → HFrame → Store → KX α → α) : Prop :=
  ∀ r c fr σ k, φ (code r c fr σ k) → HWp P r c (fun x fr σ => φ (k x fr σ)) fr σ
def FnK (P : Program) (φ : α → Prop) (fn : FuncId → List HV → Store → KE α → α) : Prop :=
  ∀ f args σ k, φ (fn f args σ k) → HCall P f args σ (fun e σ => φ (k e σ))
def CallVK (P : Program) (φ : α → Prop) (call : CallK α) : Prop :=
  ∀ fv args σ k, φ (call fv args σ k) → HCallV P fv args σ (fun e σ => φ (k e σ))

variable {A : Ans α} {φ : α → Prop}

theorem altsK_ok (hA : A.Good φ) {k : HV → Store → α} : ∀ (l : List (HV × Store)), φ (altsK A k l) → ∀ p ∈ l, φ (k p.1 p.2)
  | [], _, p, hp => by cases hp
  | [q], h, p, hp => by
    simp only [List.mem_singleton] at hp
    subst hp
    exact h
  | q :: q' :: rest, h, p, hp => by
    have h' : φ (A.both (k q.1 q.2) (altsK A k (q' :: rest))) := h
    obtain ⟨h1, h2⟩ := hA.both _ _ h'
    rcases List.mem_cons.1 hp with rfl | hp
    · exact h1
    · exact altsK_ok hA (q' :: rest) h2 p hp

theorem stepK_ok (hA : A.Good φ) {call : CallK α} (hc : CallVK P φ call) {σ : Store} {r : OpRes} {kv kp : HV → Store → α} (h : φ (stepK A call σ r kv kp)) {K Kp : HV → Store → Prop}
    (h1 : ∀ v σ', φ (kv v σ') → K v σ') (h2 : ∀ v σ', φ (kp v σ') → Kp v σ') : HStep P K Kp σ r := by
  unfold stepK at h
  cases r with
  | val v σ' => exact h1 _ _ h
  | alts l => exact fun p hp => h1 _ _ (altsK_ok hA l h p hp)
  | panic v => exact h2 _ _ h
  | call fv args =>
    refine (hc _ _ _ _ h).mono fun e σ' he => ?_
    cases e with
    | returned v => exact h1 _ _ he
    | panicked v => exact h2 _ _ he
  | stuck => exact (hA.fail h).elim

theorem erOps_ok (hA : A.Good φ) {V : OpEv} (hV : V = evalOp P) {call : CallK α} (hc : CallVK P φ call) {ops : Array Oper} {k : KX α} : ∀ (l : List Oper) (j : Nat) (fr : HFrame) (σ : Store), ops.toList.drop j = l →
    φ (erOps A V call ops k l fr σ) → HOps P ops (fun x fr σ => φ (k x fr σ)) (List.range' j l.length) fr σ
  | [], j, fr, σ, _, h => h
  | o :: rest, j, fr, σ, hd, h => by
    have ho : ops[j]? = some o := by
      rw [← Array.getElem?_toList]
      have := congrArg List.head? hd
      simpa [List.head?_drop] using this
    have hd' : ops.toList.drop (j + 1) = rest := by
      rw [← List.tail_drop, hd]
      rfl
    rw [List.length_cons, List.range'_succ]
    simp only [HOps, ho]
    replace h : φ (if isDefer o.op then A.fail else match wantedH ops o fr with
      | none => A.fail
      | some b => Bool.rec (erOps A V call ops k rest (fr.put o.dst (.tuple [])) σ) (stepK A call σ (V o fr σ) (fun v σ' => erOps A V call ops k rest (fr.put o.dst v) σ') (fun v σ' => k (.panic v) fr σ')) b) := h
    split at h
    · exact (hA.fail h).elim
    rename_i hdef
    refine ⟨by simpa using hdef, ?_⟩
    split at h
    · exact (hA.fail h).elim
    · rename_i b hw
      rw [hw]
      cases b with
      | false => exact erOps_ok hA hV hc rest (j + 1) _ _ hd' h
      | true =>
        simp only
        replace h : φ (stepK A call σ (V o fr σ) (fun v σ' => erOps A V call ops k rest (fr.put o.dst v) σ') (fun v σ' => k (.panic v) fr σ')) := h
        rw [congrFun (congrFun (congrFun hV o) fr) σ] at h
        exact stepK_ok hA hc h (fun v σ' hv => erOps_ok hA hV hc rest (j + 1) _ _ hd' hv) fun v σ' hv => hv

end
end Go.HI

/- The evaluator in the continuation's style is sound. -/
namespace Go.HI
noncomputable section

variable {P : Program} {α : Type} {A : Ans α} {φ : α → Prop}

def OpRes.at (σ' : Store) : OpRes → OpRes
  | .val v _ => .val v σ'
  | .alts l => .alts l
  | r => r

theorem pureOp_at {o : Oper} {fr : HFrame} {σ σ' : Store} {v : HV} {σ1 : Store} (h : pureOp P o fr σ = .val v σ1) : pureOp P o fr σ' = .val v σ' := by
  unfold pureOp at h ⊢
  split at h
  · cases h
  · rename_i hs
    rw [if_neg hs]
    split at h
    · rename_i hp
      rw [if_pos hp]
      split at h
      · split at h
        · cases h; rfl
        · cases h
      · cases h
      · cases h
    · cases h

def keepS (P : Program) (o : Oper) (fr : HFrame) (σ σ' : Store) : Prop := memOpF P o fr σ' = (memOpF P o fr σ).map (OpRes.at σ')

theorem memOp_keep {o : Oper} {fr : HFrame} {σ σ' : Store} (hq : pureB o.op = true) : keepS P o fr σ σ' := by
  obtain ⟨dst, op, type, pos, after, guard⟩ := o
  unfold keepS
  cases op <;> simp only [pureB, Bool.false_eq_true] at hq
  case move x => rfl
  case binOp op t x y u =>
    cases op
    case eql =>
      simp only [memOpF]
      cases eqAny P t (fr.eval x) (fr.eval y) <;> rfl
    case neq =>
      simp only [memOpF]
      cases eqAny P t (fr.eval x) (fr.eval y) <;> rfl
    all_goals rfl
  case fieldAddr s x f =>
    simp only [memOpF, mFieldAddr]
    split
    · rename_i fields _ _
      cases fields[f]? with
      | none => rfl
      | some fd =>
        simp only [Option.bind_eq_bind, Option.bind_some]
        split <;> rfl
    · rfl
  case field t x f =>
    simp only [memOpF, mField]
    split
    · rename_i cs fields _ _
      cases fields[f]? with
      | none => rfl
      | some fd =>
        simp only [Option.bind_eq_bind, Option.bind_some]
        split
        · rfl
        · split
          · rfl
          · cases cs[fd.offset]? <;> rfl
    · rfl
  case indexAddr t x i =>
    simp only [memOpF, mIndexAddr]
    cases intOf? (fr.eval i) with
    | none => rfl
    | some n =>
      simp only [Option.bind_eq_bind, Option.bind_some]
      split
      · split
        · split <;> rfl
        · rfl
      · rfl
      · split <;> rfl
      · rfl
  case index t x i =>
    simp only [memOpF, mIndex]
    cases intOf? (fr.eval i) with
    | none => rfl
    | some n =>
      simp only [Option.bind_eq_bind, Option.bind_some]
      split
      · split
        · split <;> rfl
        · rfl
      · split
        · split
          · rfl
          · split <;> rfl
        · rfl
      · split
        · split
          · rfl
          · rename_i _ elem cs _ _ _ _
            cases cs[n.toNat * szOf P elem]? <;> rfl
        · rfl
      · rfl
  case extract x i =>
    simp only [memOpF, mExtract]
    split
    · rename_i vs _
      cases vs[i]? <;> rfl
    · rfl
  case unOp => rfl

theorem memOp_at {o : Oper} {fr : HFrame} {σ σ' : Store} (hq : pureB o.op = true) : (memOp P o fr σ = none → memOp P o fr σ' = none) ∧ (∀ v σ1, memOp P o fr σ = some (.val v σ1) → memOp P o fr σ' = some (.val v σ')) := by
  have h := memOp_keep (P := P) (fr := fr) (σ := σ) (σ' := σ') hq
  unfold keepS at h
  rw [memOpF_eq, memOpF_eq] at h
  rw [h]
  refine ⟨fun h1 => by rw [h1]; rfl, fun v σ1 h1 => by rw [h1]; rfl⟩

theorem evalOp_at {o : Oper} {fr : HFrame} {σ σ' : Store} (hq : pureB o.op = true) {v : HV} {σ1 : Store} (h : evalOp P o fr σ = .val v σ1) : evalOp P o fr σ' = .val v σ' := by
  obtain ⟨h1, h2⟩ := memOp_at (P := P) (fr := fr) (σ := σ) (σ' := σ') hq
  have hP : ∀ σ, memOpP P o fr σ = none ∨ ∃ op t x y u, o.op = .binOp op t x y u ∧ memOpP P o fr σ = (padEq op (fr.eval x) (fr.eval y)).map fun v => .val v σ := fun σ => by
    obtain ⟨dst, op, type, pos, after, guard⟩ := o
    cases op <;> first | exact .inl rfl | exact .inr ⟨_, _, _, _, _, rfl, rfl⟩ | cases hq
  have hP' : memOpP P o fr σ = none → memOpP P o fr σ' = none := fun hn => by
    rcases hP σ' with h | ⟨op, t, x, y, u, ho, h⟩
    · exact h
    · rcases hP σ with h2 | ⟨op2, t2, x2, y2, u2, ho2, h2⟩
      · have : memOpP P o fr σ = (padEq op (fr.eval x) (fr.eval y)).map fun v => .val v σ := by simp only [memOpP, ho]
        rw [hn] at this
        rw [h]
        cases hq : padEq op (fr.eval x) (fr.eval y) with
        | none => rfl
        | some v => rw [hq] at this; cases this
      · rw [ho] at ho2
        cases ho2
        rw [hn] at h2
        rw [h]
        cases hq : padEq op (fr.eval x) (fr.eval y) with
        | none => rfl
        | some v => rw [hq] at h2; cases h2
  unfold evalOp at h ⊢
  cases hm0 : memOpP P o fr σ with
  | some r =>
    rcases hP σ with h2 | ⟨op, t, x, y, u, ho, h2⟩
    · rw [hm0] at h2; cases h2
    · rw [hm0] at h
      simp only at h
      subst h
      rw [hm0] at h2
      have h3 : memOpP P o fr σ' = (padEq op (fr.eval x) (fr.eval y)).map fun v => .val v σ' := by simp only [memOpP, ho]
      cases hq : padEq op (fr.eval x) (fr.eval y) with
      | none => rw [hq] at h2; cases h2
      | some v' =>
        rw [hq] at h2 h3
        simp only [Option.map_some, Option.some.injEq, OpRes.val.injEq] at h2
        rw [h3]
        simp only [Option.map_some]
        rw [h2.1]
  | none =>
  rw [hm0] at h
  rw [hP' hm0]
  simp only at h ⊢
  unfold evalOp0 at h ⊢
  cases hm : memOp P o fr σ with
  | none => rw [hm] at h; rw [h1 hm]; exact pureOp_at h
  | some r => rw [hm] at h; simp only at h; subst h; rw [h2 v σ1 hm]

theorem pureB_quiet {o : Op} (h : pureB o = true) : isQuiet P o = true := by cases o <;> first | rfl | cases h

/-! ### Regions that draw -/
/-- What the list says of all that came early. -/
def Covers (P : Program) (ops : Array Oper) (fl : List FloatE) (flH : List Float) : Prop :=
  (∀ q ∈ fl, ops[q.i]? = some q.o ∧ (q.g = none → isQuiet P q.o.op = true)) ∧ ∀ p ∈ flH, (∃ q ∈ fl, q.flt = p) ∨ ∀ σ, stayOne P ops σ p

theorem stayK_ok (hA : A.Good φ) {V : OpEv} (hV : V = evalOp P) {ops : Array Oper} {bf : Nat → Bool} {σ : Store} {k : α} : ∀ (fl : List FloatE), (∀ q ∈ fl, ops[q.i]? = some q.o ∧ (q.g = none → isQuiet P q.o.op = true)) → φ (stayK A V P ops bf σ k fl) →
    (∀ q ∈ fl, bf q.i = true ∨ stayOne P ops σ q.flt) ∧ φ k
  | [], _, h => ⟨fun _ hq => (by cases hq), h⟩
  | p :: fl, hf, h => by
    replace h : φ (Bool.rec (motive := fun _ => α) (match p.g with
      | none => match V p.o p.F σ with
        | .val v' _ => A.same v' p.v (stayK A V P ops bf σ k fl)
        | _ => A.fail
      | some b => if lateB P p.o (restrictF p.F (p.o.looksAt ops)) σ p.v b then stayK A V P ops bf σ k fl else A.fail) (stayK A V P ops bf σ k fl) (bf p.i)) := h
    have hf' : ∀ q ∈ fl, ops[q.i]? = some q.o ∧ (q.g = none → isQuiet P q.o.op = true) := fun q hq => hf q (List.mem_cons_of_mem _ hq)
    obtain ⟨hp, hpq⟩ := hf p (List.mem_cons_self ..)
    have fin : ∀ (hx : bf p.i = true ∨ stayOne P ops σ p.flt), φ (stayK A V P ops bf σ k fl) → (∀ q ∈ p :: fl, bf q.i = true ∨ stayOne P ops σ q.flt) ∧ φ k := by
      intro hx hr
      obtain ⟨h1, h2⟩ := stayK_ok hA hV fl hf' hr
      refine ⟨fun q hq => ?_, h2⟩
      rcases List.mem_cons.1 hq with rfl | hq
      · exact hx
      · exact h1 q hq
    cases hb : bf p.i with
    | true => rw [hb] at h; exact fin (.inl hb) h
    | false =>
      rw [hb] at h
      simp only at h
      split at h
      · rename_i hg
        rw [congrFun (congrFun (congrFun hV p.o) p.F) σ] at h
        split at h
        · rename_i v' σ' he
          obtain ⟨h1, h2⟩ := hA.same _ _ _ h
          subst h1
          have := evalOp_same (hpq hg) he
          subst this
          refine fin (.inr ⟨p.o, hp, ?_⟩) h2
          simp only [FloatE.flt, hg]
          exact he
        · exact (hA.fail h).elim
      · rename_i b hg
        split at h
        · rename_i hl
          refine fin (.inr ⟨p.o, hp, ?_⟩) h
          simp only [FloatE.flt, hg]
          exact lateB_ok hl
        · exact (hA.fail h).elim

theorem erDraw_ok (hA : A.Good φ) {V : OpEv} (hV : V = evalOp P) {call : CallK α} (hc : CallVK P φ call) {ops : Array Oper} {M : List Nat} {frB : HFrame} {k : KX α} : ∀ (l : List Nat) (fr : HFrame) (σ : Store) (fl : List FloatE) (flH : List Float), (∀ i ∈ l, i < ops.size) → Covers P ops fl flH →
    φ (erDraw A V P call ops M frB k (pairsOf ops l) fr σ fl) → HDraw P ops (xOf P ops) (yOf ops) M frB (fun x fr σ => φ (k x fr σ)) l fr σ flH
  | [], fr, σ, fl, flH, _, _, h => h
  | i :: rest, fr, σ, fl, flH, hl, hcv, h => by
    have hi : i < ops.size := hl i (List.mem_cons_self ..)
    have hl' : ∀ j ∈ rest, j < ops.size := fun j hj => hl j (List.mem_cons_of_mem _ hj)
    obtain ⟨o, ho⟩ : ∃ o, ops[i]? = some o := ⟨ops[i], by simp [hi]⟩
    have hpairs : pairsOf ops (i :: rest) = (i, o) :: pairsOf ops rest := by simp [pairsOf, ho]
    rw [hpairs] at h
    replace h : φ (match wantedH ops o fr with
      | none => A.fail
      | some b => Bool.rec (erDraw A V P call ops M frB k (pairsOf ops rest) (fr.put o.dst (.tuple [])) σ fl) (drawRun A V P call ops M frB k i o fr σ fl (erDraw A V P call ops M frB k (pairsOf ops rest))) b) := h
    rw [HDraw, ho]
    simp only
    split at h
    · exact (hA.fail h).elim
    rename_i b hw
    rw [hw]
    cases b with
    | false => exact erDraw_ok hA hV hc rest _ _ _ _ hl' hcv h
    | true =>
      simp only
      replace h : φ (drawRun A V P call ops M frB k i o fr σ fl (erDraw A V P call ops M frB k (pairsOf ops rest))) := h
      have hX : xOf P ops i = (!isQuiet P o.op && !isAlloc o.op) := by simp [xOf, ho]
      have hY : yOf ops i = isAlloc o.op := by simp [yOf, ho]
      rw [hX, hY]
      unfold drawRun at h
      cases ha : isAlloc o.op with
      | true =>
        rw [ha] at h
        simp only [Bool.not_true, Bool.and_false, Bool.false_eq_true, if_false, if_true]
        replace h : φ (drawAlloc A V P ops i o fr σ fl (erDraw A V P call ops M frB k (pairsOf ops rest))) := h
        unfold drawAlloc at h
        rw [congrFun (congrFun (congrFun hV o) fr) σ] at h
        split at h
        · rename_i v σ1 he
          split at h
          · rename_i hlate
            obtain ⟨h1, h2⟩ := stayK_ok hA hV fl hcv.1 h
            refine ⟨v, σ1, σ.next, alloc_ghost ha he hlate, lateB_ok hlate, fun p hp => ?_, erDraw_ok hA hV hc rest _ _ _ _ hl' ⟨?_, ?_⟩ h2⟩
            · rcases hcv.2 p hp with ⟨q, hq, rfl⟩ | hpure
              · rcases h1 q hq with h3 | h3
                · cases h3
                · exact h3
              · exact hpure σ1
            · intro q hq
              rcases List.mem_cons.1 hq with rfl | hq
              · exact ⟨ho, fun hg => by cases hg⟩
              · exact hcv.1 q hq
            · intro p hp
              rcases List.mem_cons.1 hp with rfl | hp
              · exact .inl ⟨_, List.mem_cons_self .., rfl⟩
              · rcases hcv.2 p hp with ⟨q, hq, hqp⟩ | hpure
                · exact .inl ⟨q, List.mem_cons_of_mem _ hq, hqp⟩
                · exact .inr hpure
          · exact (hA.fail h).elim
        · exact (hA.fail h).elim
      | false =>
        rw [ha] at h
        simp only [Bool.not_false, Bool.and_true, Bool.false_eq_true, if_false]
        cases hqt : isQuiet P o.op with
        | true =>
          rw [hqt] at h
          simp only [Bool.not_true, Bool.false_eq_true, if_false]
          replace h : φ (drawQuiet A V i o fr σ fl (erDraw A V P call ops M frB k (pairsOf ops rest))) := h
          unfold drawQuiet at h
          rw [congrFun (congrFun (congrFun hV o) fr) σ] at h
          split at h
          · rename_i v σ1 he
            have := evalOp_same hqt he
            subst this
            refine ⟨v, he, ?_⟩
            cases hpb : pureB o.op with
            | true =>
              rw [hpb] at h
              refine erDraw_ok hA hV hc rest _ _ fl _ hl' ⟨hcv.1, fun p hp => ?_⟩ h
              rcases List.mem_cons.1 hp with rfl | hp
              · exact .inr fun σ' => ⟨o, ho, evalOp_at hpb he⟩
              · exact hcv.2 p hp
            | false =>
              rw [hpb] at h
              refine erDraw_ok hA hV hc rest _ _ (⟨i, o, fr, v, none⟩ :: fl) _ hl' ⟨fun q hq => ?_, fun p hp => ?_⟩ h
              · rcases List.mem_cons.1 hq with rfl | hq
                · exact ⟨ho, fun _ => hqt⟩
                · exact hcv.1 q hq
              · rcases List.mem_cons.1 hp with rfl | hp
                · exact .inl ⟨_, List.mem_cons_self .., rfl⟩
                · rcases hcv.2 p hp with ⟨q, hq, hqp⟩ | hpure
                  · exact .inl ⟨q, List.mem_cons_of_mem _ hq, hqp⟩
                  · exact .inr hpure
          · exact (hA.fail h).elim
        | false =>
          rw [hqt] at h
          simp only [Bool.not_false, if_true]
          replace h : φ (stepK A call σ (V o fr σ) (fun v σ' => stayK A V P ops (bef M i) σ' (erDraw A V P call ops M frB k (pairsOf ops rest) (fr.put o.dst v) σ' fl) fl) (fun v σ' => k (.panic v) frB σ')) := h
          rw [congrFun (congrFun (congrFun hV o) fr) σ] at h
          refine stepK_ok hA hc h (fun v σ' hv => ?_) fun v σ' hv => hv
          obtain ⟨h1, h2⟩ := stayK_ok hA hV fl hcv.1 hv
          refine ⟨fun p hp => ?_, erDraw_ok hA hV hc rest _ _ _ _ hl' hcv h2⟩
          rcases hcv.2 p hp with ⟨q, hq, rfl⟩ | hpure
          · exact h1 q hq
          · exact .inr (hpure σ')

/-! ### Calls -/
theorem erCall_ok (hA : A.Good φ) {E : Er α} {B : FuncId → Bool} (hB : ∀ f, B f = true → hasBody P f = true) (h1 : CodeK P φ E.code) (h2 : FnK P φ E.fn) : CallVK P φ (erCall A E B) := by
  intro fv args σ k h
  unfold erCall at h
  split at h
  · rename_i fn first cap
    split at h
    · rename_i f
      split at h
      · rename_i hb
        exact HCall.value (hB _ hb) (h2 _ _ _ _ h)
      · exact (hA.fail h).elim
    · rename_i b
      split at h
      · unfold erYield at h
        split at h
        · rename_i st pend lf ps assign body hb
          split at h
          · rename_i hn
            refine HCallV.yield hb hn ((h1 _ _ _ _ _ h).mono fun x fr1 σ1 hx => ?_)
            split at hx
            · unfold roundK at hx
              split at hx
              · rename_i pend1 lf1 ps1 as1 bo1 hb1
                refine ⟨trivial, _, _, _, _, _, hb1, (h1 _ _ _ _ _ hx).mono fun x fr2 σ2 hx => ?_⟩
                split at hx
                · rename_i j st2 pend2 lf2 ps2 as2 bo2 hj hb2
                  exact ⟨j, _, _, _, _, _, _, hj, hb2, hx⟩
                · exact (hA.fail hx).elim
              · exact (hA.fail hx).elim
            · exact (hA.fail hx).elim
          · exact (hA.fail h).elim
        · exact (hA.fail h).elim
      · exact (hA.fail h).elim
    · exact (hA.fail h).elim
  · exact (hA.fail h).elim

theorem leaveK_ok (hA : A.Good φ) {rs : List ResultVar} {k : KE α} {x : HExit} {fr : HFrame} {σ : Store} (h : φ (leaveK A P rs k x fr σ)) : leaveH P rs (fun e σ => φ (k e σ)) x fr σ := by
  cases x with
  | normal =>
    simp only [leaveK] at h
    split at h
    · rename_i v hv; exact ⟨v, hv, h⟩
    · exact (hA.fail h).elim
  | ret =>
    simp only [leaveK] at h
    split at h
    · rename_i v hv; exact ⟨v, hv, h⟩
    · exact (hA.fail h).elim
  | panic v => exact h
  | exit => exact (hA.fail h).elim
  | goto => exact (hA.fail h).elim

def SumsOK (P : Program) (S : Sums) : Prop :=
  ∀ f g, S f = some g → ∀ args σ e σ', g args σ = some (e, σ') → ∀ R : HEnd → Store → Prop, R e σ' → HCall P f args σ R

theorem erBody_ok (hA : A.Good φ) {E : Er α} (h1 : CodeK P φ E.code) {f : FuncId} {args : List HV} {σ : Store} {k : KE α} (h : φ (erBody A P E f args σ k)) : HCall P f args σ (fun e σ => φ (k e σ)) := by
  unfold erBody at h
  split at h
  · exact (hA.fail h).elim
  rename_i fn hf
  split at h
  · exact (hA.fail h).elim
  rename_i c hb
  split at h
  · rename_i hn
    exact HCall.of_body hf hb hn ((h1 _ _ _ _ _ h).mono fun x fr σ hx => leaveK_ok hA hx)
  · exact (hA.fail h).elim

theorem erFn_ok (hA : A.Good φ) {S : Sums} {E : Er α} (hS : SumsOK P S) (h1 : CodeK P φ E.code) : FnK P φ (erFn A P S E) := by
  intro f args σ k h
  unfold erFn at h
  split at h
  · rename_i g hg
    split at h
    · rename_i p hp
      exact hS f g hg args σ p.1 p.2 hp _ h
    · exact (hA.fail h).elim
  · exact erBody_ok hA h1 h

theorem erG_ok (hA : A.Good φ) {V : OpEv} (hV : V = evalOp P) (hm : P.follows .mixedOrders = true) {B : FuncId → Bool} {F : FnStep α} (hB : ∀ f, B f = true → hasBody P f = true) (hF : ∀ E : Er α, CodeK P φ E.code → FnK P φ E.fn → FnK P φ (F E)) :
    ∀ n m, m ≤ n → CodeK P φ (erG A V P B F m).code ∧ FnK P φ (erG A V P B F m).fn := by
  intro n
  induction n with
  | zero =>
    intro m hmn
    have : m = 0 := by omega
    subst this
    exact ⟨fun r c fr σ k h => (hA.fail h).elim, fun f args σ k h => (hA.fail h).elim⟩
  | succ n ih =>
    intro m hmn
    by_cases hle : m ≤ n
    · exact ih m hle
    have : m = n + 1 := by omega
    subst this
    obtain ⟨h1, h2⟩ := ih n (Nat.le_refl _)
    have hcall := erCall_ok hA hB h1 h2
    refine ⟨?_, hF _ h1 h2⟩
    intro r c fr σ k h
    change φ (erCode A V P B (erG A V P B F n) r c fr σ k) at h
    cases c with
    | skip => exact HWp.skip h
    | label l => exact HWp.label h
    | exit id => exact HWp.exit h
    | goto l => exact HWp.goto h
    | ret => exact HWp.ret h
    | seq a b =>
      refine HWp.seq ((h1 _ _ _ _ _ h).mono fun x fr1 σ1 hx => ?_)
      cases x with
      | normal => exact h1 _ _ _ _ _ hx
      | _ => exact hx
    | cond c a b =>
      simp only [erCode, erCond] at h
      split at h
      · rename_i t hc
        refine HWp.cond hc ?_
        cases t with
        | true => exact h1 _ _ _ _ _ h
        | false => exact h1 _ _ _ _ _ h
      · exact (hA.fail h).elim
    | block id c =>
      refine HWp.block ((h1 _ _ _ _ _ h).mono fun x fr1 σ1 hx => ?_)
      cases x with
      | exit i =>
        simp only [HExit.inBlock]
        simp only at hx
        by_cases hid : i = id
        · subst hid
          rw [Nat.beq_refl] at hx
          rw [if_pos rfl]
          exact hx
        · have : Nat.beq i id = false := by cases hq : Nat.beq i id with | false => rfl | true => exact absurd (Nat.eq_of_beq_eq_true hq) hid
          rw [this] at hx
          rw [if_neg hid]
          exact hx
      | _ => exact hx
    | loop c =>
      classical
      let I : HFrame → Store → Nat → Prop := fun fr σ m => m ≤ n + 1 ∧ φ ((erG A V P B F m).code r (.loop c) fr σ k)
      let μ : HFrame → Store → Nat := fun fr σ => if h : ∃ m, I fr σ m then Classical.choose (least h) else 0
      have hμ : ∀ fr σ, (∃ m, I fr σ m) → I fr σ (μ fr σ) ∧ ∀ k, I fr σ k → μ fr σ ≤ k := fun fr σ h => by
        simp only [μ, dif_pos h]
        exact Classical.choose_spec (least h)
      refine HWp.loop (fun fr σ => ∃ m, I fr σ m) μ ⟨n + 1, Nat.le_refl _, h⟩ ?_
      intro fr0 σ0 hI
      obtain ⟨hI1, _⟩ := hμ fr0 σ0 hI
      generalize μ fr0 σ0 = m at hI1
      obtain ⟨hmle, hev⟩ := hI1
      cases m with
      | zero => exact (hA.fail hev).elim
      | succ m =>
        change φ (erLoop (erG A V P B F m) r c fr0 σ0 k) at hev
        obtain ⟨g1, _⟩ := ih m (by omega)
        refine (g1 _ _ _ _ _ hev).mono fun x fr1 σ1 hx => ?_
        cases x with
        | normal =>
          have hI2 : ∃ m, I fr1 σ1 m := ⟨m, by omega, hx⟩
          refine ⟨hI2, ?_⟩
          have := (hμ fr1 σ1 hI2).2 m ⟨by omega, hx⟩
          omega
        | _ => exact hx
    | region id ops draw =>
      cases draw with
      | false =>
        refine HWp.region ?_
        have := erOps_ok hA hV hcall (k := k) ops.toList 0 fr σ (by simp) h
        rw [List.range_eq_range']
        simpa using this
      | true =>
        replace h : φ (match planOf P ops with
          | some p => erDraw A V P (erCall A (erG A V P B F n) B) ops p.1 (blurF fr ops) k p.2 fr σ []
          | none => A.fail) := h
        split at h
        · rename_i p hp
          unfold planOf at hp
          split at hp
          · rename_i hpl
            cases hp
            simp only [Bool.and_eq_true, drawB, List.all_eq_true, decide_eq_true_eq] at hpl
            exact HWp.draw hm hpl.1.1 hpl.1.2 (erDraw_ok hA hV hcall _ _ _ _ _ hpl.2 ⟨fun q hq => (by cases hq), fun p hp => (by cases hp)⟩ h)
          · cases hp
        · exact (hA.fail h).elim
    | rangeFunc g ps assign body =>
      replace h : φ (erRange A (erG A V P B F n) B r g ps assign body fr σ k) := h
      unfold erRange at h
      split at h
      · rename_i f first cap hg
        split at h
        · rename_i hb
          refine HWp.rangeFunc hg (hB _ hb) ((h2 _ _ _ _ h).mono fun e σ2 he => ?_)
          cases e with
          | panicked v => exact he
          | returned v =>
            simp only at he
            split at he
            · rename_i st pend lf ps' as bo hblk
              split at he
              · exact (hA.fail he).elim
              · rename_i hbusy
                refine ⟨st, pend, lf, ps', as, bo, hblk, ?_, ?_⟩
                · intro e; subst e; exact hbusy rfl
                · split at he
                  · exact he
                  · exact h1 _ _ _ _ _ he
            · exact (hA.fail he).elim
        · exact (hA.fail h).elim
      · exact (hA.fail h).elim
    | _ => exact (hA.fail h).elim

theorem er_ok (hA : A.Good φ) {V : OpEv} (hV : V = evalOp P) (hm : P.follows .mixedOrders = true) {B : FuncId → Bool} {S : Sums} (hB : ∀ f, B f = true → hasBody P f = true) (hS : SumsOK P S) :
    ∀ n m, m ≤ n → CodeK P φ (er A V P B S m).code ∧ FnK P φ (er A V P B S m).fn := erG_ok hA hV hm hB fun _ h1 _ => erFn_ok hA hS h1

end
end Go.HI

/- Answers: a list of outcomes; what is found is so. -/
namespace Go.HI
noncomputable section

variable {P : Program}

abbrev Outs := Option (List (HEnd × Store))

/-- All outcomes, alternatives side by side. -/
def AL : Ans Outs where
  fail := none
  both := fun a b => match a with
    | some l => match b with
      | some m => some (l ++ m)
      | none => none
    | none => none
  same := fun v v' a => Bool.rec none a (HV.beq v v')

def okL (R : HEnd → Store → Prop) : Outs → Prop
  | some l => ∀ p ∈ l, R p.1 p.2
  | none => False

theorem AL_good (R : HEnd → Store → Prop) : AL.Good (okL R) where
  fail := id
  both := fun a b h => by
    cases a with
    | none => exact h.elim
    | some l => cases b with
      | none => exact h.elim
      | some m => exact ⟨fun p hp => h p (List.mem_append_left _ hp), fun p hp => h p (List.mem_append_right _ hp)⟩
  same := fun v v' a h => by
    simp only [AL] at h
    cases hb : HV.beq v v' with
    | false => rw [hb] at h; exact h.elim
    | true => rw [hb] at h; exact ⟨HV.beq_eq _ _ hb, h⟩

def outK : KE Outs := fun e σ => some [(e, σ)]

/-- One outcome, or none. -/
def A1 : Ans (Option (HEnd × Store)) where
  fail := none
  both := fun _ _ => none
  same := fun v v' a => Bool.rec none a (HV.beq v v')

def ok1 (R : HEnd → Store → Prop) : Option (HEnd × Store) → Prop
  | some p => R p.1 p.2
  | none => False

theorem A1_good (R : HEnd → Store → Prop) : A1.Good (ok1 R) where
  fail := id
  both := fun a b h => h.elim
  same := fun v v' a h => by
    simp only [A1] at h
    cases hb : HV.beq v v' with
    | false => rw [hb] at h; exact h.elim
    | true => rw [hb] at h; exact ⟨HV.beq_eq _ _ hb, h⟩

def run1 (V : OpEv) (P : Program) (B : FuncId → Bool) (S : Sums) (n : Nat) (f : FuncId) (args : List HV) (σ : Store) : Option (HEnd × Store) :=
  erBody A1 P (er A1 V P B S n) f args σ fun e σ => some (e, σ)

def runL (V : OpEv) (P : Program) (B : FuncId → Bool) (S : Sums) (n : Nat) (f : FuncId) (args : List HV) (σ : Store) : Outs :=
  erBody AL P (er AL V P B S n) f args σ outK

section

theorem run1_ok {V : OpEv} (hV : V = evalOp P) (hm : P.follows .mixedOrders = true) {B : FuncId → Bool} {S : Sums} (hB : ∀ f, B f = true → hasBody P f = true) (hS : SumsOK P S) {n : Nat} {f : FuncId} {args : List HV} {σ : Store} {e : HEnd} {σ' : Store} (h : run1 V P B S n f args σ = some (e, σ')) {R : HEnd → Store → Prop} (hR : R e σ') : HCall P f args σ R := by
  have := erBody_ok (A1_good R) (er_ok (A1_good R) hV hm hB hS n n (Nat.le_refl _)).1 (f := f) (args := args) (σ := σ) (k := fun e σ => some (e, σ)) (by
    unfold run1 at h
    rw [h]
    exact hR)
  exact this

theorem runL_ok {V : OpEv} (hV : V = evalOp P) (hm : P.follows .mixedOrders = true) {B : FuncId → Bool} {S : Sums} (hB : ∀ f, B f = true → hasBody P f = true) (hS : SumsOK P S) {n : Nat} {f : FuncId} {args : List HV} {σ : Store} {l : List (HEnd × Store)} (h : runL V P B S n f args σ = some l) {R : HEnd → Store → Prop} (hR : ∀ p ∈ l, R p.1 p.2) : HCall P f args σ R := by
  have := erBody_ok (AL_good R) (er_ok (AL_good R) hV hm hB hS n n (Nat.le_refl _)).1 (f := f) (args := args) (σ := σ) (k := outK) (by
    unfold runL at h
    rw [h]
    exact hR)
  exact this.mono fun e σ he => he (e, σ) (by simp)
end

end
end Go.HI

/- The evaluation of an operation, for the kernel: numbers by the natural ones. -/
namespace Go.HI
noncomputable section

variable {P : Program} {o : Oper} {fr : HFrame} {σ : Store}

/-! ### Numbers -/
def wrapN (k : IntKind) (m : Nat) : Int :=
  match k with
  | .i64 => Bool.rec (k.wrap (.ofNat m)) (.ofNat m) (Nat.blt m 9223372036854775808)
  | .u8 => .ofNat (Nat.mod m 256)
  | .u32 => .ofNat (Nat.mod m 4294967296)
  | .u64 => .ofNat (Nat.mod m 18446744073709551616)
  | k => k.wrap (.ofNat m)

theorem wrapN_eq (k : IntKind) (m : Nat) : wrapN k m = k.wrap (.ofNat m) := by
  cases k <;> first | rfl | skip
  · simp only [wrapN]
    cases h : Nat.blt m 9223372036854775808 with
    | false => rfl
    | true =>
      have h : m < 9223372036854775808 := by simpa [Nat.blt_eq] using h
      unfold IntKind.wrap
      have e63 : (2 : Int) ^ (64 - 1) = 9223372036854775808 := by decide
      have e64 : (2 : Int) ^ 64 = 18446744073709551616 := by decide
      dsimp only [IntKind.bits, IntKind.signed]
      simp only [Bool.true_and, decide_eq_true_eq, Int.ofNat_eq_natCast, e63, e64]
      split <;> omega
  all_goals
    simp only [wrapN, IntKind.wrap, IntKind.bits, IntKind.signed, Int.ofNat_eq_natCast, Bool.false_and, Bool.false_eq_true, if_false]
    show ((m % _ : Nat) : Int) = _
    rw [Int.natCast_mod]
    rfl

def wrapQ (k : IntKind) (n : Int) : Int :=
  match n with
  | .ofNat m => wrapN k m
  | n => k.wrap n

theorem wrapQ_eq (k : IntKind) (n : Int) : wrapQ k n = k.wrap n := by
  cases n with
  | ofNat m => exact wrapN_eq k m
  | negSucc m => rfl

def addQ (a b : Int) : Int :=
  match a with
  | .ofNat m => match b with
    | .ofNat n => .ofNat (Nat.add m n)
    | b => .ofNat m + b
  | a => a + b
theorem addQ_eq (a b : Int) : addQ a b = a + b := by cases a <;> cases b <;> rfl

def subQ (a b : Int) : Int :=
  match a with
  | .ofNat m => match b with
    | .ofNat n => Bool.rec (.ofNat m - .ofNat n) (.ofNat (Nat.sub m n)) (Nat.ble n m)
    | b => .ofNat m - b
  | a => a - b
theorem subQ_eq (a b : Int) : subQ a b = a - b := by
  cases a <;> cases b <;> first | rfl | skip
  rename_i m n
  simp only [subQ]
  cases h : Nat.ble n m with
  | false => rfl
  | true =>
    have h : n ≤ m := by simpa [Nat.ble_eq] using h
    show ((m - n : Nat) : Int) = (m : Int) - (n : Int)
    omega

def mulQ (a b : Int) : Int :=
  match a with
  | .ofNat m => match b with
    | .ofNat n => .ofNat (Nat.mul m n)
    | b => .ofNat m * b
  | a => a * b
theorem mulQ_eq (a b : Int) : mulQ a b = a * b := by cases a <;> cases b <;> rfl

def ltQ (a b : Int) : Bool :=
  match a with
  | .ofNat m => match b with
    | .ofNat n => Nat.blt m n
    | _ => false
  | a => match b with
    | .ofNat _ => true
    | b => decide (a < b)
theorem ltQ_eq (a b : Int) : ltQ a b = decide (a < b) := by
  cases a <;> cases b <;> simp only [ltQ]
  · rename_i m n
    rw [Bool.eq_iff_iff]
    simp [Nat.blt_eq]
  · symm; simp only [decide_eq_false_iff_not]; rename_i m n; have := Int.negSucc_lt_zero n; simp only [Int.ofNat_eq_natCast]; omega
  · symm; simp only [decide_eq_true_eq]; rename_i m n; have := Int.negSucc_lt_zero m; simp only [Int.ofNat_eq_natCast]; omega
def eqQ (a b : Int) : Bool :=
  match a with
  | .ofNat m => match b with
    | .ofNat n => Nat.beq m n
    | _ => false
  | a => match b with
    | .ofNat _ => false
    | b => a == b
theorem eqQ_eq (a b : Int) : eqQ a b = (a == b) := by
  cases a <;> cases b <;> simp only [eqQ]
  · rename_i m n
    rw [Bool.eq_iff_iff]
    simp only [Nat.beq_eq, beq_iff_eq, Int.ofNat_eq_natCast]
    omega
  · rfl
  · rfl

def unsigned : IntKind → Bool
  | .u8 | .u16 | .u32 | .u64 => true
  | _ => false

/-- Bits of natural numbers. -/
def bitsQ (f : Nat → Nat → Nat) (slow : Int) (k : IntKind) (a b : Int) : Int :=
  match a with
  | .ofNat m => match b with
    | .ofNat n => match k with
      | .u32 => .ofNat (f (Nat.mod m 4294967296) (Nat.mod n 4294967296))
      | .u64 => .ofNat (f (Nat.mod m 18446744073709551616) (Nat.mod n 18446744073709551616))
      | .u8 => .ofNat (f (Nat.mod m 256) (Nat.mod n 256))
      | _ => slow
    | _ => slow
  | _ => slow

theorem wrap_small {k : IntKind} (hk : unsigned k = true) {m : Nat} (h : m < 2 ^ k.bits) : k.wrap (m : Int) = (m : Int) := by
  have e : (m : Int) % (2 ^ k.bits : Int) = m := by
    apply Int.emod_eq_of_lt (by omega)
    exact_mod_cast h
  cases k <;> first | cases hk | skip
  all_goals
    simp only [IntKind.wrap, IntKind.signed, Bool.false_and, Bool.false_eq_true, if_false]
    exact e

theorem ofInt_nat (n m : Nat) : BitVec.ofInt n (Int.ofNat m) = BitVec.ofNat n m := by
  simp

theorem xorQ_eq (k : IntKind) (a b : Int) : bitsQ Nat.xor (k.wrap ((BitVec.ofInt k.bits a ^^^ BitVec.ofInt k.bits b).toNat)) k a b = k.wrap ((BitVec.ofInt k.bits a ^^^ BitVec.ofInt k.bits b).toNat) := by
  unfold bitsQ
  split <;> try rfl
  split <;> try rfl
  split <;> try rfl
  all_goals
    rw [wrap_small rfl (BitVec.isLt _), ofInt_nat, ofInt_nat, BitVec.toNat_xor, BitVec.toNat_ofNat, BitVec.toNat_ofNat]
    rfl
theorem andQ_eq (k : IntKind) (a b : Int) : bitsQ Nat.land (k.wrap ((BitVec.ofInt k.bits a &&& BitVec.ofInt k.bits b).toNat)) k a b = k.wrap ((BitVec.ofInt k.bits a &&& BitVec.ofInt k.bits b).toNat) := by
  unfold bitsQ
  split <;> try rfl
  split <;> try rfl
  split <;> try rfl
  all_goals
    rw [wrap_small rfl (BitVec.isLt _), ofInt_nat, ofInt_nat, BitVec.toNat_and, BitVec.toNat_ofNat, BitVec.toNat_ofNat]
    rfl
theorem orQ_eq (k : IntKind) (a b : Int) : bitsQ Nat.lor (k.wrap ((BitVec.ofInt k.bits a ||| BitVec.ofInt k.bits b).toNat)) k a b = k.wrap ((BitVec.ofInt k.bits a ||| BitVec.ofInt k.bits b).toNat) := by
  unfold bitsQ
  split <;> try rfl
  split <;> try rfl
  split <;> try rfl
  all_goals
    rw [wrap_small rfl (BitVec.isLt _), ofInt_nat, ofInt_nat, BitVec.toNat_or, BitVec.toNat_ofNat, BitVec.toNat_ofNat]
    rfl

/-- Two numbers of one kind. -/
def sameQ (op : BinOp) (k : IntKind) (a b : Int) : Option HV :=
  match op with
  | .add => some (.int k (wrapQ k (addQ a b)))
  | .sub => some (.int k (wrapQ k (subQ a b)))
  | .mul => some (.int k (wrapQ k (mulQ a b)))
  | .and => some (.int k (bitsQ Nat.land (k.wrap ((BitVec.ofInt k.bits a &&& BitVec.ofInt k.bits b).toNat)) k a b))
  | .or => some (.int k (bitsQ Nat.lor (k.wrap ((BitVec.ofInt k.bits a ||| BitVec.ofInt k.bits b).toNat)) k a b))
  | .xor => some (.int k (bitsQ Nat.xor (k.wrap ((BitVec.ofInt k.bits a ^^^ BitVec.ofInt k.bits b).toNat)) k a b))
  | .eql => some (.bool (eqQ a b))
  | .neq => some (.bool (not (eqQ a b)))
  | .lss => some (.bool (ltQ a b))
  | .leq => some (.bool (not (ltQ b a)))
  | .gtr => some (.bool (ltQ b a))
  | .geq => some (.bool (not (ltQ a b)))
  | _ => none

theorem sameQ_eq (op : BinOp) (k : IntKind) (a b : Int) : sameQ op k a b = fastInt op k a b := by
  cases op <;> simp only [sameQ, fastInt, wrapQ_eq, addQ_eq, subQ_eq, mulQ_eq, xorQ_eq, andQ_eq, orQ_eq, eqQ_eq, ltQ_eq, Option.some.injEq, HV.bool.injEq]
  · rfl
  · rw [← decide_not, decide_eq_decide]; omega
  · rw [← decide_not, decide_eq_decide]; omega

def shlQ (k : IntKind) (a : Int) (n : Nat) : Int :=
  match a with
  | .ofNat m => wrapN k (Nat.mul m (Nat.pow 2 n))
  | a => k.wrap (a * 2 ^ n)
theorem shlQ_eq (k : IntKind) (a : Int) (n : Nat) : shlQ k a n = k.wrap (a * 2 ^ n) := by
  cases a with
  | ofNat m =>
    simp only [shlQ, wrapN_eq]
    congr 1
  | negSucc m => rfl

def shrQ (a : Int) (n : Nat) : Int :=
  match a with
  | .ofNat m => .ofNat (Nat.div m (Nat.pow 2 n))
  | a => a.fdiv (2 ^ n)
theorem shrQ_eq (a : Int) (n : Nat) : shrQ a n = a.fdiv (2 ^ n) := by
  cases a with
  | ofNat m =>
    simp only [shrQ]
    show ((m / 2 ^ n : Nat) : Int) = (m : Int).fdiv (2 ^ n)
    rw [Int.ofNat_fdiv, Int.natCast_pow]
    rfl
  | negSucc m => rfl

def shiftQ (op : BinOp) (k : IntKind) (a b : Int) : Option HV :=
  match b with
  | .ofNat n => match op with
    | .shl => some (.int k (shlQ k a (min n k.bits)))
    | .shr => some (.int k (shrQ a (min n k.bits)))
    | _ => none
  | _ => none

theorem shiftQ_ok {op : BinOp} {t : TypeId} {x y : Operand} {u : TypeId} (ho : o.op = .binOp op t x y u) {k k' : IntKind} {a b : Int} (hx : fr.eval x = .int k a) (hy : fr.eval y = .int k' b) {v : HV} (h : shiftQ op k a b = some v) : evalOp P o fr σ = .val v σ := by
  unfold shiftQ at h
  split at h
  · rename_i n
    have hneg : ¬ ((n : Int) < 0) := by omega
    split at h
    · cases h
      have hmem : memOp P o fr σ = none := by simp only [memOp, ho]
      have hP : memOpP P o fr σ = none := by simp only [memOpP, ho]; rfl
      unfold evalOp
      rw [hP]
      unfold evalOp0
      rw [hmem]
      simp [hneg, shlQ_eq, pureOp, isSelect, ho, allPlain, Op.operands, HV.plain, pureEv, execOp, eqGuard, binOp, Op.shift, runPure, hx, hy, HV.ofValue, HV.ofScalar, pure, bind, Sem.bind]
    · cases h
      have hmem : memOp P o fr σ = none := by simp only [memOp, ho]
      have hP : memOpP P o fr σ = none := by simp only [memOpP, ho]; rfl
      unfold evalOp
      rw [hP]
      unfold evalOp0
      rw [hmem]
      simp [hneg, shrQ_eq, pureOp, isSelect, ho, allPlain, Op.operands, HV.plain, pureEv, execOp, eqGuard, binOp, Op.shift, runPure, hx, hy, HV.ofValue, HV.ofScalar, pure, bind, Sem.bind]
    · cases h
  · cases h

def convQ (P : Program) (dst : TypeId) (v : HV) : Option HV :=
  match v with
  | .int _ n => match P.underlying dst with
    | some (.int k) => some (.int k (wrapQ k n))
    | _ => none
  | _ => none

theorem convQ_ok {src dst : TypeId} {x : Operand} (ho : o.op = .convert src dst x) (hs : (P.underlying src).isSome = true) {v : HV} (h : convQ P dst (fr.eval x) = some v) : evalOp P o fr σ = .val v σ := by
  unfold convQ at h
  split at h
  · rename_i k0 n hx
    split at h
    · rename_i k hd
      cases h
      obtain ⟨d, hd0⟩ := Option.isSome_iff_exists.1 hs
      have hmem : memOp P o fr σ = none := by
        simp only [memOp, ho, hx, hd]
        split <;> simp_all
      have hP : memOpP P o fr σ = none := by simp only [memOpP, ho, padConv, hx]
      unfold evalOp
      rw [hP]
      unfold evalOp0
      rw [hmem]
      simp [wrapQ_eq, pureOp, isSelect, ho, allPlain, Op.operands, HV.plain, pureEv, execOp, convert, underlying, program, Conv.intToInt, runPure, hx, HV.ofValue, HV.ofScalar, pure, bind, Sem.bind, hd, hd0]
    · cases h
  · cases h

def notQ (op : UnOp) (v : HV) : Option HV :=
  match op with
  | .not => match v with
    | .bool b => some (.bool (not b))
    | _ => none
  | _ => none

theorem notQ_ok {op : UnOp} {t : TypeId} {x : Operand} (ho : o.op = .unOp op t x) {v : HV} (h : notQ op (fr.eval x) = some v) : evalOp P o fr σ = .val v σ := by
  unfold notQ at h
  split at h
  · split at h
    · rename_i b hx
      cases h
      have hmem : memOp P o fr σ = none := by simp only [memOp, ho]
      have hP : memOpP P o fr σ = none := by simp only [memOpP, ho]
      unfold evalOp
      rw [hP]
      unfold evalOp0
      rw [hmem]
      simp [pureOp, isSelect, ho, allPlain, Op.operands, HV.plain, pureEv, execOp, Op.unary, runPure, hx, HV.ofValue, HV.ofScalar, pure, bind, Sem.bind]
    · cases h
  · cases h

def isShift : BinOp → Bool
  | .shl | .shr => true
  | _ => false

def binQ (P : Program) (o : Oper) (fr : HFrame) (σ : Store) (op : BinOp) (vx vy : HV) : OpRes :=
  match vx with
  | .int k a => match vy with
    | .int k' b => match isShift op with
      | true => match shiftQ op k a b with
        | some v => .val v σ
        | none => evalOpF P o fr σ
      | false => if k = k' then match sameQ op k a b with
          | some v => .val v σ
          | none => evalOpF P o fr σ
        else evalOpF P o fr σ
    | _ => evalOpF P o fr σ
  | _ => evalOpF P o fr σ

def orPure (P : Program) (o : Oper) (fr : HFrame) (σ : Store) (r : Option OpRes) : OpRes :=
  match r with
  | some r => r
  | none => pureOp P o fr σ

def isCopy : Callee → Bool
  | .builtin .copy => true
  | _ => false

def callQ (P : Program) (o : Oper) (fr : HFrame) (σ : Store) (c : Call) : OpRes :=
  Bool.rec (orPure P o fr σ (memOpF P o fr σ)) (evalOpF P o fr σ) (isCopy c.callee)

def evalOpQ (P : Program) (o : Oper) (fr : HFrame) (σ : Store) : OpRes :=
  match o.op with
  | .binOp op _ x y _ => binQ P o fr σ op (fr.eval x) (fr.eval y)
  | .convert src dst x => if (P.underlying src).isSome then match convQ P dst (fr.eval x) with
      | some v => .val v σ
      | none => evalOpF P o fr σ
    else evalOpF P o fr σ
  | .unOp op _ x => match notQ op (fr.eval x) with
    | some v => .val v σ
    | none => evalOpF P o fr σ
  | .makeSlice .. => evalOpF P o fr σ
  | .call c => callQ P o fr σ c
  | _ => orPure P o fr σ (memOpF P o fr σ)

theorem evalOpQ_eq : evalOpQ P = evalOp P := by
  funext o fr σ
  unfold evalOpQ
  split
  · rename_i op t x y u ho
    unfold binQ
    split
    · rename_i k a hx
      split
      · rename_i k' b hy
        split
        · split
          · rename_i v h; exact (shiftQ_ok ho hx hy h).symm
          · exact evalOpF_eq
        · split
          · rename_i hk
            split
            · rename_i v h
              rw [sameQ_eq] at h
              refine (binFast_ok ?_).symm
              unfold binFast
              simp only [ho, hx, hy, if_pos hk, h]
            · exact evalOpF_eq
          · exact evalOpF_eq
      · exact evalOpF_eq
    · exact evalOpF_eq
  · rename_i src dst x ho
    split
    · rename_i hs
      split
      · rename_i v h; exact (convQ_ok ho hs h).symm
      · exact evalOpF_eq
    · exact evalOpF_eq
  · rename_i op t x ho
    split
    · rename_i v h; exact (notQ_ok ho h).symm
    · exact evalOpF_eq
  · exact evalOpF_eq
  · rename_i c ho
    unfold callQ
    cases hc : isCopy c.callee with
    | true => exact evalOpF_eq
    | false =>
      have hP : memOpP P o fr σ = none := by
        obtain ⟨callee, args, argTypes⟩ := c
        cases callee with
        | builtin b => cases b <;> first | (cases hc; done) | simp only [memOpP, ho]
        | _ => simp only [memOpP, ho]
      unfold orPure
      rw [memOpF_eq]
      unfold evalOp
      rw [hP]
      rfl
  · rename_i h1 h2 h3 h4 h5
    have hP : memOpP P o fr σ = none := by
      unfold memOpP
      split
      · rename_i ho; exact absurd ho (h4 _ _ _)
      · rename_i ho; exact absurd ho (h2 _ _ _)
      · rename_i ho; exact absurd ho (h1 _ _ _ _ _)
      · rename_i ho; exact absurd ho (h5 _)
      · rfl
    unfold orPure
    rw [memOpF_eq]
    unfold evalOp
    rw [hP]
    rfl

end
end Go.HI

/- Summaries on a small store without names, used in a great one. -/
namespace Go.HI
noncomputable section

variable {P : Program}

/-! ### Dropping blocks anywhere -/
def T.filtX {α : Type} : T α → (Nat → α → Bool) → T α
  | .e, _ => .e
  | .n l v r, p => .n (l.filtX fun k => p (2 * k + 1)) (match v with | some x => if p 0 x then some x else none | none => none) (r.filtX fun k => p (2 * k + 2))

theorem T.getC_filtX {α : Type} : ∀ (t : T α) (p : Nat → α → Bool) (i : Nat), (t.filtX p).getC i = (t.getC i).filter (p i)
  | .e, p, i => by simp [T.filtX, T.getC]
  | .n l v r, p, i => by
    cases i with
    | zero =>
      simp only [T.filtX, T.getC]
      cases v with
      | none => rfl
      | some x => simp [Option.filter]
    | succ j =>
      simp only [T.filtX, T.getC]
      split
      · rename_i h
        rw [T.getC_filtX l]
        have : 2 * (j / 2) + 1 = j + 1 := by omega
        rw [this]
      · rename_i h
        rw [T.getC_filtX r]
        have : 2 * (j / 2) + 2 = j + 1 := by omega
        rw [this]

theorem T.get_filtX {α : Type} (t : T α) (p : Nat → α → Bool) (i : Nat) : (t.filtX p).get i = (t.get i).filter (p i) := by
  rw [T.get_getC, T.getC_filtX, T.get_getC]

theorem filter_some {α : Type} {o : Option α} {p : α → Bool} {x : α} (h : o.filter p = some x) : o = some x ∧ p x = true := by
  cases o with
  | none => cases h
  | some y =>
    simp only [Option.filter] at h
    split at h
    · rename_i hp; cases h; exact ⟨rfl, hp⟩
    · cases h

/-- The store without some of its blocks. -/
def Store.drop (σ : Store) (p : Nat → HBlk → Bool) : Store := { σ with blks := σ.blks.filtX p }

theorem Store.drop_get {σ : Store} {p : Nat → HBlk → Bool} {b : Nat} {x : HBlk} (h : (σ.drop p).blks.get b = some x) : σ.blks.get b = some x ∧ p b x = true := by
  simp only [Store.drop, T.get_filtX] at h
  exact filter_some h

theorem Rel.drop {ρ : Ren} {σ : Store} {w : World} (h : Rel ρ σ w) (p : Nat → HBlk → Bool) : Rel ρ (σ.drop p) w where
  wf := {
    fresh := fun b hb => by
      cases hx : (σ.drop p).blks.get b with
      | none => rfl
      | some x => have := (Store.drop_get hx).1; rw [h.wf.fresh b hb] at this; cases this
    famFresh := h.wf.famFresh
    fam := fun b c f q v hb => h.wf.fam b c f q v (Store.drop_get hb).1
    ver := fun b b' c c' f q q' v hb hb' => h.wf.ver b b' c c' f q q' v (Store.drop_get hb).1 (Store.drop_get hb').1 }
  dom := h.dom
  blk := fun b L x hb hx => (h.blk b L x hb (Store.drop_get hx).1).keep (.refl _) (fun _ _ _ hk => hk) rfl
  inj := fun b b' L L' x x' hb hb' hx hx' hn he => h.inj b b' L L' x x' hb hb' (Store.drop_get hx).1 (Store.drop_get hx').1 hn he
  glob := h.glob

theorem HCall.drop {f : FuncId} {args : List HV} {σ : Store} {R : HEnd → Store → Prop} (p : Nat → HBlk → Bool) (h : HCall P f args (σ.drop p) R) : HCall P f args σ R :=
  fun n ρ w args' hR ha => h n ρ w args' (hR.drop p) ha

/-- All other blocks of the families of these blocks go. -/
def famOf : Option HBlk → Option Nat
  | some (.cells _ (some (f, _, _))) => some f
  | _ => none

def aloneB (σ : Store) (bs : List Nat) (b : Nat) (x : HBlk) : Bool :=
  match famOf (some x) with
  | some f => bs.all fun a => match famOf (σ.blks.get a) with
    | some g => !(Nat.beq f g) || Nat.beq a b
    | none => true
  | none => true

/-! ### A small store without names -/
def noRef : HV → Bool
  | .int .. | .bool _ | .str _ => true
  | _ => false

/-- Pairs: a small number, and the great one. -/
def iotaOf : List (Nat × Nat) → Nat → Nat
  | [], _ => 0
  | p :: l, b => if Nat.beq p.1 b then p.2 else iotaOf l b

def cellsOf? : Option HBlk → Option (List HV)
  | some (.cells c _) => some c
  | _ => none

/-- The small store: the cells of the great one's blocks. -/
def smallT (σb : Store) : List (Nat × Nat) → T HBlk
  | [] => .e
  | p :: l => match cellsOf? (σb.blks.get p.2) with
    | some c => (smallT σb l).set p.1 (.cells c none)
    | none => smallT σb l

def small (σb : Store) (l : List (Nat × Nat)) (n : Nat) (gl : List Nat) : Store := { blks := smallT σb l, next := n, fams := .e, globs := gl }

/-- What must be so of the pairs. -/
structure PairsOK (σb : Store) (l : List (Nat × Nat)) (n : Nat) (gl : List Nat) : Prop where
  lt : ∀ p ∈ l, p.1 < n ∧ p.2 < σb.next
  once : ∀ p ∈ l, ∀ q ∈ l, p.1 = q.1 ∨ p.2 = q.2 → p = q
  cells : ∀ p ∈ l, ∃ c k, σb.blks.get p.2 = some (.cells c k) ∧ c.all noRef = true ∧ σb.validK k = true
  alone : ∀ p ∈ l, ∀ c f q v, σb.blks.get p.2 = some (.cells c (some (f, q, v))) → ∀ B c' q' v', σb.blks.get B = some (.cells c' (some (f, q', v'))) → B = p.2
  glob : ∀ g, gl.contains g = true → (g, g) ∈ l ∧ σb.globs.contains g = true

theorem noRef_refs {p : Nat → Bool} : ∀ {h : HV}, noRef h = true → h.refs p = true
  | .int .., _ => by simp [HV.refs]
  | .bool _, _ => by simp [HV.refs]
  | .str _, _ => by simp [HV.refs]
  | .any, h | .pad .., h | .ptr _, h | .slice .., h | .map _, h | .func .., h | .nilFunc, h | .iface .., h | .nilIface, h | .agg _, h | .tuple _, h => by cases h
theorem noRef_refsL {p : Nat → Bool} : ∀ {h : List HV}, h.all noRef = true → HV.refsL p h = true
  | [], _ => by simp [HV.refsL]
  | x :: xs, h => by
    simp only [List.all_cons, Bool.and_eq_true] at h
    simp [HV.refsL, noRef_refs h.1, noRef_refsL h.2]
theorem noRef_ren {ι : Nat → Nat} : ∀ {h : HV}, noRef h = true → h.ren ι = h
  | .int .., _ => by simp [HV.ren]
  | .bool _, _ => by simp [HV.ren]
  | .str _, _ => by simp [HV.ren]
  | .any, h | .pad .., h | .ptr _, h | .slice .., h | .map _, h | .func .., h | .nilFunc, h | .iface .., h | .nilIface, h | .agg _, h | .tuple _, h => by cases h
theorem noRef_renL {ι : Nat → Nat} : ∀ {h : List HV}, h.all noRef = true → HV.renL ι h = h
  | [], _ => by simp [HV.renL]
  | x :: xs, h => by
    simp only [List.all_cons, Bool.and_eq_true] at h
    simp [HV.renL, noRef_ren h.1, noRef_renL h.2]

section
variable {σb : Store} {l : List (Nat × Nat)} {n : Nat} {gl : List Nat}

theorem smallT_get : ∀ {l : List (Nat × Nat)} {a : Nat} {x : HBlk}, (smallT σb l).get a = some x → ∃ b c, (a, b) ∈ l ∧ cellsOf? (σb.blks.get b) = some c ∧ x = .cells c none
  | [], _, _, h => by simp [smallT] at h
  | p :: l, a, x, h => by
    simp only [smallT] at h
    split at h
    · rename_i c hc
      rw [T.get_set] at h
      split at h
      · rename_i e
        cases h
        exact ⟨p.2, c, by subst e; exact List.mem_cons_self .., hc, rfl⟩
      · obtain ⟨b, c', h1, h2, h3⟩ := smallT_get h
        exact ⟨b, c', List.mem_cons_of_mem _ h1, h2, h3⟩
    · obtain ⟨b, c', h1, h2, h3⟩ := smallT_get h
      exact ⟨b, c', List.mem_cons_of_mem _ h1, h2, h3⟩

theorem iotaOf_mem (h1 : ∀ p ∈ l, ∀ q ∈ l, p.1 = q.1 → p = q) {a b : Nat} (h : (a, b) ∈ l) : iotaOf l a = b := by
  induction l with
  | nil => cases h
  | cons p l ih =>
    simp only [iotaOf]
    split
    · rename_i e
      have e : p.1 = a := Nat.eq_of_beq_eq_true e
      have := h1 p (List.mem_cons_self ..) (a, b) h e
      rw [this]
    · rename_i e
      rcases List.mem_cons.1 h with rfl | h
      · exact absurd (Nat.beq_refl _) e
      · exact ih (fun p hp q hq => h1 p (List.mem_cons_of_mem _ hp) q (List.mem_cons_of_mem _ hq)) h

theorem cellsOf_some {o : Option HBlk} {c : List HV} (h : cellsOf? o = some c) : ∃ k, o = some (.cells c k) := by
  unfold cellsOf? at h
  split at h
  · cases h; exact ⟨_, rfl⟩
  · cases h

theorem small_inside (h : PairsOK σb l n gl) : Inside (iotaOf l) (small σb l n gl) σb := by
  have h1 : ∀ p ∈ l, ∀ q ∈ l, p.1 = q.1 → p = q := fun p hp q hq e => h.once p hp q hq (.inl e)
  have hlive : ∀ a, live (small σb l n gl) a → ∃ b, (a, b) ∈ l := by
    intro a ha
    rcases ha with ha | ha
    · obtain ⟨x, hx⟩ := present_iff.1 ha
      obtain ⟨b, c, hm, _⟩ := smallT_get hx
      exact ⟨b, hm⟩
    · simp [small] at ha
  refine ⟨⟨?_, ?_, ?_, ?_⟩, ?_, ?_, ?_, ?_, ?_, ?_⟩
  · intro b hb
    cases hx : (small σb l n gl).blks.get b with
    | none => rfl
    | some x =>
      obtain ⟨b', c, hm, _⟩ := smallT_get hx
      have := (h.lt _ hm).1
      simp only [small] at hb
      omega
  · intro f _; simp [small]
  · intro b c f p v hb
    obtain ⟨_, _, _, _, hx⟩ := smallT_get hb
    cases hx
  · intro b b' c c' f p p' v hb
    obtain ⟨_, _, _, _, hx⟩ := smallT_get hb
    cases hx
  · intro a a' ha ha' e
    obtain ⟨b, hb⟩ := hlive a ha
    obtain ⟨b', hb'⟩ := hlive a' ha'
    rw [iotaOf_mem h1 hb, iotaOf_mem h1 hb'] at e
    have := h.once _ hb _ hb' (.inr e)
    cases this
    rfl
  · intro a ha
    obtain ⟨b, hb⟩ := hlive a ha
    rw [iotaOf_mem h1 hb]
    exact (h.lt _ hb).2
  · intro a x hx
    obtain ⟨b, c, hm, hc, rfl⟩ := smallT_get hx
    obtain ⟨c', k, hg, hn, hv⟩ := h.cells _ hm
    obtain ⟨k', hk'⟩ := cellsOf_some hc
    simp only at hg
    rw [hg] at hk'
    cases hk'
    refine ⟨by simp [HBlk.flat, noRef_refsL hn], ?_⟩
    unfold InBlk
    rw [iotaOf_mem h1 hm]
    cases k with
    | none => left; simp only [HBlk.ren, renK, noRef_renL hn]; exact hg
    | some k =>
      obtain ⟨f, p, v⟩ := k
      exact .inr ⟨_, f, p, v, rfl, by rw [noRef_renL hn]; exact hg, hv, h.alone _ hm _ f p v hg, fun g hg => by simp [small] at hg⟩
  · intro f F hF; simp [small] at hF
  · intro B c f p v _ _ hf; simp [small] at hf
  · intro g hg
    obtain ⟨h2, h3⟩ := h.glob g hg
    refine ⟨iotaOf_mem h1 h2, ?_, h3⟩
    have : ∃ x, (smallT σb l).get g = some x := by
      clear h1 hlive h3 hg
      have hcells := h.cells
      revert h2 hcells
      clear h
      induction l with
      | nil => intro h; cases h
      | cons p l ih =>
        intro h2 hcells
        obtain ⟨c, k, hc, _⟩ := hcells p (List.mem_cons_self ..)
        simp only [smallT, hc, cellsOf?]
        rw [T.get_set]
        split
        · exact ⟨_, rfl⟩
        · rename_i e
          rcases List.mem_cons.1 h2 with e' | h2
          · exact absurd (by rw [← e']) e
          · exact ih h2 fun q hq => hcells q (List.mem_cons_of_mem _ hq)
    exact present_iff.2 this

end

/-! ### Answers with equations -/
abbrev OutS := Option (List (HV × HV) × HEnd × Store)

noncomputable section
def AS : Ans OutS where
  fail := none
  both := fun _ _ => none
  same := fun v v' a => match a with
    | some r => some ((v, v') :: r.1, r.2)
    | none => none

def okS (R : HEnd → Store → Prop) (a : OutS) : Prop := ∃ ps e σ, a = some (ps, e, σ) ∧ (∀ p ∈ ps, p.1 = p.2) ∧ R e σ

theorem AS_good (R : HEnd → Store → Prop) : AS.Good (okS R) where
  fail := fun ⟨_, _, _, h, _⟩ => by cases h
  both := fun a b ⟨_, _, _, h, _⟩ => by cases h
  same := fun v v' a ⟨ps, e, σ, h, hp, hR⟩ => by
    cases a with
    | none => cases h
    | some r =>
      simp only [AS, Option.some.injEq, Prod.mk.injEq] at h
      obtain ⟨rfl, h2⟩ := h
      refine ⟨hp (v, v') (List.mem_cons_self ..), r.1, e, σ, ?_, fun p hp' => hp p (List.mem_cons_of_mem _ hp'), hR⟩
      rw [← h2]

def runS (V : OpEv) (P : Program) (B : FuncId → Bool) (S : Sums) (n : Nat) (f : FuncId) (args : List HV) (σ : Store) : OutS :=
  erBody AS P (er AS V P B S n) f args σ fun e σ => some ([], e, σ)

def eqsOf : OutS → List (HV × HV)
  | some r => r.1
  | none => []

/-- What is left of the blocks below a number. -/
def viewOf (n : Nat) : OutS → Option (HEnd × List (Option HBlk) × List (Option Fam) × List Nat × Bool)
  | some r => some (r.2.1, (List.range n).map r.2.2.blks.get, (List.range n).map r.2.2.fams.get, r.2.2.globs, Nat.ble n r.2.2.next)
  | none => none

def dupL (l : List (HV × HV)) : List (HV × HV) := l.map fun p => (p.1, p.1)

theorem dupL_eq {l : List (HV × HV)} (h : l = dupL l) : ∀ p ∈ l, p.1 = p.2 := by
  induction l with
  | nil => intro p hp; cases hp
  | cons q l ih =>
    simp only [dupL, List.map_cons, List.cons.injEq] at h
    intro p hp
    rcases List.mem_cons.1 hp with rfl | hp
    · have := congrArg Prod.snd h.1
      exact this.symm
    · exact ih h.2 p hp

structure Ended (n : Nat) (bl : List (Option HBlk)) (gl : List Nat) (σ' : Store) : Prop where
  next : σ'.next = n
  blks : ∀ b, σ'.blks.get b = (bl[b]?).getD none
  fams : ∀ f, σ'.fams.get f = none
  globs : σ'.globs = gl

theorem contract_of_view {V : OpEv} (hV : V = evalOp P) (hm : P.follows .mixedOrders = true) {B : FuncId → Bool} {S : Sums} (hB : ∀ f, B f = true → hasBody P f = true) (hS : SumsOK P S)
    {k n : Nat} {f : FuncId} {args : List HV} {σ : Store} {e : HEnd} {bl : List (Option HBlk)} {fl : List (Option Fam)} {gl : List Nat}
    (hs : eqsOf (runS V P B S k f args σ) = dupL (eqsOf (runS V P B S k f args σ))) (hv : viewOf n (runS V P B S k f args σ) = some (e, bl, fl, gl, true))
    (hn : σ.next ≤ n) (he : e.refs (below n) = true) (hbl : ∀ x, some x ∈ bl → x.flat (below n) (below n) = true) (hfl : ∀ x ∈ fl, x = none) (hgl : ∀ g ∈ gl, g < n) :
    HCall P f args σ (fun e' σ' => e' = e ∧ Ended n bl gl σ') := by
  cases hr : runS V P B S k f args σ with
  | none => rw [hr] at hv; cases hv
  | some r =>
    obtain ⟨ps, e', σ'⟩ := r
    rw [hr] at hs hv
    simp only [viewOf, Option.some.injEq, Prod.mk.injEq] at hv
    obtain ⟨rfl, h2, h3, h4, h5⟩ := hv
    have hc : HCall P f args σ (fun e2 σ2 => e2 = e' ∧ σ2 = σ') := by
      refine erBody_ok (AS_good _) (er_ok (AS_good (fun e2 σ2 => e2 = e' ∧ σ2 = σ')) hV hm hB hS k k (Nat.le_refl _)).1 (k := fun e σ => some ([], e, σ)) ?_ |>.mono ?_
      · unfold runS at hr
        rw [hr]
        exact ⟨ps, e', σ', rfl, dupL_eq hs, rfl, rfl⟩
      · rintro e2 σ2 ⟨ps2, e3, σ3, h6, _, h7⟩
        cases h6
        exact h7
    have hget : ∀ b, b < n → σ'.blks.get b = (bl[b]?).getD none := fun b hb => by rw [← h2]; simp [hb]
    have hlen : bl.length = n := by rw [← h2]; simp
    refine hc.gc fun e2 σ2 ⟨he2, hσ2⟩ => .inr ⟨n, hn, ⟨?_, ?_, ?_⟩, ?_, he2, ?_⟩
    · subst hσ2; simpa [Nat.ble_eq] using h5
    · subst hσ2
      intro b x hb hx
      rw [hget b hb] at hx
      refine hbl x ?_
      cases hq : bl[b]? with
      | none => rw [hq] at hx; cases hx
      | some y => rw [hq] at hx; simp only [Option.getD_some] at hx; subst hx; exact List.mem_of_getElem? hq
    · subst hσ2
      intro g hg
      rw [h4] at hg
      exact hgl g (by simpa using hg)
    · subst he2; exact he
    · subst hσ2
      refine ⟨rfl, fun b => ?_, fun f => ?_, h4⟩
      · simp only [Store.gc, T.get_filt]
        split
        · rename_i hb
          exact hget b (by simpa [Nat.blt_eq] using hb)
        · rename_i hb
          have : n ≤ b := by
            rcases Nat.lt_or_ge b n with h | h
            · exact absurd (by simpa [Nat.blt_eq] using h) hb
            · exact h
          rw [List.getElem?_eq_none (by omega)]
          rfl
      · simp only [Store.gc, T.get_filt]
        split
        · rename_i hb
          have hb : f < n := by simpa [Nat.blt_eq] using hb
          refine hfl _ ?_
          rw [← h3]
          exact List.mem_map.2 ⟨f, List.mem_range.2 hb, rfl⟩
        · rfl

/-- The great store after: the small one's blocks with these cells. -/
def endStore (n : Nat) (bl : List (Option HBlk)) : Store := { blks := (bl.zipIdx).foldr (fun (p : Option HBlk × Nat) (t : T HBlk) => match p.1 with | some x => t.set p.2 x | none => t) .e, next := n, fams := .e, globs := [] }

theorem setAll_congr {α : Type} {g g' : Nat → Option α} {ι : Nat → Nat} (h : ∀ b, g b = g' b) : ∀ (l : List Nat) (t : T α), setAll g ι l t = setAll g' ι l t
  | [], _ => rfl
  | b :: l, t => by rw [setAll, setAll, h b, setAll_congr h l]

theorem endStore_get_aux : ∀ (bl : List (Option HBlk)) (k b : Nat), ((bl.zipIdx k).foldr (fun (p : Option HBlk × Nat) (t : T HBlk) => match p.1 with | some x => t.set p.2 x | none => t) .e).get b = if k ≤ b then (bl[b - k]?).getD none else none
  | [], k, b => by simp
  | x :: bl, k, b => by
    rw [List.zipIdx_cons, List.foldr_cons]
    have ih := endStore_get_aux bl (k + 1) b
    have key : (if k + 1 ≤ b then (bl[b - (k + 1)]?).getD none else none) = (if k = b then (none : Option HBlk) else if k ≤ b then ((x :: bl)[b - k]?).getD none else none) ∨ k = b := by
      by_cases e : k = b
      · exact .inr e
      · left
        rw [if_neg e]
        by_cases h : k ≤ b
        · rw [if_pos h, if_pos (by omega)]
          obtain ⟨m, hm⟩ : ∃ m, b - k = m + 1 := ⟨b - k - 1, by omega⟩
          have : b - (k + 1) = m := by omega
          rw [hm, this]
          rfl
        · rw [if_neg h, if_neg (by omega)]
    cases x with
    | none =>
      simp only
      rw [ih]
      rcases key with key | e
      · rw [key]
        split
        · rename_i e; subst e; simp
        · rfl
      · subst e
        rw [if_neg (by omega), if_pos (Nat.le_refl _)]
        simp
    | some x =>
      simp only
      rw [T.get_set, ih]
      split
      · rename_i e; subst e; simp
      · rename_i e
        rcases key with key | e'
        · rw [key, if_neg (fun h => e h.symm)]
        · exact absurd e'.symm e

theorem Ended.merge {n n0 : Nat} {bl : List (Option HBlk)} {gl : List Nat} {σ' σb : Store} {ι : Nat → Nat} (h : Ended n bl gl σ') : σb.merge σ' ι n0 = σb.merge (endStore n bl) ι n0 := by
  unfold Store.merge
  rw [h.next]
  simp only [Store.mk.injEq, and_true, true_and]
  refine ⟨setAll_congr (fun b => ?_) _ _, rfl, setAll_congr (fun b => ?_) _ _⟩
  · rw [h.blks b]
    simp only [endStore]
    have := endStore_get_aux bl 0 b
    simp only [Nat.zero_le, if_true, Nat.sub_zero] at this
    rw [this]
  · rw [h.fams b]; simp [endStore]

end
end
end Go.HI
