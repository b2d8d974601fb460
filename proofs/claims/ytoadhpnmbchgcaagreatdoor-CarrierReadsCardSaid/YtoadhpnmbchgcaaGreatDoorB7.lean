/- Alternatives that come to the same: a summary. -/
import Derived.Test.YtoadhpnmbchgcaaGreatDoorB6
namespace Go.HI
noncomputable section

variable {P : Program}

/-! ### How far values reach -/
mutual
def HV.top : HV → Nat
  | .ptr (some (b, _)) => b + 1
  | .slice (some (b, _)) _ _ => b + 1
  | .map (some r) => r + 1
  | .func fn first cap => max (match fn with | .yield l => l + 1 | _ => 0) (max (HV.topL first) (HV.topL cap))
  | .iface _ x => HV.top x
  | .agg cs => HV.topL cs
  | .tuple cs => HV.topL cs
  | _ => 0
def HV.topL : List HV → Nat
  | [] => 0
  | x :: xs => max (HV.top x) (HV.topL xs)
end

def HBlk.top : HBlk → Nat
  | .cells c k => max (HV.topL c) (match k with | some (f, _, _) => f + 1 | none => 0)
  | .map es _ => es.foldr (fun e n => max (max e.key.top e.val.top) n) 0
  | .omap es => es.foldr (fun e n => max (max e.1.top e.2.top) n) 0
  | _ => 0

def HEnd.top : HEnd → Nat
  | .returned v => v.top
  | .panicked v => v.top

def reachTop (σ : Store) : Nat → Nat → Nat
  | 0, M => M
  | n + 1, M =>
    let M' := (List.range M).foldr (fun b n => match σ.blks.get b with | some x => max x.top n | none => n) M
    if Nat.beq M' M then M else reachTop σ n M'

/-! ### Equal stores -/
def entB (a b : HEntry) : Bool := a.key.beq b.key && a.val.beq b.val && Nat.beq a.born b.born
def entsB : List HEntry → List HEntry → Bool
  | [], [] => true
  | a :: as', b :: bs => entB a b && entsB as' bs
  | _, _ => false
def pairsB : List (HV × HV) → List (HV × HV) → Bool
  | [], [] => true
  | a :: as', b :: bs => a.1.beq b.1 && a.2.beq b.2 && pairsB as' bs
  | _, _ => false

def HBlk.beq : HBlk → HBlk → Bool
  | .cells c k, .cells c' k' => HV.beqs c c' && k == k'
  | .map es n, .map es' n' => entsB es es' && Nat.beq n n'
  | .omap es, .omap es' => pairsB es es'
  | .pad p n, .pad p' n' => p == p' && Nat.beq n n'
  | _, _ => false

theorem entsB_eq : ∀ {a b : List HEntry}, entsB a b = true → a = b
  | [], [], _ => rfl
  | [], _ :: _, h => by cases h
  | _ :: _, [], h => by cases h
  | ⟨k, v, n⟩ :: as', ⟨k', v', n'⟩ :: bs, h => by
    simp only [entsB, entB, Bool.and_eq_true] at h
    rw [HV.beq_eq _ _ h.1.1.1, HV.beq_eq _ _ h.1.1.2, Nat.eq_of_beq_eq_true h.1.2, entsB_eq h.2]
theorem pairsB_eq : ∀ {a b : List (HV × HV)}, pairsB a b = true → a = b
  | [], [], _ => rfl
  | [], _ :: _, h => by cases h
  | _ :: _, [], h => by cases h
  | (k, v) :: as', (k', v') :: bs, h => by
    simp only [pairsB, Bool.and_eq_true] at h
    rw [HV.beq_eq _ _ h.1.1, HV.beq_eq _ _ h.1.2, pairsB_eq h.2]

theorem HBlk.beq_eq {x y : HBlk} (h : x.beq y = true) : x = y := by
  unfold HBlk.beq at h
  split at h
  · simp only [Bool.and_eq_true, beq_iff_eq] at h
    rw [HV.beqs_eq _ _ h.1, h.2]
  · simp only [Bool.and_eq_true] at h
    rw [entsB_eq h.1, Nat.eq_of_beq_eq_true h.2]
  · rw [pairsB_eq h]
  · simp only [Bool.and_eq_true, beq_iff_eq] at h
    rw [h.1, Nat.eq_of_beq_eq_true h.2]
  · cases h

def oblkB : Option HBlk → Option HBlk → Bool
  | none, none => true
  | some x, some y => x.beq y
  | _, _ => false
def ofamB : Option Fam → Option Fam → Bool
  | none, none => true
  | some x, some y => Nat.beq x.floor y.floor && Nat.beq x.last y.last && Nat.beq x.top y.top
  | _, _ => false
theorem oblkB_eq {a b : Option HBlk} (h : oblkB a b = true) : a = b := by
  cases a <;> cases b <;> first | rfl | (cases h; done) | (rw [HBlk.beq_eq h])
theorem ofamB_eq {a b : Option Fam} (h : ofamB a b = true) : a = b := by
  cases a with
  | none => cases b with
    | none => rfl
    | some _ => cases h
  | some x => cases b with
    | none => cases h
    | some y =>
      obtain ⟨a1, a2, a3⟩ := x
      obtain ⟨b1, b2, b3⟩ := y
      simp only [ofamB, Bool.and_eq_true] at h
      rw [Nat.eq_of_beq_eq_true h.1.1, Nat.eq_of_beq_eq_true h.1.2, Nat.eq_of_beq_eq_true h.2]

/-- Below a number the stores are equal. -/
def sameB (M : Nat) (σ τ : Store) : Bool := (List.range M).all (fun b => oblkB (σ.blks.get b) (τ.blks.get b) && ofamB (σ.fams.get b) (τ.fams.get b)) && σ.globs == τ.globs

def endB : HEnd → HEnd → Bool
  | .returned v, .returned v' => v.beq v'
  | .panicked v, .panicked v' => v.beq v'
  | _, _ => false
theorem endB_eq {x y : HEnd} (h : endB x y = true) : x = y := by
  cases x <;> cases y <;> first | (cases h; done) | (rw [HV.beq_eq _ _ h])

theorem gc_get {σ : Store} {M b : Nat} : (σ.gc M).blks.get b = if b < M then σ.blks.get b else none := by simp only [Store.gc, T.get_filt, blt_iff]
theorem gc_fam {σ : Store} {M b : Nat} : (σ.gc M).fams.get b = if b < M then σ.fams.get b else none := by simp only [Store.gc, T.get_filt, blt_iff]

theorem Rel.congr' {ρ : Ren} {w : World} {σ σ' : Store} (h : Rel ρ σ w) (hb : ∀ b, σ'.blks.get b = σ.blks.get b) (hn : σ'.next = σ.next) (hf : ∀ f, σ'.fams.get f = σ.fams.get f) (hg : σ'.globs = σ.globs) : Rel ρ σ' w where
  wf := {
    fresh := fun b hlt => by rw [hb]; exact h.wf.fresh b (hn ▸ hlt)
    famFresh := fun f hlt => by rw [hf]; exact h.wf.famFresh f (hn ▸ hlt)
    fam := fun b c f p v hc => by rw [hb] at hc; rw [hf]; exact h.wf.fam b c f p v hc
    ver := fun b b' c c' f p p' v hc hc' => by rw [hb] at hc hc'; exact h.wf.ver b b' c c' f p p' v hc hc' }
  dom := fun b L hL => by rw [hn]; exact h.dom b L hL
  blk := fun b L x hL hx => by rw [hb] at hx; exact (h.blk b L x hL hx).keep (.refl _) (fun c k _ hk => by cases k with | none => rfl | some k => obtain ⟨f, p, v⟩ := k; simp only [Store.validK, hf] at hk ⊢; exact hk) rfl
  inj := fun b b' L L' x x' hL hL' hx hx' hne he => by rw [hb] at hx hx'; exact h.inj b b' L L' x x' hL hL' hx hx' hne he
  glob := fun g hgl => h.glob g (hg ▸ hgl)

theorem same_rel {M : Nat} {σ τ : Store} (h : sameB M σ τ = true) {ρ : Ren} {w : World} (hR : Rel ρ (σ.gc M) w) : Rel ρ (τ.gc M) w := by
  simp only [sameB, Bool.and_eq_true, List.all_eq_true, List.mem_range, beq_iff_eq] at h
  refine hR.congr' (fun b => ?_) rfl (fun b => ?_) h.2.symm
  · rw [gc_get, gc_get]
    split
    · rename_i hb; exact (oblkB_eq (h.1 b hb).1).symm
    · rfl
  · rw [gc_fam, gc_fam]
    split
    · rename_i hb; exact (ofamB_eq (h.1 b hb).2).symm
    · rfl

def HEnd.refsB (M : Nat) (e : HEnd) : Bool := e.refs (below M)

/-- All outcomes are this one, once what nobody names is dropped. -/
def allSame (N M : Nat) (e : HEnd) (τ : Store) (l : List (HEnd × Store)) : Bool := l.all fun p => endB p.1 e && gcB M p.2 && sameB M p.2 τ && Nat.ble N M && HEnd.refsB M e

def mergeOuts (N : Nat) : Outs → CallOut
  | some (p :: l) =>
    let M := reachTop p.2 8 (max N p.1.top)
    if allSame N M p.1 p.2 (p :: l) then some (p.1, p.2.gc M) else none
  | _ => none

theorem HCall.merged {f : FuncId} {args : List HV} {σ : Store} {l : Outs} {e : HEnd} {σ' : Store} (h : ∀ R : HEnd → Store → Prop, (∀ p ∈ l.getD [], R p.1 p.2) → HCall P f args σ R) (hm : mergeOuts σ.next l = some (e, σ')) : HCall P f args σ (fun e' σ'' => e' = e ∧ σ'' = σ') := by
  unfold mergeOuts at hm
  split at hm
  · rename_i p l
    simp only at hm
    obtain ⟨M, hM⟩ : ∃ x, x = reachTop p.2 8 (max σ.next p.1.top) := ⟨_, rfl⟩
    rw [← hM] at hm
    split at hm
    · rename_i hall
      cases hm
      simp only [allSame, List.all_eq_true] at hall
      have hc := h (fun e σ => (e, σ) ∈ p :: l) (fun q hq => hq)
      intro n ρ w args' hR ha
      refine (hc n ρ w args' hR ha).mono ?_
      rintro en w' ⟨x, σ1, ρ', h1, h2, h3, h4⟩
      have hx := hall _ h2
      simp only [Bool.and_eq_true, Nat.ble_eq] at hx
      obtain ⟨⟨⟨⟨e1, e2⟩, e3⟩, e4⟩, e5⟩ := hx
      have e1 := endB_eq e1
      have hg := gcB_ok e2
      refine ⟨x, p.2.gc M, _, ?_, ⟨e1, rfl⟩, same_rel e3 (h3.gc hg), h4.gc e4 fun b L hb => (hR.dom b L hb).1⟩
      have := HEnd.of_ren (ι := id) (p := below M) (ρ₂ := fun b => if b < M then ρ' b else none) (fun b L hb hL => by simp only [id]; rw [if_pos (below_iff.1 hb)]; exact hL) (by rw [e1]; exact e5) h1
      rwa [HEnd.ren_id] at this
    · cases hm
  · cases hm

/-- What is neither an iterator nor a loop. -/
def plainBlk (_ : Nat) : HBlk → Bool
  | .iter .. | .loop .. => false
  | _ => true

def sumMerge (V : OpEv) (P : Program) (B D : FuncId → Bool) (S : Sums) (n : Nat) (f : FuncId) (args : List HV) (σ : Store) : CallOut :=
  mergeOuts σ.next (callDL V P B D S n f args (σ.drop plainBlk))

theorem sumMerge_ok {V : OpEv} (hV : V = evalOp P) (hm : P.follows .mixedOrders = true) {B D : FuncId → Bool} {S : Sums} (hB : ∀ f, B f = true → hasBody P f = true) (hS : SumsOK P S) {n : Nat} {f : FuncId} {args : List HV} {σ : Store} {e : HEnd} {σ' : Store}
    (h : sumMerge V P B D S n f args σ = some (e, σ')) {R : HEnd → Store → Prop} (hR : R e σ') : HCall P f args σ R := by
  unfold sumMerge at h
  refine (HCall.drop plainBlk (HCall.merged (σ := σ.drop plainBlk) (l := callDL V P B D S n f args (σ.drop plainBlk)) (fun R hR => ?_) h)).mono fun e' σ'' ⟨h1, h2⟩ => by rw [h1, h2]; exact hR
  cases hl : callDL V P B D S n f args (σ.drop plainBlk) with
  | none => rw [hl] at h; cases h
  | some l => exact callDL_ok hV hm hB hS hl (by rw [hl] at hR; exact hR)

end
end Go.HI

/- Regions that draw: by an invariant. -/
namespace Go.HI
noncomputable section

variable {P : Program} {Q : HExit → HFrame → Store → Prop}

theorem wpAny_inv {ops : Array Oper} (J : Array Bool → HFrame → Store → Prop)
    (step : ∀ listed fr σ i o, J listed fr σ → i ∈ Region.ready .any ops listed → ops[i]? = some o → wantedH ops o fr = some true ∧ isDefer o.op = false ∧
      HStep P (fun v σ' => J (listed.setIfInBounds i true) (fr.put o.dst v) σ') (fun _ _ => False) σ (evalOp P o fr σ))
    (hend : ∀ listed fr σ, J listed fr σ → Region.ready .any ops listed = [] → Q .normal fr σ) {N₀ : Nat} {rc : Option Nat} {n : Nat} {ρ₀ : Ren} {w₀ : World} {ds : List Deferred} :
    ∀ (fuel : Nat) (listed : Array Bool) (fr : HFrame) (σ : Store) (ρ : Ren) (a : Act) (w : World), listed.size = ops.size → unlisted ops listed ≤ fuel → J listed fr σ → Rel ρ σ w → SlotsRel ρ fr a.tmps → Link N₀ σ.next ρ₀ ρ w₀ w ds a.defers →
    wpAnyIn (FW rc) n P .any ops (HPost N₀ ρ₀ w₀ ds Q) fuel listed a w := by
  intro fuel
  induction fuel with
  | zero =>
    intro listed fr σ ρ a w hsz hfuel hJ hR hS hl
    have hnil : Region.ready .any ops listed = [] := by
      cases hr : Region.ready .any ops listed with
      | nil => rfl
      | cons i l =>
        have hm : i ∈ Region.ready .any ops listed := by rw [hr]; exact List.mem_cons_self ..
        obtain ⟨hun, o, ho, _⟩ := mem_ready.1 hm
        have hi : i < ops.size := (Array.getElem?_eq_some_iff.1 ho).1
        have : i ∈ (List.range ops.size).filter fun i => !listed.getD i true := List.mem_filter.2 ⟨List.mem_range.2 hi, by rw [hun]; rfl⟩
        unfold unlisted at hfuel
        rw [List.eq_nil_of_length_eq_zero (Nat.le_zero.1 hfuel)] at this
        cases this
    exact ⟨hnil, .normal, fr, σ, ρ, rfl, hend listed fr σ hJ hnil, hR, hS, hl⟩
  | succ fuel ih =>
    intro listed fr σ ρ a w hsz hfuel hJ hR hS hl
    refine ⟨fun hnil => ⟨.normal, fr, σ, ρ, rfl, hend listed fr σ hJ hnil, hR, hS, hl⟩, fun i hm => ?_⟩
    obtain ⟨hun, o, ho, hdep⟩ := mem_ready.1 hm
    have hi : i < ops.size := (Array.getElem?_eq_some_iff.1 ho).1
    have hisz : i < listed.size := by omega
    have hfuel' : unlisted ops (listed.setIfInBounds i true) ≤ fuel := by
      have : unlisted ops (listed.setIfInBounds i true) < unlisted ops listed := by
        refine filter_lt _ ?_ ⟨i, List.mem_range.2 hi, by rw [hun]; rfl, by simp [Array.getD_eq_getD_getElem?, hisz]⟩
        intro j _ hj
        by_cases e : j = i
        · subst e; rw [hun]; rfl
        · simpa only [Array.getD_eq_getD_getElem?, Array.getElem?_setIfInBounds_ne (Ne.symm e)] using hj
      omega
    obtain ⟨hw, hd, hs⟩ := step listed fr σ i o hJ hm ho
    unfold wpOpIn
    rw [ho]
    simp only
    rw [wantedH_ok hS hw]
    simp only [if_true]
    have hdef : ∀ (v : Value), (a.put o.dst v).defers = a.defers := fun v => by cases o.dst <;> rfl
    refine HStep.wpIn hs hd hR hS ?_ ?_
    · intro v σ' ρ' v' w' hK hv hR' hF
      exact ih _ _ σ' ρ' _ w' (by simpa using hsz) hfuel' hK hR' ((hS.mono hF.sub).put o.dst hv) (by rw [hdef]; exact hl.trans (.of_fr hF))
    · intro v σ' ρ' v' w' hK
      exact hK.elim

theorem HWp.any {r : Option Nat} {id : Nat} {ops : Array Oper} {fr : HFrame} {σ : Store} (hm : P.follows .mixedOrders = true) (J : Array Bool → HFrame → Store → Prop) (h0 : J (Array.replicate ops.size false) fr σ)
    (step : ∀ listed fr σ i o, J listed fr σ → i ∈ Region.ready .any ops listed → ops[i]? = some o → wantedH ops o fr = some true ∧ isDefer o.op = false ∧
      HStep P (fun v σ' => J (listed.setIfInBounds i true) (fr.put o.dst v) σ') (fun _ _ => False) σ (evalOp P o fr σ))
    (hend : ∀ listed fr σ, J listed fr σ → Region.ready .any ops listed = [] → Q .normal fr σ) : HWp P r (.region id ops true) Q fr σ := fun n ρ w a rc hrc hR hS => by
  refine wpIn_region_any hm ?_
  have hF' : Fr σ.next σ.next ρ ρ w { w with drawn := w.drawn + 1 } := Fr.same ⟨rfl, rfl, rfl, rfl⟩
  refine wpAny_inv J step hend ops.size _ fr σ ρ a _ (by simp) ?_ h0 (hR.same rfl) hS (.of_fr hF')
  unfold unlisted
  exact Nat.le_trans (List.length_filter_le _ _) (by simp)

/-- A call's store may be told in other words. -/
theorem HCall.told {f : FuncId} {args : List HV} {σ : Store} {R R' : HEnd → Store → Prop} (h : HCall P f args σ R) (hk : ∀ e σ', R e σ' → ∃ σ'', R' e σ'' ∧ σ''.next = σ'.next ∧ ∀ ρ w, Rel ρ σ' w → Rel ρ σ'' w) : HCall P f args σ R' := by
  intro n ρ w args' hR ha
  refine (h n ρ w args' hR ha).mono ?_
  rintro e w' ⟨x, σ', ρ', h1, h2, h3, h4⟩
  obtain ⟨σ'', h5, h6, h7⟩ := hk x σ' h2
  exact ⟨x, σ'', ρ', h1, h5, h7 _ _ h3, h6 ▸ h4⟩

end
end Go.HI
