/- Deferred calls and recover: functions that defer at their beginning. -/
import Derived.Test.YtoadhpnmbchgcaaGreatDoorB1
import Derived.RecoverIn
namespace Go.HI
noncomputable section

variable {P : Program} {o : Oper}

/-! ### Code that leaves the deferred calls alone -/
def HPostN (N : Nat) (ρ : Ren) (w : World) (ds : List Deferred) (Q : HExit → HFrame → Store → Prop) (e : Exit) (a' : Act) (w' : World) : Prop :=
  ∃ x fr σ ρ', HExit.of ρ' x e ∧ Q x fr σ ∧ Rel ρ' σ w' ∧ SlotsRel ρ' fr a'.tmps ∧ Fr N σ.next ρ ρ' w w' ∧ a'.defers = ds

def HN (P : Program) (c : Code) (Q : HExit → HFrame → Store → Prop) (fr : HFrame) (σ : Store) : Prop :=
  ∀ (n : Nat) (ρ : Ren) (w : World) (a : Act), Rel ρ σ w → SlotsRel ρ fr a.tmps → c.wpIn (FW none) n P (HPostN σ.next ρ w a.defers Q) a w

section
variable {Q Q' : HExit → HFrame → Store → Prop} {fr : HFrame} {σ : Store}

theorem HPostN.from {N N₁ : Nat} {ρ ρ₁ : Ren} {w w₁ : World} {ds : List Deferred} {e : Exit} {a : Act} {w' : World} (h : HPostN N₁ ρ₁ w₁ ds Q e a w') (k : Fr N N₁ ρ ρ₁ w w₁) : HPostN N ρ w ds Q e a w' := by
  obtain ⟨x, fr, σ, ρ', h1, h2, h3, h4, h5, h6⟩ := h
  exact ⟨x, fr, σ, ρ', h1, h2, h3, h4, k.trans h5, h6⟩

theorem HN.mono {c : Code} (h : HN P c Q fr σ) (hq : ∀ x fr σ, Q x fr σ → Q' x fr σ) : HN P c Q' fr σ := fun n ρ w a hR hS =>
  wpIn_mono (h n ρ w a hR hS) fun _ _ _ ⟨x, fr, σ, ρ', h1, h2, h3, h4, h5⟩ => ⟨x, fr, σ, ρ', h1, hq _ _ _ h2, h3, h4, h5⟩

theorem HN.skip (h : Q .normal fr σ) : HN P .skip Q fr σ := fun _ ρ _ _ hR hS => wpIn_skip ⟨.normal, fr, σ, ρ, rfl, h, hR, hS, .refl _ _, rfl⟩
theorem HN.exit {id : Nat} (h : Q (.exit id) fr σ) : HN P (.exit id) Q fr σ := fun _ ρ _ _ hR hS => wpIn_exit ⟨.exit id, fr, σ, ρ, rfl, h, hR, hS, .refl _ _, rfl⟩
theorem HN.ret (h : Q .ret fr σ) : HN P .ret Q fr σ := fun _ ρ _ _ hR hS => wpIn_ret ⟨.ret, fr, σ, ρ, rfl, h, hR, hS, .refl _ _, rfl⟩

theorem HN.seq {x y : Code} (h : HN P x (HExit.then (HN P y Q) Q) fr σ) : HN P (.seq x y) Q fr σ := fun n ρ w a hR hS => by
  refine wpIn_seq (wpIn_mono (h n ρ w a hR hS) ?_)
  rintro e a1 w1 ⟨x', fr1, σ1, ρ1, hx, hq, hR1, hS1, hF, hd⟩
  cases x' with
  | normal =>
    simp only [HExit.of] at hx
    subst hx
    have := hq n ρ1 w1 a1 hR1 hS1
    rw [hd] at this
    exact wpIn_mono this fun _ _ _ hp => hp.from hF
  | exit id => simp only [HExit.of] at hx; subst hx; exact ⟨.exit id, fr1, σ1, ρ1, rfl, hq, hR1, hS1, hF, hd⟩
  | goto l => simp only [HExit.of] at hx; subst hx; exact ⟨.goto l, fr1, σ1, ρ1, rfl, hq, hR1, hS1, hF, hd⟩
  | ret => simp only [HExit.of] at hx; subst hx; exact ⟨.ret, fr1, σ1, ρ1, rfl, hq, hR1, hS1, hF, hd⟩
  | panic v => obtain ⟨v', rfl, hv⟩ := hx; exact ⟨.panic v, fr1, σ1, ρ1, ⟨v', rfl, hv⟩, hq, hR1, hS1, hF, hd⟩

theorem HN.cond {c : Operand} {x y : Code} {t : Bool} (hc : fr.eval c = .bool t) (h : HN P (if t then x else y) Q fr σ) : HN P (.cond c x y) Q fr σ := fun n ρ w a hR hS => by
  have hv := hS.eval c
  rw [hc] at hv
  simp only [VRel] at hv
  exact wpIn_cond hv (h n ρ w a hR hS)

theorem HN.block {id : Nat} {c : Code} (h : HN P c (HExit.inBlock id Q) fr σ) : HN P (.block id c) Q fr σ := fun n ρ w a hR hS => by
  refine wpIn_block (wpIn_mono (h n ρ w a hR hS) ?_)
  rintro e a1 w1 ⟨x', fr1, σ1, ρ1, hx, hq, hR1, hS1, hl⟩
  cases x' with
  | normal => simp only [HExit.of] at hx; subst hx; exact ⟨.normal, fr1, σ1, ρ1, rfl, hq, hR1, hS1, hl⟩
  | exit id' =>
    simp only [HExit.of] at hx
    subst hx
    simp only [HExit.inBlock] at hq
    simp only [Exit.inBlock]
    split
    · rename_i he
      rw [if_pos he] at hq
      exact ⟨.normal, fr1, σ1, ρ1, rfl, hq, hR1, hS1, hl⟩
    · rename_i he
      rw [if_neg he] at hq
      exact ⟨.exit id', fr1, σ1, ρ1, rfl, hq, hR1, hS1, hl⟩
  | goto l => simp only [HExit.of] at hx; subst hx; exact ⟨.goto l, fr1, σ1, ρ1, rfl, hq, hR1, hS1, hl⟩
  | ret => simp only [HExit.of] at hx; subst hx; exact ⟨.ret, fr1, σ1, ρ1, rfl, hq, hR1, hS1, hl⟩
  | panic v => obtain ⟨v', rfl, hv⟩ := hx; exact ⟨.panic v, fr1, σ1, ρ1, ⟨v', rfl, hv⟩, hq, hR1, hS1, hl⟩

theorem put_defers (a : Act) (d : Option Tmp) (v : Value) : (a.put d v).defers = a.defers := by cases d <;> rfl

theorem HOps.wpInN {ops : Array Oper} {N₀ : Nat} {n : Nat} {ρ₀ : Ren} {w₀ : World} {ds : List Deferred} : ∀ (l : List Nat) (fr : HFrame) (σ : Store) (ρ : Ren) (a : Act) (w : World), HOps P ops Q l fr σ → Rel ρ σ w → SlotsRel ρ fr a.tmps →
    Fr N₀ σ.next ρ₀ ρ w₀ w → a.defers = ds → wpOpsIn (FW none) n P ops (HPostN N₀ ρ₀ w₀ ds Q) l a w
  | [], fr, σ, ρ, a, w, h, hR, hS, hl, hd => ⟨.normal, fr, σ, ρ, rfl, h, hR, hS, hl, hd⟩
  | i :: rest, fr, σ, ρ, a, w, h, hR, hS, hl, hds => by
    simp only [HOps] at h
    simp only [wpOpsIn]
    cases ho : ops[i]? with
    | none =>
      rw [ho] at h
      exact HOps.wpInN rest fr σ ρ a w h hR hS hl hds
    | some o =>
      rw [ho] at h
      obtain ⟨hd, h⟩ := h
      simp only
      cases hw : wantedH ops o fr with
      | none => rw [hw] at h; exact h.elim
      | some b =>
        rw [wantedH_ok hS hw]
        rw [hw] at h
        cases b with
        | true =>
          simp only [if_true]
          refine HStep.wpIn h hd hR hS ?_ ?_
          · intro v σ' ρ' v' w' hK hv hR' hF
            exact HOps.wpInN rest _ σ' ρ' _ w' hK hR' ((hS.mono hF.sub).put o.dst hv) (hl.trans hF) (by rw [put_defers]; exact hds)
          · intro v σ' ρ' v' w' hK hv hR' hF
            exact ⟨.panic v, fr, σ', ρ', ⟨v', rfl, hv⟩, hK, hR', hS.mono hF.sub, hl.trans hF, hds⟩
        | false =>
          simp only [Bool.false_eq_true, if_false]
          exact ⟨fun _ _ => trivial, HOps.wpInN rest _ σ ρ _ w h hR (hS.put o.dst undef_rel) hl (by rw [put_defers]; exact hds)⟩

theorem HN.region {id : Nat} {ops : Array Oper} (h : HOps P ops Q (List.range ops.size) fr σ) : HN P (.region id ops false) Q fr σ := fun n ρ w a hR hS =>
  wpIn_region (HOps.wpInN _ fr σ ρ a w h hR hS (.refl _ _) rfl)
end

/-! ### The mode of the frame below -/
inductive HMode where
  | ret
  | pan (v : HV)
  | rcv

def HMode.of (ρ : Ren) : HMode → FrameMode → Prop
  | .ret, u => u = .returning
  | .pan v, u => ∃ v', u = .panicking [{ v := v', recovered := false }] ∧ VRel ρ v v'
  | .rcv, u => ∃ v', u = .panicking [{ v := v', recovered := true }]

theorem HMode.of_mono {ρ ρ' : Ren} (hs : ρ.sub ρ') {m : HMode} {u : FrameMode} (h : m.of ρ u) : m.of ρ' u := by
  cases m with
  | ret => exact h
  | pan v => obtain ⟨v', h1, h2⟩ := h; exact ⟨v', h1, h2.mono hs⟩
  | rcv => exact h

def HMode.settled : HMode → HMode
  | .rcv => .ret
  | m => m

theorem HMode.settle_of {ρ : Ren} {m : HMode} {u : FrameMode} (h : m.of ρ u) : m.settled.of ρ (settle u) := by
  cases m with
  | ret => cases h; rfl
  | pan v => obtain ⟨v', rfl, h2⟩ := h; exact ⟨v', rfl, h2⟩
  | rcv => obtain ⟨v', rfl⟩ := h; rfl

theorem HMode.not_run {ρ : Ren} {m : HMode} {u : FrameMode} (h : m.of ρ u) : u ≠ .run := by
  cases m with
  | ret => cases h; simp
  | pan v => obtain ⟨v', rfl, h2⟩ := h; simp
  | rcv => obtain ⟨v', rfl⟩ := h; simp

/-- A deferred call that returns. -/
def HDefer (P : Program) (f : FuncId) (args : List HV) (σ : Store) (m : HMode) (R : HMode → Store → Prop) : Prop :=
  ∀ (n : Nat) (ρ : Ren) (w : World) (args' : Array Value) (u : FrameMode), Rel ρ σ w → VsRel ρ args args'.toList → m.of ρ u →
    CallsDIn (FW none) n P f args' u w fun e u' w' => (∃ v, e = .returned v) ∧ ∃ m' σ' ρ', HMode.of ρ' m' u' ∧ R m' σ' ∧ Rel ρ' σ' w' ∧ Fr σ.next σ'.next ρ ρ' w w'

/-- Code of a deferred call. -/
def HR (P : Program) (c : Code) (Q : HMode → Store → Prop) (fr : HFrame) (σ : Store) (m : HMode) : Prop :=
  ∀ (n : Nat) (ρ : Ren) (w : World) (a : Act) (c₀ : Frame) (cs : List Frame), Rel ρ σ w → SlotsRel ρ fr a.tmps → m.of ρ c₀.mode → a.defers = [] →
    c.wpSIn (FW none) n P (fun e a' cs' w' => (e = .normal ∨ e = .ret) ∧ a'.defers = [] ∧ ∃ u' m' σ' ρ', cs' = { c₀ with mode := u' } :: cs ∧ HMode.of ρ' m' u' ∧ Q m' σ' ∧ Rel ρ' σ' w' ∧ Fr σ.next σ'.next ρ ρ' w w') a (c₀ :: cs) w

theorem HR.plain {c : Code} {Q : HMode → Store → Prop} {fr : HFrame} {σ : Store} {m : HMode} (h : HN P c (fun x _ σ' => (match x with | .normal | .ret => True | _ => False) ∧ Q m σ') fr σ) : HR P c Q fr σ m := by
  intro n ρ w a c₀ cs hR hS hm hd
  refine wpSIn_of_wpIn rfl (wpIn_mono (h n ρ w a hR hS) ?_)
  rintro e a1 w1 ⟨x, fr1, σ1, ρ1, hx, ⟨hx1, hq⟩, hR1, hS1, hF, hd1⟩
  have fin : (e = .normal ∨ e = .ret) → (e = .normal ∨ e = .ret) ∧ a1.defers = [] ∧ ∃ u' m' σ' ρ', c₀ :: cs = { c₀ with mode := u' } :: cs ∧ HMode.of ρ' m' u' ∧ Q m' σ' ∧ Rel ρ' σ' w1 ∧ Fr σ.next σ'.next ρ ρ' w w1 := fun he =>
    ⟨he, hd1.trans hd, c₀.mode, m, σ1, ρ1, rfl, HMode.of_mono hF.sub hm, hq, hR1, hF⟩
  cases x with
  | normal => exact fin (.inl hx)
  | ret => exact fin (.inr hx)
  | exit => exact hx1.elim
  | goto => exact hx1.elim
  | panic => exact hx1.elim

theorem HDefer.of_body {f : FuncId} {fn : Func} {c : Code} {args : List HV} {σ : Store} {m : HMode} {R : HMode → Store → Prop} (hf : P.funcs[f]? = some fn) (hb : fn.body = some c) (hres : fn.results = #[]) (hn : args.length ≤ fn.ntmps)
    (h : HR P c R (enterH fn.ntmps σ.globs args) σ m) : HDefer P f args σ m R := by
  intro n ρ w args' u hR ha hm
  refine callsDIn_of_wpSIn hf hb trivial fun c₀ cs hu => ?_
  have hw := h n ρ w { tmps := args' ++ Array.replicate (fn.ntmps - args'.size) undef, defers := [] } c₀ cs hR (enterH_rel hR ha hn) (hu ▸ hm) rfl
  intro b k h1 h2 h3 h4
  obtain ⟨e, a', cs', w', hl, ⟨he, hd, u', m', σ', ρ', hcs, hmo, hq, hR', hF⟩, harr⟩ := hw b k h1 h2 h3 h4
  refine ⟨e, a', cs', w', hl, ?_, harr⟩
  have hr : (results fn a'.tmps).run P w' = .ok (.tuple #[]) w' := by
    unfold results
    rw [hres, Array.mapM_eq_mapM_toList]
    simp
  rcases he with rfl | rfl
  · exact ⟨hd, u', hcs, _, hr, ⟨_, rfl⟩, m', σ', ρ', hmo, hq, hR', hF⟩
  · exact ⟨hd, u', hcs, _, hr, ⟨_, rfl⟩, m', σ', ρ', hmo, hq, hR', hF⟩

/-! ### A region that recovers -/
def isRecover : Op → Bool
  | .call { callee := .builtin .recover, args, .. } => args.isEmpty
  | _ => false

def recVal : HMode → HV
  | .pan v => v
  | _ => .nilIface
def recMode : HMode → HMode
  | .pan _ => .rcv
  | m => m

/-- The operations of such a region: recover, and others that give a value. -/
def HOpsR (P : Program) (ops : Array Oper) (K : HFrame → Store → HMode → Prop) : List Nat → HFrame → Store → HMode → Prop
  | [], fr, σ, m => K fr σ m
  | i :: rest, fr, σ, m => match ops[i]? with
    | none => False
    | some o => match wantedH ops o fr with
      | none => False
      | some false => HOpsR P ops K rest (fr.put o.dst (.tuple [])) σ m
      | some true => if isRecover o.op then HOpsR P ops K rest (fr.put o.dst (recVal m)) σ (recMode m)
        else isDefer o.op = false ∧ (match evalOp P o fr σ with | .val v σ' => HOpsR P ops K rest (fr.put o.dst v) σ' m | _ => False)

theorem recover_run {o : Oper} (h : isRecover o.op = true) (ρv : Operand → Value) (w : World) : (execOp ρv o).run P w = .ok .recover w := by
  unfold isRecover at h
  split at h
  · rename_i args argTypes ho
    simp only [Array.isEmpty_iff] at h
    subst h
    simp [execOp, ho]
    rfl
  · cases h

theorem HOpsR.wpS {ops : Array Oper} {n N₀ : Nat} {ρ₀ : Ren} {w₀ : World} {c₀ : Frame} {cs : List Frame} {Q : Exit → Act → List Frame → World → Prop} {K : HFrame → Store → HMode → Prop}
    (hK : ∀ fr σ m ρ a w u, K fr σ m → Rel ρ σ w → SlotsRel ρ fr a.tmps → m.of ρ u → a.defers = [] → Fr N₀ σ.next ρ₀ ρ w₀ w → Q .normal a ({ c₀ with mode := u } :: cs) w) :
    ∀ (l : List Nat) (fr : HFrame) (σ : Store) (m : HMode) (ρ : Ren) (a : Act) (w : World) (u : FrameMode), HOpsR P ops K l fr σ m → Rel ρ σ w → SlotsRel ρ fr a.tmps → m.of ρ u → a.defers = [] → Fr N₀ σ.next ρ₀ ρ w₀ w →
    wpOpsSIn (FW none) n P ops Q l a ({ c₀ with mode := u } :: cs) w
  | [], fr, σ, m, ρ, a, w, u, h, hR, hS, hm, hd, hF => hK fr σ m ρ a w u h hR hS hm hd hF
  | i :: rest, fr, σ, m, ρ, a, w, u, h, hR, hS, hm, hd, hF => by
    simp only [HOpsR] at h
    simp only [wpOpsSIn]
    cases ho : ops[i]? with
    | none => rw [ho] at h; exact h.elim
    | some o =>
      rw [ho] at h
      simp only at h ⊢
      refine ⟨fun _ _ => trivial, ?_⟩
      cases hw : wantedH ops o fr with
      | none => rw [hw] at h; exact h.elim
      | some b =>
        rw [wantedH_ok hS hw]
        rw [hw] at h
        cases b with
        | false =>
          simp only [Bool.false_eq_true, if_false]
          exact HOpsR.wpS hK rest _ σ m ρ _ w u h hR (hS.put o.dst undef_rel) hm (by rw [put_defers]; exact hd) hF
        | true =>
          simp only [if_true] at h ⊢
          by_cases hr : isRecover o.op = true
          · rw [if_pos hr] at h
            rw [recover_run hr]
            simp only
            cases m with
            | ret =>
              cases hm
              simp only [recoverD]
              exact HOpsR.wpS hK rest _ σ .ret ρ _ w .returning h hR (hS.put o.dst (by simp [recVal, VRel])) rfl (by rw [put_defers]; exact hd) hF
            | pan v =>
              obtain ⟨v', rfl, hv⟩ := hm
              simp only [recoverD]
              exact HOpsR.wpS hK rest _ σ .rcv ρ _ w (.panicking [{ v := v', recovered := true }]) h hR (hS.put o.dst hv) ⟨v', rfl⟩ (by rw [put_defers]; exact hd) hF
            | rcv =>
              obtain ⟨v', rfl⟩ := hm
              simp only [recoverD]
              exact HOpsR.wpS hK rest _ σ .rcv ρ _ w (.panicking [{ v := v', recovered := true }]) h hR (hS.put o.dst (by simp [recVal, VRel])) ⟨v', rfl⟩ (by rw [put_defers]; exact hd) hF
          · rw [if_neg hr] at h
            obtain ⟨_, h⟩ := h
            split at h
            · rename_i v σ' he
              have hok := evalOp_ok (P := P) (o := o) (fr := fr) (σ := σ) ρ w a hR hS
              rw [he] at hok
              obtain ⟨v', w', ρ', hrun, hv, hR', hF'⟩ := hok
              rcases hrun with hrun | ⟨hrun, rfl⟩
              · rw [hrun]
                exact HOpsR.wpS hK rest _ σ' m ρ' _ w' u h hR' ((hS.mono hF'.sub).put o.dst hv) (HMode.of_mono hF'.sub hm) (by rw [put_defers]; exact hd) (hF.trans hF')
              · rw [hrun]
                exact HOpsR.wpS hK rest _ σ' m ρ' _ w' u h hR' ((hS.mono hF'.sub).put o.dst hv) (HMode.of_mono hF'.sub hm) (by rw [put_defers]; exact hd) (hF.trans hF')
            · exact h.elim

theorem HR.first {id : Nat} {ops : Array Oper} {c : Code} {Q : HMode → Store → Prop} {fr : HFrame} {σ : Store} {m : HMode} (h : HOpsR P ops (fun fr' σ' m' => HR P c Q fr' σ' m') (List.range ops.size) fr σ m) : HR P (.seq (.region id ops false) c) Q fr σ m := by
  intro n ρ w a c₀ cs hR hS hm hd
  refine wpSIn_seq (wpSIn_region ?_)
  have hc : c₀ = { c₀ with mode := c₀.mode } := rfl
  rw [hc]
  refine HOpsR.wpS ?_ _ fr σ m ρ a w c₀.mode h hR hS hm hd (.refl _ _)
  intro fr1 σ1 m1 ρ1 a1 w1 u1 hk hR1 hS1 hm1 hd1 hF1
  have := hk n ρ1 w1 a1 { c₀ with mode := u1 } cs hR1 hS1 hm1 hd1
  intro b k g1 g2 g3 g4
  obtain ⟨e, a', cs', w', hl, ⟨he, hd', u', m', σ', ρ', hcs, hmo, hq, hR', hF'⟩, harr⟩ := this b k g1 g2 g3 g4
  exact ⟨e, a', cs', w', hl, ⟨he, hd', u', m', σ', ρ', hcs, hmo, hq, hR', hF1.trans hF'⟩, harr⟩

end
end Go.HI
