/- Functions that defer calls at their beginning. -/
import Derived.Test.YtoadhpnmbchgcaaGreatDoorB3
namespace Go.HI
noncomputable section

variable {P : Program}

structure DefH where
  f : FuncId
  args : List HV
  cap : List HV

def DefRel (ρ : Ren) (d : DefH) (d' : Deferred) : Prop := ∃ c, d'.target = .fn (.func d.f) c ∧ VsRel ρ d.args d'.args.toList ∧ VsRel ρ d.cap c.toList

def DefsRel (ρ : Ren) : List DefH → List Deferred → Prop
  | [], l => l = []
  | d :: ds, l => ∃ d' ds', l = d' :: ds' ∧ DefRel ρ d d' ∧ DefsRel ρ ds ds'

theorem DefsRel.mono {ρ ρ' : Ren} (hs : ρ.sub ρ') : ∀ {ds : List DefH} {l : List Deferred}, DefsRel ρ ds l → DefsRel ρ' ds l
  | [], _, h => h
  | _ :: _, _, ⟨d', ds', h1, ⟨c, h2, h3, h4⟩, h5⟩ => ⟨d', ds', h1, ⟨c, h2, VsRel.mono hs _ _ h3, VsRel.mono hs _ _ h4⟩, DefsRel.mono hs h5⟩

/-- What is left to do when the body is through. -/
def leaveD (P : Program) (rs : List ResultVar) (R : HEnd → Store → Prop) (fr : HFrame) : List DefH → HMode → Store → Prop
  | [], .ret, σ => ∃ v, resultsH P rs fr σ = some v ∧ R (.returned v) σ
  | [], .pan v, σ => R (.panicked v) σ
  | [], .rcv, _ => False
  | d :: ds, m, σ => hasBody P d.f = true ∧ HDefer P d.f (d.args ++ d.cap) σ m fun m' σ' => leaveD P rs R fr ds m'.settled σ'

theorem leaves_defs {n N : Nat} {fn : Func} {tmps : Array Value} {R : HEnd → Store → Prop} {ρ₀ : Ren} {w₀ : World} {fr : HFrame} : ∀ (ds : List DefH) (l : List Deferred) (m : HMode) (u : FrameMode) (σ : Store) (ρ : Ren) (w : World),
    leaveD P fn.results.toList R fr ds m σ → DefsRel ρ ds l → m.of ρ u → Rel ρ σ w → SlotsRel ρ fr tmps → Fr N σ.next ρ₀ ρ w₀ w → LeavesInM (FW none) n P fn tmps (HEndPost N ρ₀ w₀ R) l u w
  | [], l, m, u, σ, ρ, w, h, hd, hm, hR, hS, hF => by
    cases hd
    cases m with
    | ret =>
      cases hm
      obtain ⟨v, hv, hRv⟩ := h
      obtain ⟨v', hrun, hrel⟩ := results_run hR hS hv
      exact ⟨v', hrun, .returned v, σ, ρ, ⟨v', rfl, hrel⟩, hRv, hR, hF⟩
    | pan v =>
      obtain ⟨v', rfl, hv⟩ := hm
      exact ⟨.panicked v, σ, ρ, ⟨v', rfl, hv⟩, h, hR, hF⟩
    | rcv => exact h.elim
  | d :: ds, l, m, u, σ, ρ, w, h, hd, hm, hR, hS, hF => by
    obtain ⟨d', ds', rfl, ⟨c, ht, ha, hc⟩, hds⟩ := hd
    obtain ⟨hb, h⟩ := h
    refine ⟨HMode.not_run hm, .inr ⟨no_depth, .func d.f, c, d.f, d'.args ++ c, ht, ?_, fun _ _ => trivial, ?_⟩⟩
    · rw [ht]
      simp [invoke, run_callFunc_body hb]
    · refine (h (n - 1) ρ w (d'.args ++ c) u hR (by simpa using ha.append hc) hm).mono ?_
      rintro e u' w' ⟨⟨v, rfl⟩, m', σ', ρ', hm', hq, hR', hF'⟩
      exact leaves_defs ds ds' m'.settled (settle u') σ' ρ' w' hq (hds.mono hF'.sub) (HMode.settle_of hm') hR' (hS.mono hF'.sub) (hF.trans hF')

theorem leaves_marks_defs {n N : Nat} {fn : Func} {tmps : Array Value} {R : HEnd → Store → Prop} {ρ₀ ρ : Ren} {w₀ wm : World} {fr : HFrame} {ds : List DefH} {dl : List Deferred} {m : HMode} {u : FrameMode} {σ : Store}
    (h : leaveD P fn.results.toList R fr ds m σ) (hd : DefsRel ρ ds dl) (hm : m.of ρ u) (hS : SlotsRel ρ fr tmps) (hN : w₀.heap.size ≤ wm.heap.size) : ∀ (l : List Nat) (w : World), Rel ρ σ w → Fr N σ.next ρ₀ ρ w₀ w → MarksOK ρ w l → (∀ D ∈ l, wm.heap.size ≤ D) →
    LeavesInM (FW none) n P fn tmps (HEndPost N ρ₀ w₀ R) (l.map dmark ++ dl) u w
  | [], w, hR, hF, _, _ => leaves_defs ds dl m u σ ρ w h hd hm hR hS hF
  | D :: l, w, hR, hF, hmk, hge => by
    refine ⟨HMode.not_run hm, .inl ⟨D, w.putObj D (.deferred none), rfl, run_takeDeferred (hmk.here D (List.mem_cons_self ..)), ?_⟩⟩
    have hout := hmk.out D (List.mem_cons_self ..)
    have hnd := List.nodup_cons.1 hmk.once
    refine leaves_marks_defs h hd hm hS hN l _ (hR.putOut hout _) (hF.putOut (Nat.le_trans hN (hge D (List.mem_cons_self ..))) _) ⟨?_, ?_, hnd.2⟩ (fun D' hD' => hge D' (List.mem_cons_of_mem _ hD'))
    · intro D' hD'
      rw [World.putObj_heap_other (by rintro rfl; exact hnd.1 hD')]
      exact hmk.here D' (List.mem_cons_of_mem _ hD')
    · intro D' hD'
      exact hmk.out D' (List.mem_cons_of_mem _ hD')

/-- The body, from some place on. -/
def HB (P : Program) (fn : Func) (R : HEnd → Store → Prop) (c : Code) (fr : HFrame) (σ : Store) (ds : List DefH) : Prop :=
  ∀ (n N₀ : Nat) (ρ₀ : Ren) (w₀ : World) (ρ : Ren) (w : World) (a : Act), Rel ρ σ w → SlotsRel ρ fr a.tmps → DefsRel ρ ds a.defers → Fr N₀ σ.next ρ₀ ρ w₀ w →
    c.wpIn (FW none) n P (bodyPostM (FW none) n P fn (HEndPost N₀ ρ₀ w₀ R)) a w

/-- From here on nothing more is deferred. -/
def restD (P : Program) (rs : List ResultVar) (R : HEnd → Store → Prop) (ds : List DefH) : HExit → HFrame → Store → Prop
  | .normal, fr, σ | .ret, fr, σ => leaveD P rs R fr ds .ret σ
  | .panic v, fr, σ => leaveD P rs R fr ds (.pan v) σ
  | _, _, _ => False

theorem HB.rest {fn : Func} {R : HEnd → Store → Prop} {c : Code} {fr : HFrame} {σ : Store} {ds : List DefH} (h : HWp P none c (restD P fn.results.toList R ds) fr σ) : HB P fn R c fr σ ds := by
  intro n N₀ ρ₀ w₀ ρ w a hR hS hd hF
  refine wpIn_mono (h n ρ w a none rfl hR hS) ?_
  rintro e a1 w1 ⟨x, fr1, σ1, ρ1, hx, hq, hR1, hS1, hl⟩
  obtain ⟨l, hds, hm, hge⟩ := hl.marks
  have hd1 := hd.mono hl.fr.sub
  have hF1 := hF.trans hl.fr
  cases x with
  | normal =>
    simp only [HExit.of] at hx
    subst hx
    show LeavesInM (FW none) n P fn a1.tmps (HEndPost N₀ ρ₀ w₀ R) a1.defers .returning w1
    rw [hds]
    exact leaves_marks_defs (m := .ret) (wm := w) hq hd1 rfl hS1 hF.size l w1 hR1 hF1 hm hge
  | ret =>
    simp only [HExit.of] at hx
    subst hx
    show LeavesInM (FW none) n P fn a1.tmps (HEndPost N₀ ρ₀ w₀ R) a1.defers .returning w1
    rw [hds]
    exact leaves_marks_defs (m := .ret) (wm := w) hq hd1 rfl hS1 hF.size l w1 hR1 hF1 hm hge
  | panic v =>
    obtain ⟨v', rfl, hv⟩ := hx
    show LeavesInM (FW none) n P fn a1.tmps (HEndPost N₀ ρ₀ w₀ R) a1.defers (.panicking _) w1
    rw [hds]
    exact leaves_marks_defs (m := .pan v) (wm := w) hq hd1 ⟨v', rfl, hv⟩ hS1 hF.size l w1 hR1 hF1 hm hge
  | exit id => exact hq.elim
  | goto l => exact hq.elim

/-- What is deferred. -/
def defOf (fr : HFrame) (c : Call) : Option DefH :=
  match c.callee with
  | .value f => match fr.eval f with
    | .func (.func g) first cap => some ⟨g, first ++ c.args.toList.map fr.eval, cap⟩
    | _ => none
  | _ => none

def HOpsD (P : Program) (ops : Array Oper) (K : HFrame → Store → List DefH → Prop) : List Nat → HFrame → Store → List DefH → Prop
  | [], fr, σ, ds => K fr σ ds
  | i :: rest, fr, σ, ds => match ops[i]? with
    | none => False
    | some o => wantedH ops o fr = some true ∧ match o.op with
      | .defer c => match defOf fr c with
        | some d => HOpsD P ops K rest (fr.put o.dst (.tuple [])) σ (d :: ds)
        | none => False
      | _ => match evalOp P o fr σ with
        | .val v σ' => HOpsD P ops K rest (fr.put o.dst v) σ' ds
        | _ => False

theorem evals_rel {ρ : Ren} {fr : HFrame} {a : Act} (hS : SlotsRel ρ fr a.tmps) : ∀ l : List Operand, VsRel ρ (l.map fr.eval) (l.map a.eval)
  | [] => by simp
  | x :: xs => by simp only [List.map_cons, VsRel.cons_iff]; exact ⟨hS.eval x, evals_rel hS xs⟩

theorem HOpsD.wpIn {ops : Array Oper} {n N₀ : Nat} {ρ₀ : Ren} {w₀ : World} {Q : Exit → Act → World → Prop} {K : HFrame → Store → List DefH → Prop}
    (hK : ∀ fr σ ds ρ a w, K fr σ ds → Rel ρ σ w → SlotsRel ρ fr a.tmps → DefsRel ρ ds a.defers → Fr N₀ σ.next ρ₀ ρ w₀ w → Q .normal a w) :
    ∀ (l : List Nat) (fr : HFrame) (σ : Store) (ds : List DefH) (ρ : Ren) (a : Act) (w : World), HOpsD P ops K l fr σ ds → Rel ρ σ w → SlotsRel ρ fr a.tmps → DefsRel ρ ds a.defers → Fr N₀ σ.next ρ₀ ρ w₀ w → wpOpsIn (FW none) n P ops Q l a w
  | [], fr, σ, ds, ρ, a, w, h, hR, hS, hd, hF => hK fr σ ds ρ a w h hR hS hd hF
  | i :: rest, fr, σ, ds, ρ, a, w, h, hR, hS, hd, hF => by
    simp only [HOpsD] at h
    simp only [wpOpsIn]
    cases ho : ops[i]? with
    | none => rw [ho] at h; exact h.elim
    | some o =>
      rw [ho] at h
      obtain ⟨hw, h⟩ := h
      simp only
      rw [wantedH_ok hS hw]
      simp only [if_true]
      by_cases hdef : ∃ c, o.op = .defer c
      · obtain ⟨c, hop⟩ := hdef
        rw [hop] at h
        simp only at h
        refine ⟨fun _ _ => trivial, ?_⟩
        split at h
        · rename_i d hdo
          unfold defOf at hdo
          split at hdo
          · rename_i f hcal
            split at hdo
            · rename_i g first cap hev
              cases hdo
              have hv := hS.eval f
              rw [hev] at hv
              simp only [VRel] at hv
              obtain ⟨fn', a1, c1, hv, rfl, h1, h2⟩ := hv
              have hrun : (o.semAt (FW none).round a.eval).run P w = .ok (.defer { target := .fn (.func g) c1, args := a1 ++ c.args.map a.eval }) w := by
                show ((Oper.semAt none a.eval o)).run P w = _
                rw [Oper.semAt_none]
                simp only [execOp, hop, resolve, hcal, hv, Deferred.ofValue]
                rfl
              rw [hrun]
              refine HOpsD.wpIn hK rest _ σ _ ρ _ w h hR ?_ ?_ hF
              · exact SlotsRel.put (a := { a with defers := _ :: a.defers }) hS o.dst undef_rel
              · rw [put_defers]
                refine ⟨_, _, rfl, ⟨c1, rfl, ?_, h2⟩, hd⟩
                simp only [Array.toList_append, Array.toList_map]
                exact h1.append (evals_rel hS _)
            · cases hdo
          · cases hdo
        · exact h.elim
      · have h' : (match evalOp P o fr σ with
          | .val v σ' => HOpsD P ops K rest (fr.put o.dst v) σ' ds
          | _ => False) := by
          split at h
          · rename_i c hop; exact absurd ⟨c, hop⟩ hdef
          · exact h
        have hnd : isDefer o.op = false := by
          cases hq : o.op <;> first | rfl | exact absurd ⟨_, hq⟩ hdef
        split at h'
        · rename_i v σ' he
          refine HStep.wpIn (K := fun v' σ'' => v' = v ∧ σ'' = σ') (Kp := fun _ _ => False) (by rw [he]; exact ⟨rfl, rfl⟩) hnd hR hS ?_ ?_
          · rintro v1 σ1 ρ1 v' w' ⟨rfl, rfl⟩ hv hR' hF'
            exact HOpsD.wpIn hK rest _ _ ds ρ1 _ w' h' hR' ((hS.mono hF'.sub).put o.dst hv) (by rw [put_defers]; exact hd.mono hF'.sub) (hF.trans hF')
          · rintro v1 σ1 ρ1 v' w' hf
            exact hf.elim
        · exact h'.elim

theorem HB.region {fn : Func} {R : HEnd → Store → Prop} {id : Nat} {ops : Array Oper} {c : Code} {fr : HFrame} {σ : Store} {ds : List DefH} (h : HOpsD P ops (fun fr' σ' ds' => HB P fn R c fr' σ' ds') (List.range ops.size) fr σ ds) : HB P fn R (.seq (.region id ops false) c) fr σ ds := by
  intro n N₀ ρ₀ w₀ ρ w a hR hS hd hF
  refine wpIn_seq (wpIn_region (HOpsD.wpIn ?_ _ fr σ ds ρ a w h hR hS hd hF))
  intro fr1 σ1 ds1 ρ1 a1 w1 hk hR1 hS1 hd1 hF1
  exact hk n N₀ ρ₀ w₀ ρ1 w1 a1 hR1 hS1 hd1 hF1

theorem HCall.of_defers {f : FuncId} {fn : Func} {c : Code} {args : List HV} {σ : Store} {R : HEnd → Store → Prop} (hf : P.funcs[f]? = some fn) (hb : fn.body = some c) (hn : args.length ≤ fn.ntmps)
    (h : HB P fn R c (enterH fn.ntmps σ.globs args) σ []) : HCall P f args σ R := by
  intro n ρ w args' hR ha
  exact callsIn_of_wp_marks hf hb trivial (h n σ.next ρ w ρ w _ hR (enterH_rel hR ha hn) rfl (.refl _ _))

end
end Go.HI
