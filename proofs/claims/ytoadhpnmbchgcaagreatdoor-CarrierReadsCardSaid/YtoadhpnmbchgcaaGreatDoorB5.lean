/- Defers and recover, for the evaluator. -/
import Derived.Test.YtoadhpnmbchgcaaGreatDoorB4
namespace Go.HI
noncomputable section

variable {P : Program} {α : Type} {V : OpEv}

/-! ### Plain code without calls -/
def evOpsN (V : OpEv) (ops : Array Oper) (l : List Oper) : HFrame → Store → Option (HFrame × Store) :=
  List.rec (motive := fun _ => HFrame → Store → Option (HFrame × Store)) (fun fr σ => some (fr, σ))
    (fun o _ ih fr σ => if isDefer o.op then none else match wantedH ops o fr with
      | some true => match V o fr σ with
        | .val v σ' => ih (fr.put o.dst v) σ'
        | _ => none
      | some false => ih (fr.put o.dst (.tuple [])) σ
      | none => none) l

theorem evOpsN_ok (hV : V = evalOp P) {ops : Array Oper} {Q : HExit → HFrame → Store → Prop} {fr' : HFrame} {σ' : Store} (hq : Q .normal fr' σ') : ∀ (l : List Oper) (j : Nat) (fr : HFrame) (σ : Store), ops.toList.drop j = l → evOpsN V ops l fr σ = some (fr', σ') →
    HOps P ops Q (List.range' j l.length) fr σ
  | [], j, fr, σ, _, h => by
    cases h
    exact hq
  | o :: rest, j, fr, σ, hd, h => by
    have ho : ops[j]? = some o := by
      rw [← Array.getElem?_toList]
      have := congrArg List.head? hd
      simpa [List.head?_drop] using this
    have hd' : ops.toList.drop (j + 1) = rest := by
      rw [← List.tail_drop, hd]
      rfl
    rw [List.length_cons, List.range'_succ]
    simp only [HOps, ho]
    replace h : (if isDefer o.op then none else match wantedH ops o fr with
      | some true => match V o fr σ with
        | .val v σ' => evOpsN V ops rest (fr.put o.dst v) σ'
        | _ => none
      | some false => evOpsN V ops rest (fr.put o.dst (.tuple [])) σ
      | none => none) = some (fr', σ') := h
    split at h
    · cases h
    rename_i hdef
    refine ⟨by simpa using hdef, ?_⟩
    split at h
    · rename_i hw
      rw [hw]
      rw [congrFun (congrFun (congrFun hV o) fr) σ] at h
      split at h
      · rename_i v σ1 he
        simp only
        rw [he]
        exact evOpsN_ok hV hq rest (j + 1) _ _ hd' h
      · cases h
    · rename_i hw
      rw [hw]
      exact evOpsN_ok hV hq rest (j + 1) _ _ hd' h
    · cases h

def evN (V : OpEv) : Nat → Code → HFrame → Store → Option (HExit × HFrame × Store)
  | 0, _, _, _ => none
  | n + 1, c, fr, σ => match c with
    | .skip => some (.normal, fr, σ)
    | .ret => some (.ret, fr, σ)
    | .exit i => some (.exit i, fr, σ)
    | .seq x y => match evN V n x fr σ with
      | some (.normal, fr1, σ1) => evN V n y fr1 σ1
      | r => r
    | .cond c x y => match fr.eval c with
      | .bool true => evN V n x fr σ
      | .bool false => evN V n y fr σ
      | _ => none
    | .block id c => match evN V n c fr σ with
      | some (.exit i, fr1, σ1) => if i = id then some (.normal, fr1, σ1) else some (.exit i, fr1, σ1)
      | r => r
    | .region _ ops false => (evOpsN V ops ops.toList fr σ).map fun p => (.normal, p.1, p.2)
    | _ => none

theorem evN_ok (hV : V = evalOp P) : ∀ (n : Nat) (c : Code) (fr : HFrame) (σ : Store) (x : HExit) (fr' : HFrame) (σ' : Store), evN V n c fr σ = some (x, fr', σ') → ∀ Q : HExit → HFrame → Store → Prop, Q x fr' σ' → HN P c Q fr σ
  | 0, _, _, _, _, _, _, h, _, _ => by cases h
  | n + 1, c, fr, σ, x, fr', σ', h, Q, hq => by
    cases c with
    | skip => simp only [evN] at h; cases h; exact HN.skip hq
    | ret => simp only [evN] at h; cases h; exact HN.ret hq
    | exit i => simp only [evN] at h; cases h; exact HN.exit hq
    | seq a b =>
      simp only [evN] at h
      refine HN.seq ?_
      split at h
      · rename_i fr1 σ1 ha
        exact evN_ok hV n a fr σ _ _ _ ha _ (evN_ok hV n b _ _ _ _ _ h Q hq)
      · rename_i hne
        refine evN_ok hV n a fr σ _ _ _ h _ ?_
        cases x <;> first | exact hq | exact absurd h (hne _ _)
    | cond c a b =>
      simp only [evN] at h
      split at h
      · rename_i hc; exact HN.cond hc (evN_ok hV n _ _ _ _ _ _ h Q hq)
      · rename_i hc; exact HN.cond hc (evN_ok hV n _ _ _ _ _ _ h Q hq)
      · cases h
    | block id c =>
      simp only [evN] at h
      refine HN.block ?_
      split at h
      · rename_i i fr1 σ1 hc
        split at h
        · rename_i hid
          cases h
          exact evN_ok hV n c _ _ _ _ _ hc _ (by simp only [HExit.inBlock]; rw [if_pos hid]; exact hq)
        · rename_i hid
          cases h
          exact evN_ok hV n c _ _ _ _ _ hc _ (by simp only [HExit.inBlock]; rw [if_neg hid]; exact hq)
      · rename_i hne
        refine evN_ok hV n c _ _ _ _ _ h _ ?_
        cases x <;> first | exact hq | exact absurd h (hne _ _ _)
    | region id ops draw =>
      cases draw with
      | true => simp only [evN] at h; cases h
      | false =>
        simp only [evN, Option.map_eq_some_iff] at h
        obtain ⟨p, hp, h⟩ := h
        cases h
        refine HN.region ?_
        have := evOpsN_ok hV hq ops.toList 0 fr σ (by simp) hp
        rw [List.range_eq_range']
        simpa using this
    | _ => simp only [evN, reduceCtorEq] at h

/-! ### Deferred calls -/
def evOpsR (V : OpEv) (ops : Array Oper) (l : List Oper) : HFrame → Store → HMode → Option (HFrame × Store × HMode) :=
  List.rec (motive := fun _ => HFrame → Store → HMode → Option (HFrame × Store × HMode)) (fun fr σ m => some (fr, σ, m))
    (fun o _ ih fr σ m => match wantedH ops o fr with
      | some true => if isRecover o.op then ih (fr.put o.dst (recVal m)) σ (recMode m) else if isDefer o.op then none else match V o fr σ with
        | .val v σ' => ih (fr.put o.dst v) σ' m
        | _ => none
      | some false => ih (fr.put o.dst (.tuple [])) σ m
      | none => none) l

theorem evOpsR_ok (hV : V = evalOp P) {ops : Array Oper} {K : HFrame → Store → HMode → Prop} {fr' : HFrame} {σ' : Store} {m' : HMode} (hq : K fr' σ' m') : ∀ (l : List Oper) (j : Nat) (fr : HFrame) (σ : Store) (m : HMode), ops.toList.drop j = l → evOpsR V ops l fr σ m = some (fr', σ', m') →
    HOpsR P ops K (List.range' j l.length) fr σ m
  | [], j, fr, σ, m, _, h => by
    cases h
    exact hq
  | o :: rest, j, fr, σ, m, hd, h => by
    have ho : ops[j]? = some o := by
      rw [← Array.getElem?_toList]
      have := congrArg List.head? hd
      simpa [List.head?_drop] using this
    have hd' : ops.toList.drop (j + 1) = rest := by
      rw [← List.tail_drop, hd]
      rfl
    rw [List.length_cons, List.range'_succ]
    simp only [HOpsR, ho]
    replace h : (match wantedH ops o fr with
      | some true => if isRecover o.op then evOpsR V ops rest (fr.put o.dst (recVal m)) σ (recMode m) else if isDefer o.op then none else match V o fr σ with
        | .val v σ' => evOpsR V ops rest (fr.put o.dst v) σ' m
        | _ => none
      | some false => evOpsR V ops rest (fr.put o.dst (.tuple [])) σ m
      | none => none) = some (fr', σ', m') := h
    split at h
    · rename_i hw
      rw [hw]
      simp only
      split at h
      · rename_i hr
        rw [if_pos hr]
        exact evOpsR_ok hV hq rest (j + 1) _ _ _ hd' h
      · rename_i hr
        rw [if_neg hr]
        split at h
        · cases h
        rename_i hdef
        refine ⟨by simpa using hdef, ?_⟩
        rw [congrFun (congrFun (congrFun hV o) fr) σ] at h
        split at h
        · rename_i v σ1 he
          try rw [he]
          exact evOpsR_ok hV hq rest (j + 1) _ _ _ hd' h
        · cases h
    · rename_i hw
      rw [hw]
      exact evOpsR_ok hV hq rest (j + 1) _ _ _ hd' h
    · cases h

def evR (V : OpEv) (n : Nat) (c : Code) (fr : HFrame) (σ : Store) (m : HMode) : Option (HMode × Store) :=
  match evN V n c fr σ with
  | some (.normal, _, σ') => some (m, σ')
  | some (.ret, _, σ') => some (m, σ')
  | _ => none

theorem evR_ok (hV : V = evalOp P) {n : Nat} {c : Code} {fr : HFrame} {σ : Store} {m m' : HMode} {σ' : Store} (h : evR V n c fr σ m = some (m', σ')) {Q : HMode → Store → Prop} (hq : Q m' σ') : HR P c Q fr σ m := by
  unfold evR at h
  split at h
  · rename_i fr1 σ1 he
    cases h
    exact HR.plain (evN_ok hV n c fr σ _ _ _ he _ ⟨trivial, hq⟩)
  · rename_i fr1 σ1 he
    cases h
    exact HR.plain (evN_ok hV n c fr σ _ _ _ he _ ⟨trivial, hq⟩)
  · cases h

/-- A deferred call. -/
def evDef (V : OpEv) (P : Program) (f : FuncId) (args : List HV) (σ : Store) (m : HMode) : Option (HMode × Store) :=
  match P.funcs[f]? with
  | none => none
  | some fn => match fn.body with
    | none => none
    | some c => if args.length ≤ fn.ntmps ∧ fn.results.isEmpty = true then
        match c with
        | .seq (.region id ops false) c' => if ops.toList.any (fun o => isRecover o.op) then
            match evOpsR V ops ops.toList (enterH fn.ntmps σ.globs args) σ m with
            | some (fr', σ', m') => evR V 20 c' fr' σ' m'
            | none => none
          else evR V 20 (.seq (.region id ops false) c') (enterH fn.ntmps σ.globs args) σ m
        | c => evR V 20 c (enterH fn.ntmps σ.globs args) σ m
      else none

theorem evDef_ok (hV : V = evalOp P) {f : FuncId} {args : List HV} {σ : Store} {m m' : HMode} {σ' : Store} (h : evDef V P f args σ m = some (m', σ')) {R : HMode → Store → Prop} (hR : R m' σ') : HDefer P f args σ m R := by
  unfold evDef at h
  split at h
  · cases h
  rename_i fn hf
  split at h
  · cases h
  rename_i c hb
  split at h
  · rename_i hc
    refine HDefer.of_body hf hb (by simpa [Array.isEmpty_iff] using hc.2) hc.1 ?_
    split at h
    · rename_i id ops c'
      split at h
      · split at h
        · rename_i fr' σ1 m1 he
          refine HR.first ?_
          have := evOpsR_ok hV (K := fun fr' σ' m' => HR P c' R fr' σ' m') (evR_ok hV h hR) ops.toList 0 _ σ m (by simp) he
          rw [List.range_eq_range']
          simpa using this
        · cases h
      · exact evR_ok hV h hR
    · exact evR_ok hV h hR
  · cases h

/-! ### Functions that defer -/
def leaveDK (A : Ans α) (V : OpEv) (P : Program) (rs : List ResultVar) (k : KE α) (fr : HFrame) : List DefH → HMode → Store → α
  | [], .ret, σ => match resultsH P rs fr σ with
    | some v => k (.returned v) σ
    | none => A.fail
  | [], .pan v, σ => k (.panicked v) σ
  | [], .rcv, _ => A.fail
  | d :: ds, m, σ => if hasBody P d.f then match evDef V P d.f (d.args ++ d.cap) σ m with
      | some p => leaveDK A V P rs k fr ds p.1.settled p.2
      | none => A.fail
    else A.fail

def restK (A : Ans α) (V : OpEv) (P : Program) (rs : List ResultVar) (k : KE α) (ds : List DefH) : KX α := fun e fr σ => match e with
  | .normal | .ret => leaveDK A V P rs k fr ds .ret σ
  | .panic v => leaveDK A V P rs k fr ds (.pan v) σ
  | _ => A.fail

def erOpsD (A : Ans α) (V : OpEv) (ops : Array Oper) (k : HFrame → Store → List DefH → α) (l : List Oper) : HFrame → Store → List DefH → α :=
  List.rec (motive := fun _ => HFrame → Store → List DefH → α) (fun fr σ ds => k fr σ ds)
    (fun o _ ih fr σ ds => match wantedH ops o fr with
      | some true => match o.op with
        | .defer c => match defOf fr c with
          | some d => ih (fr.put o.dst (.tuple [])) σ (d :: ds)
          | none => A.fail
        | _ => match V o fr σ with
          | .val v σ' => ih (fr.put o.dst v) σ' ds
          | _ => A.fail
      | _ => A.fail) l

def defersB : Code → Bool
  | .region _ ops _ => ops.toList.any fun o => isDefer o.op
  | .seq a b => defersB a || defersB b
  | _ => false

def erB (A : Ans α) (V : OpEv) (P : Program) (E : Er α) (rs : List ResultVar) (k : KE α) : Nat → Code → HFrame → Store → List DefH → α
  | 0, _, _, _, _ => A.fail
  | n + 1, c, fr, σ, ds => if defersB c then match c with
      | .seq (.region _ ops false) c' => erOpsD A V ops (erB A V P E rs k n c') ops.toList fr σ ds
      | _ => A.fail
    else E.code none c fr σ (restK A V P rs k ds)

def erDefers (A : Ans α) (V : OpEv) (P : Program) (E : Er α) (f : FuncId) (args : List HV) (σ : Store) (k : KE α) : α :=
  match P.funcs[f]? with
  | none => A.fail
  | some fn => match fn.body with
    | none => A.fail
    | some c => if args.length ≤ fn.ntmps then erB A V P E fn.results.toList k 6 c (enterH fn.ntmps σ.globs args) σ [] else A.fail

variable {A : Ans α} {φ : α → Prop}

theorem leaveDK_ok (hA : A.Good φ) (hV : V = evalOp P) {rs : List ResultVar} {k : KE α} {fr : HFrame} : ∀ (ds : List DefH) (m : HMode) (σ : Store), φ (leaveDK A V P rs k fr ds m σ) → leaveD P rs (fun e σ => φ (k e σ)) fr ds m σ
  | [], .ret, σ, h => by
    simp only [leaveDK] at h
    split at h
    · rename_i v hv; exact ⟨v, hv, h⟩
    · exact (hA.fail h).elim
  | [], .pan v, σ, h => h
  | [], .rcv, _, h => (hA.fail h).elim
  | d :: ds, m, σ, h => by
    simp only [leaveDK] at h
    split at h
    · rename_i hb
      split at h
      · rename_i p hp
        exact ⟨hb, evDef_ok hV (m' := p.1) (σ' := p.2) hp (leaveDK_ok hA hV ds _ _ h)⟩
      · exact (hA.fail h).elim
    · exact (hA.fail h).elim

theorem erOpsD_ok (hA : A.Good φ) (hV : V = evalOp P) {ops : Array Oper} {k : HFrame → Store → List DefH → α} : ∀ (l : List Oper) (j : Nat) (fr : HFrame) (σ : Store) (ds : List DefH), ops.toList.drop j = l →
    φ (erOpsD A V ops k l fr σ ds) → HOpsD P ops (fun fr σ ds => φ (k fr σ ds)) (List.range' j l.length) fr σ ds
  | [], j, fr, σ, ds, _, h => h
  | o :: rest, j, fr, σ, ds, hd, h => by
    have ho : ops[j]? = some o := by
      rw [← Array.getElem?_toList]
      have := congrArg List.head? hd
      simpa [List.head?_drop] using this
    have hd' : ops.toList.drop (j + 1) = rest := by
      rw [← List.tail_drop, hd]
      rfl
    rw [List.length_cons, List.range'_succ]
    simp only [HOpsD, ho]
    replace h : φ (match wantedH ops o fr with
      | some true => match o.op with
        | .defer c => match defOf fr c with
          | some d => erOpsD A V ops k rest (fr.put o.dst (.tuple [])) σ (d :: ds)
          | none => A.fail
        | _ => match V o fr σ with
          | .val v σ' => erOpsD A V ops k rest (fr.put o.dst v) σ' ds
          | _ => A.fail
      | _ => A.fail) := h
    split at h
    · rename_i hw
      refine ⟨hw, ?_⟩
      split at h
      · rename_i c hop
        rw [hop]
        simp only
        split at h
        · rename_i d hdo
          rw [hdo]
          exact erOpsD_ok hA hV rest (j + 1) _ _ _ hd' h
        · exact (hA.fail h).elim
      · rename_i hne
        rw [congrFun (congrFun (congrFun hV o) fr) σ] at h
        split
        · rename_i c hop; exact absurd hop (hne c)
        · split at h
          · rename_i v σ1 he
            rw [he]
            exact erOpsD_ok hA hV rest (j + 1) _ _ _ hd' h
          · exact (hA.fail h).elim
    · exact (hA.fail h).elim

theorem erB_ok (hA : A.Good φ) (hV : V = evalOp P) {E : Er α} (h1 : CodeK P φ E.code) {fn : Func} {k : KE α} : ∀ (n : Nat) (c : Code) (fr : HFrame) (σ : Store) (ds : List DefH), φ (erB A V P E fn.results.toList k n c fr σ ds) → HB P fn (fun e σ => φ (k e σ)) c fr σ ds
  | 0, _, _, _, _, h => (hA.fail h).elim
  | n + 1, c, fr, σ, ds, h => by
    simp only [erB] at h
    split at h
    · split at h
      · rename_i id ops c' hdb
        refine HB.region ?_
        have := erOpsD_ok hA hV (k := erB A V P E fn.results.toList k n c') ops.toList 0 fr σ ds (by simp) h
        rw [List.range_eq_range']
        have key : ∀ (l : List Nat) (fr : HFrame) (σ : Store) (ds : List DefH), HOpsD P ops (fun fr σ ds => φ (erB A V P E fn.results.toList k n c' fr σ ds)) l fr σ ds → HOpsD P ops (fun fr σ ds => HB P fn (fun e σ => φ (k e σ)) c' fr σ ds) l fr σ ds := by
          intro l
          induction l with
          | nil => intro fr σ ds h; exact erB_ok hA hV h1 n c' fr σ ds h
          | cons i l ih =>
            intro fr σ ds h
            simp only [HOpsD] at h ⊢
            split at h
            · exact h.elim
            · obtain ⟨hw, h⟩ := h
              refine ⟨hw, ?_⟩
              split at h
              · split at h
                · exact ih _ _ _ h
                · exact h.elim
              · split at h
                · exact ih _ _ _ h
                · exact h.elim
        exact key _ _ _ _ (by simpa using this)
      · exact (hA.fail h).elim
    · refine HB.rest ((h1 _ _ _ _ _ h).mono fun x fr σ hx => ?_)
      cases x with
      | normal => exact leaveDK_ok hA hV ds .ret σ hx
      | ret => exact leaveDK_ok hA hV ds .ret σ hx
      | panic v => exact leaveDK_ok hA hV ds (.pan v) σ hx
      | exit => exact (hA.fail hx).elim
      | goto => exact (hA.fail hx).elim

theorem erDefers_ok (hA : A.Good φ) (hV : V = evalOp P) {E : Er α} (h1 : CodeK P φ E.code) {f : FuncId} {args : List HV} {σ : Store} {k : KE α} (h : φ (erDefers A V P E f args σ k)) : HCall P f args σ (fun e σ => φ (k e σ)) := by
  unfold erDefers at h
  split at h
  · exact (hA.fail h).elim
  rename_i fn hf
  split at h
  · exact (hA.fail h).elim
  rename_i c hb
  split at h
  · rename_i hn
    exact HCall.of_defers hf hb hn (erB_ok hA hV h1 6 c _ σ [] h)
  · exact (hA.fail h).elim

end
end Go.HI
