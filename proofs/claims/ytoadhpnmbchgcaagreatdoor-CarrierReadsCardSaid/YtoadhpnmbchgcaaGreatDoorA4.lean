/- Code over the abstract heap: regions that draw their order. -/
import Derived.Test.YtoadhpnmbchgcaaGreatDoorA3
import Derived.OrdersIn
namespace Go.HI
noncomputable section

variable {P : Program} {ops : Array Oper} {Q : HExit → HFrame → Store → Prop}

def dstOf (ops : Array Oper) (i : Nat) : Option Tmp := (ops[i]?).bind (·.dst)
def looksOf (ops : Array Oper) (i : Nat) : List Tmp := match ops[i]? with
  | some o => o.looksAt ops
  | none => []

/-- 'j comes before i', by the masks. -/
def bef (M : List Nat) (i j : Nat) : Bool := (M.getD i 0).testBit j

def maskOf (M : List Nat) (o : Oper) : Nat := o.after.toList.foldl (fun s e => if Region.binds .any e then s ||| (2 ^ e.on ||| M.getD e.on 0) else s) 0

/-- What must hold of a region's operations: edges go back; the masks are the transitive ones; readers and writers of a temporary are ordered; nobody writes where another one does. -/
def regionOK (ops : Array Oper) (M : List Nat) : Bool :=
  (List.range ops.size).all fun i => match ops[i]? with
    | none => false
    | some o => o.after.toList.all (fun e => !Region.binds .any e || decide (e.on < i)) && M.getD i 0 == maskOf M o && !isDefer o.op &&
      (List.range ops.size).all fun w => match dstOf ops w with
        | none => true
        | some t => w == i || (!(o.dst == some t) && (!(o.looksAt ops).contains t || bef M i w || bef M w i))

def planB (ops : Array Oper) (X : Nat → Bool) (M : List Nat) : List Nat → List Nat → Option Nat → Bool
  | [], E, _ => (List.range ops.size).all fun i => E.contains i
  | i :: rest, E, lx => decide (i < ops.size) && !E.contains i &&
      (match ops[i]? with | some o => o.after.toList.all (fun e => !Region.binds .any e || E.contains e.on) | none => false) &&
      (match lx with | none => true | some x => bef M i x) && planB ops X M rest (i :: E) (if X i then some i else lx)

theorem mask_fold (l : List Edge) (M : List Nat) (j : Nat) : ∀ s : Nat, (l.foldl (fun s e => if Region.binds .any e then s ||| (2 ^ e.on ||| M.getD e.on 0) else s) s).testBit j = true →
    s.testBit j = true ∨ ∃ e ∈ l, Region.binds .any e = true ∧ (j = e.on ∨ bef M e.on j = true) := by
  induction l with
  | nil => intro s h; exact .inl h
  | cons e l ih =>
    intro s h
    rw [List.foldl_cons] at h
    rcases ih _ h with h1 | ⟨e', he', h1⟩
    · split at h1
      · rename_i hb
        rw [Nat.testBit_or, Nat.testBit_or, Bool.or_eq_true, Bool.or_eq_true] at h1
        rcases h1 with h1 | h1 | h1
        · exact .inl h1
        · rw [Nat.testBit_two_pow] at h1
          exact .inr ⟨e, List.mem_cons_self .., hb, .inl (by simpa using (of_decide_eq_true h1).symm)⟩
        · exact .inr ⟨e, List.mem_cons_self .., hb, .inr h1⟩
      · exact .inl h1
    · exact .inr ⟨e', List.mem_cons_of_mem _ he', h1⟩

/-- What holds of the operation i. -/
structure OpFact (ops : Array Oper) (M : List Nat) (i : Nat) (o : Oper) : Prop where
  here : ops[i]? = some o
  back : ∀ e ∈ o.after, Region.binds .any e = true → e.on < i
  mask : ∀ j, bef M i j = true → ∃ e ∈ o.after, Region.binds .any e = true ∧ (j = e.on ∨ bef M e.on j = true)
  defer : isDefer o.op = false
  own : ∀ w t, w < ops.size → dstOf ops w = some t → o.dst = some t → w = i
  ordered : ∀ w t, w < ops.size → dstOf ops w = some t → t ∈ o.looksAt ops → w = i ∨ bef M i w = true ∨ bef M w i = true

theorem regionOK_fact {M : List Nat} (h : regionOK ops M = true) {i : Nat} (hi : i < ops.size) : ∃ o, OpFact ops M i o := by
  unfold regionOK at h
  rw [List.all_eq_true] at h
  have h := h i (List.mem_range.2 hi)
  have ho : ops[i]? = some ops[i] := Array.getElem?_eq_getElem hi
  rw [ho] at h
  simp only [Bool.and_eq_true, List.all_eq_true, Bool.not_eq_true', beq_iff_eq] at h
  obtain ⟨⟨⟨h1, h2⟩, h3⟩, h4⟩ := h
  refine ⟨ops[i], ho, ?_, ?_, h3, ?_, ?_⟩
  · intro e he hb
    have := h1 e (by simpa using he)
    rw [hb] at this
    simpa using this
  · intro j hj
    unfold bef at hj
    rw [h2] at hj
    rcases mask_fold _ M j 0 hj with h5 | ⟨e, he, h5⟩
    · simp at h5
    · exact ⟨e, by simpa using he, h5⟩
  · intro w t hw hd hdst
    have := h4 w (List.mem_range.2 hw)
    rw [hd] at this
    simp only [Bool.or_eq_true, beq_iff_eq, Bool.and_eq_true, Bool.not_eq_true'] at this
    rcases this with h5 | h5
    · exact h5
    · rw [hdst] at h5; simp at h5
  · intro w t hw hd hl
    have := h4 w (List.mem_range.2 hw)
    rw [hd] at this
    simp only [Bool.or_eq_true, beq_iff_eq, Bool.and_eq_true, Bool.not_eq_true'] at this
    rcases this with h5 | ⟨_, (h5 | h5) | h5⟩
    · exact .inl h5
    · have : (o : Oper) → True := fun _ => trivial
      rw [List.contains_eq_mem, decide_eq_false_iff_not] at h5
      exact absurd hl h5
    · exact .inr (.inl h5)
    · exact .inr (.inr h5)

/-- A set that with an operation has those on which it hangs. -/
def Closed (ops : Array Oper) (A : Nat → Prop) : Prop := ∀ i o, ops[i]? = some o → A i → ∀ e ∈ o.after, Region.binds .any e = true → A e.on

theorem closed_bef {M : List Nat} (hr : regionOK ops M = true) {A : Nat → Prop} (hA : Closed ops A) : ∀ i, i < ops.size → (∀ o, ops[i]? = some o → ∀ e ∈ o.after, Region.binds .any e = true → A e.on) → ∀ j, bef M i j = true → A j := by
  intro i
  induction i using Nat.strongRecOn with
  | _ i ih =>
    intro hi hd j hj
    obtain ⟨o, f⟩ := regionOK_fact hr hi
    obtain ⟨e, he, hb, h⟩ := f.mask j hj
    have hAe := hd o f.here e he hb
    have hlt := f.back e he hb
    rcases h with rfl | h
    · exact hAe
    · exact ih e.on hlt (by omega) (fun o' ho' e' he' hb' => hA e.on o' ho' hAe e' he' hb') j h

theorem closed_of {M : List Nat} (hr : regionOK ops M = true) {A : Nat → Prop} (hA : Closed ops A) {i : Nat} (hi : i < ops.size) (h : A i) {j : Nat} (hj : bef M i j = true) : A j :=
  closed_bef hr hA i hi (fun o ho e he hb => hA i o ho h e he hb) j hj

/-! ### Frames of which only some slots are known -/
def restrictS (F : HFrame) : List Tmp → T HV
  | [] => .e
  | t :: ts => (restrictS F ts).set t (F.get t)
def restrictF (F : HFrame) (ts : List Tmp) : HFrame := { F with slots := restrictS F ts }

theorem restrictS_get (F : HFrame) : ∀ (ts : List Tmp) (t : Tmp), (restrictS F ts).get t = if t ∈ ts then some (F.get t) else none
  | [], t => by simp [restrictS]
  | x :: ts, t => by
    rw [restrictS, T.get_set, restrictS_get F ts t]
    by_cases e : t = x
    · subst e; simp
    · simp [e]

theorem restrictF_eval (F : HFrame) {o : Oper} {x : Operand} (hx : x ∈ o.op.operands) : (restrictF F (o.looksAt ops)).eval x = F.eval x := by
  cases x with
  | tmp t =>
    have : t ∈ o.looksAt ops := List.mem_append_left _ (List.mem_filterMap.2 ⟨.tmp t, by simpa using hx, rfl⟩)
    have e : (restrictF F (o.looksAt ops)).get t = F.get t := by
      simp only [HFrame.get, restrictF, restrictS_get, this, if_true, Option.getD_some]
    show (if t < F.nt then (restrictF F (o.looksAt ops)).get t else .any) = if t < F.nt then F.get t else .any
    rw [e]
  | const v => rfl
  | global g => rfl
  | func f => rfl

theorem restrictF_wanted (F : HFrame) {o : Oper} : wantedH ops o (restrictF F (o.looksAt ops)) = wantedH ops o F := by
  unfold wantedH
  split
  · rfl
  · rename_i j want hg
    split
    · rfl
    · rename_i d hd
      have : d ∈ o.looksAt ops := by
        unfold Oper.looksAt
        apply List.mem_append_right
        rw [hg]
        simp [hd]
      have e : (restrictF F (o.looksAt ops)).get d = F.get d := by
        simp only [HFrame.get, restrictF, restrictS_get, this, if_true, Option.getD_some]
      rw [e]
      rfl

/-! ### What is asked -/
/-- The operation, run where the block b has no name yet, makes that block. -/
def LateOK (P : Program) (o : Oper) (F : HFrame) (σ : Store) (v : HV) (b : Nat) : Prop :=
  ∀ (ρ : Ren) (w : World) (a : Act), Rel ρ σ w → SlotsRel ρ F a.tmps → ρ b = none →
    ∃ v' w' L, (execOp a.eval o).run P w = .ok (.value v') w' ∧ VRel (ρ.add b L) v v' ∧ Rel (ρ.add b L) σ w' ∧ Fr 0 0 ρ (ρ.add b L) w w'

/-- A block that has no name yet. -/
structure Ghost (σ σ' : Store) (b : Nat) : Prop where
  eq : b = σ.next
  lt : σ.next < σ'.next
  rel : ∀ (ρ : Ren) (w : World), Rel ρ σ w → Rel ρ σ' w

/-- What was walked early: the operation, what it gave, what it saw, and the block that it is to make. -/
abbrev Float := Nat × HV × HFrame × Option Nat

def stayOne (P : Program) (ops : Array Oper) (σ : Store) (p : Float) : Prop :=
  ∃ o, ops[p.1]? = some o ∧ match p.2.2.2 with
    | none => evalOp P o p.2.2.1 σ = .val p.2.1 σ
    | some b => LateOK P o (restrictF p.2.2.1 (o.looksAt ops)) σ p.2.1 b

def stays (P : Program) (ops : Array Oper) (M : List Nat) (i : Nat) (fl : List Float) (σ : Store) : Prop :=
  ∀ p ∈ fl, bef M i p.1 = true ∨ stayOne P ops σ p

/-- One walk, in the order of the list (each operation that sees no effect as early as it can come): what an effect leaves is what those that may come later see. 'frB': what is known of the temporaries where the region panics. -/
def HDraw (P : Program) (ops : Array Oper) (X Y : Nat → Bool) (M : List Nat) (frB : HFrame) (Q : HExit → HFrame → Store → Prop) : List Nat → HFrame → Store → List Float → Prop
  | [], fr, σ, _ => Q .normal fr σ
  | i :: rest, fr, σ, fl => match ops[i]? with
    | none => False
    | some o => match wantedH ops o fr with
      | none => False
      | some false => HDraw P ops X Y M frB Q rest (fr.put o.dst (.tuple [])) σ fl
      | some true => if X i then HStep P (fun v σ' => stays P ops M i fl σ' ∧ HDraw P ops X Y M frB Q rest (fr.put o.dst v) σ' fl) (fun v σ' => Q (.panic v) frB σ') σ (evalOp P o fr σ)
        else if Y i then ∃ v σ' b, Ghost σ σ' b ∧ LateOK P o (restrictF fr (o.looksAt ops)) σ' v b ∧ (∀ p ∈ fl, stayOne P ops σ' p) ∧ HDraw P ops X Y M frB Q rest (fr.put o.dst v) σ' ((i, v, fr, some b) :: fl)
        else ∃ v, evalOp P o fr σ = .val v σ ∧ HDraw P ops X Y M frB Q rest (fr.put o.dst v) σ ((i, v, fr, none) :: fl)

/-- The temporaries in the run: those of the operations that have run, and the others as they were. -/
structure SlotsOf (ρ : Ren) (ops : Array Oper) (A : Nat → Prop) (V : Nat → HV) (fr0 : HFrame) (tmps : Array Value) : Prop where
  size : tmps.size = fr0.nt
  gl : ∀ g, fr0.gl.contains g = true → ∃ tot, ρ g = some ⟨g, 0, tot⟩
  inn : ∀ t, t < fr0.nt → ∀ i, A i → dstOf ops i = some t → VRel ρ (V i) (tmps.getD t undef)
  out : ∀ t, t < fr0.nt → (∀ i, A i → dstOf ops i ≠ some t) → VRel ρ (fr0.get t) (tmps.getD t undef)

/-- What an operation sees where it comes. -/
def Sees (ops : Array Oper) (M : List Nat) (V : Nat → HV) (fr0 : HFrame) (i : Nat) (o : Oper) (F : HFrame) : Prop :=
  F.nt = fr0.nt ∧ F.gl = fr0.gl ∧ ∀ t ∈ o.looksAt ops, (∀ w, w < ops.size → dstOf ops w = some t → bef M i w = true → F.get t = V w) ∧
    ((∀ w, w < ops.size → dstOf ops w = some t → bef M i w = false) → F.get t = fr0.get t)

structure DInv (P : Program) (ops : Array Oper) (X Y : Nat → Bool) (M : List Nat) (frB : HFrame) (Q : HExit → HFrame → Store → Prop) (fr0 : HFrame) (A : Nat → Prop) (E : List Nat) (lx : Option Nat) (rest : List Nat) (fr : HFrame) (σ : Store)
    (fl : List Float) (V : Nat → HV) : Prop where
  draw : HDraw P ops X Y M frB Q rest fr σ fl
  plan : planB ops X M rest E lx = true
  lt : ∀ i ∈ E, i < ops.size
  closed : Closed ops (· ∈ E)
  sub : ∀ i, A i → i ∈ E
  effects : ∀ i ∈ E, X i = true → A i
  nt : fr.nt = fr0.nt
  gl : fr.gl = fr0.gl
  inn : ∀ i ∈ E, ∀ t, dstOf ops i = some t → fr.get t = V i
  out : ∀ t, (∀ i ∈ E, dstOf ops i ≠ some t) → fr.get t = fr0.get t
  late : ∀ i ∈ E, ¬ A i → ∃ F o, ops[i]? = some o ∧ Sees ops M V fr0 i o F ∧
    ((wantedH ops o F = some false ∧ V i = .tuple []) ∨ (wantedH ops o F = some true ∧ ∃ g, (i, V i, F, g) ∈ fl ∧ stayOne P ops σ (i, V i, F, g)))

/-- The frame of the walk is what the next operation of the list is to see. -/
theorem sees_now {M : List Nat} (hr : regionOK ops M = true) {E : List Nat} (hE : Closed ops (· ∈ E)) (hlt : ∀ i ∈ E, i < ops.size) {V : Nat → HV} {fr0 fr : HFrame} (hnt : fr.nt = fr0.nt) (hgl : fr.gl = fr0.gl)
    (hin : ∀ i ∈ E, ∀ t, dstOf ops i = some t → fr.get t = V i) (hout : ∀ t, (∀ i ∈ E, dstOf ops i ≠ some t) → fr.get t = fr0.get t) {i : Nat} (hi : i < ops.size) (hiE : i ∉ E) {o : Oper} (ho : ops[i]? = some o)
    (hd : ∀ e ∈ o.after, Region.binds .any e = true → e.on ∈ E) : Sees ops M V fr0 i o fr := by
  obtain ⟨o', f⟩ := regionOK_fact hr hi
  have : o' = o := by have := f.here; rw [ho] at this; cases this; rfl
  subst this
  have hb : ∀ w, bef M i w = true → w ∈ E := fun w hw => closed_bef hr hE i hi (fun o'' ho'' => by rw [ho] at ho''; cases ho''; exact hd) w hw
  refine ⟨hnt, hgl, fun t ht => ⟨fun w hw hdw hbw => hin w (hb w hbw) t hdw, fun hno => hout t fun w hw hdw => ?_⟩⟩
  have hwlt := hlt w hw
  rcases f.ordered w t hwlt hdw ht with rfl | h | h
  · exact hiE hw
  · rw [hno w hwlt hdw] at h; cases h
  · exact hiE (closed_of hr hE hwlt hw h)

theorem Sees.congr {M : List Nat} {V V' : Nat → HV} {fr0 F : HFrame} {i : Nat} {o : Oper} (h : Sees ops M V fr0 i o F) (hv : ∀ w, bef M i w = true → V' w = V w) : Sees ops M V' fr0 i o F :=
  ⟨h.1, h.2.1, fun t ht => ⟨fun w hw hd hb => by rw [hv w hb]; exact (h.2.2 t ht).1 w hw hd hb, (h.2.2 t ht).2⟩⟩

theorem dstOf_eq {i : Nat} {o : Oper} (h : ops[i]? = some o) : dstOf ops i = o.dst := by simp [dstOf, h]

theorem put_get (fr : HFrame) (d : Option Tmp) (v : HV) (t : Tmp) : (fr.put d v).get t = if d = some t then v else fr.get t := by
  cases d with
  | none => simp [HFrame.put]
  | some d =>
    simp only [HFrame.put, HFrame.get, T.get_set, Option.some.injEq]
    by_cases e : t = d
    · subst e; simp
    · rw [if_neg e, if_neg (Ne.symm e)]

theorem put_nt (fr : HFrame) (d : Option Tmp) (v : HV) : (fr.put d v).nt = fr.nt := by cases d <;> rfl
theorem put_gl (fr : HFrame) (d : Option Tmp) (v : HV) : (fr.put d v).gl = fr.gl := by cases d <;> rfl

/-- One operation more in the walk. -/
theorem walk_put {M : List Nat} (hr : regionOK ops M = true) {E : List Nat} (hlt : ∀ i ∈ E, i < ops.size) {V : Nat → HV} {fr0 fr : HFrame}
    (hin : ∀ i ∈ E, ∀ t, dstOf ops i = some t → fr.get t = V i) (hout : ∀ t, (∀ i ∈ E, dstOf ops i ≠ some t) → fr.get t = fr0.get t) {i : Nat} (hi : i < ops.size) (hiE : i ∉ E) {o : Oper} (ho : ops[i]? = some o) (v : HV) :
    (∀ j ∈ i :: E, ∀ t, dstOf ops j = some t → (fr.put o.dst v).get t = (fun k => if k = i then v else V k) j) ∧ (∀ t, (∀ j ∈ i :: E, dstOf ops j ≠ some t) → (fr.put o.dst v).get t = fr0.get t) := by
  obtain ⟨o', f⟩ := regionOK_fact hr hi
  have : o' = o := by have := f.here; rw [ho] at this; cases this; rfl
  subst this
  refine ⟨fun j hj t hd => ?_, fun t hno => ?_⟩
  · simp only
    rw [put_get]
    rcases List.mem_cons.1 hj with rfl | hj
    · rw [dstOf_eq ho] at hd
      rw [if_pos hd, if_pos rfl]
    · have hne : j ≠ i := fun e => hiE (e ▸ hj)
      rw [if_neg hne]
      by_cases e : o'.dst = some t
      · exact absurd (f.own j t (hlt j hj) hd e) hne
      · rw [if_neg e]; exact hin j hj t hd
  · rw [put_get]
    have h1 := hno i (List.mem_cons_self ..)
    rw [dstOf_eq ho] at h1
    rw [if_neg h1]
    exact hout t fun j hj => hno j (List.mem_cons_of_mem _ hj)

theorem closed_cons {E : List Nat} (hE : Closed ops (· ∈ E)) {i : Nat} {o : Oper} (ho : ops[i]? = some o) (hd : ∀ e ∈ o.after, Region.binds .any e = true → e.on ∈ E) : Closed ops (· ∈ i :: E) := by
  intro j o' ho' hj e he hb
  rcases List.mem_cons.1 hj with rfl | hj
  · rw [ho] at ho'; cases ho'
    exact List.mem_cons_of_mem _ (hd e he hb)
  · exact List.mem_cons_of_mem _ (hE j o' ho' hj e he hb)

theorem plan_cons {X : Nat → Bool} {M : List Nat} {i : Nat} {rest E : List Nat} {lx : Option Nat} (h : planB ops X M (i :: rest) E lx = true) :
    i < ops.size ∧ i ∉ E ∧ (∃ o, ops[i]? = some o ∧ ∀ e ∈ o.after, Region.binds .any e = true → e.on ∈ E) ∧ (∀ x, lx = some x → bef M i x = true) ∧ planB ops X M rest (i :: E) (if X i then some i else lx) = true := by
  simp only [planB, Bool.and_eq_true, decide_eq_true_eq, Bool.not_eq_true'] at h
  obtain ⟨⟨⟨⟨h1, h2⟩, h3⟩, h4⟩, h5⟩ := h
  refine ⟨h1, by simpa using h2, ?_, ?_, h5⟩
  · split at h3
    · rename_i o ho
      refine ⟨o, ho, fun e he hb => ?_⟩
      rw [List.all_eq_true] at h3
      have := h3 e (by simpa using he)
      rw [hb] at this
      simpa using this
    · cases h3
  · rintro x rfl
    exact h4

/-- What stands behind the head of the list hangs on an effect that has not come. -/
theorem plan_behind {X : Nat → Bool} {M : List Nat} : ∀ (rest E : List Nat) (x : Nat), planB ops X M rest E (some x) = true → ∀ A : Nat → Prop, (∀ i, A i → i ∉ rest) → ¬ A x → ∀ i ∈ rest, ∃ y, ¬ A y ∧ bef M i y = true
  | [], _, _, _, _, _, _, _, hi => by cases hi
  | j :: rest, E, x, h, A, hA, hx, i, hi => by
    obtain ⟨_, _, _, h4, h5⟩ := plan_cons h
    rcases List.mem_cons.1 hi with rfl | hi
    · exact ⟨x, hx, h4 x rfl⟩
    · cases hX : X j with
      | true =>
        rw [hX] at h5
        exact plan_behind rest _ j h5 A (fun k hk hm => hA k hk (List.mem_cons_of_mem _ hm)) (fun hj => hA j hj (List.mem_cons_self ..)) i hi
      | false =>
        rw [hX] at h5
        exact plan_behind rest _ x h5 A (fun k hk hm => hA k hk (List.mem_cons_of_mem _ hm)) hx i hi

theorem plan_out {X : Nat → Bool} {M : List Nat} : ∀ (rest E : List Nat) (lx : Option Nat), planB ops X M rest E lx = true → (∀ i ∈ rest, i < ops.size ∧ i ∉ E) ∧ ∀ i, i < ops.size → i ∈ E ∨ i ∈ rest
  | [], E, lx, h => by
    simp only [planB, List.all_eq_true, List.mem_range] at h
    exact ⟨fun _ hi => (by cases hi), fun i hi => .inl (by simpa using h i hi)⟩
  | j :: rest, E, lx, h => by
    obtain ⟨h1, h2, _, _, h5⟩ := plan_cons h
    obtain ⟨h6, h7⟩ := plan_out rest _ _ h5
    refine ⟨fun i hi => ?_, fun i hi => ?_⟩
    · rcases List.mem_cons.1 hi with rfl | hi
      · exact ⟨h1, h2⟩
      · exact ⟨(h6 i hi).1, fun he => (h6 i hi).2 (List.mem_cons_of_mem _ he)⟩
    · rcases h7 i hi with h | h
      · rcases List.mem_cons.1 h with rfl | h
        · exact .inr (List.mem_cons_self ..)
        · exact .inl h
      · exact .inr (List.mem_cons_of_mem _ h)

/-- What is known of the blocks that have no name yet. -/
structure GInv (N₀ : Nat) (ρ : Ren) (A : Nat → Prop) (fl : List Float) (σ : Store) : Prop where
  from_ : ∀ p ∈ fl, ∀ b, p.2.2.2 = some b → N₀ ≤ b
  lt : ∀ p ∈ fl, ∀ b, p.2.2.2 = some b → b < σ.next
  free : ∀ p ∈ fl, ∀ b, p.2.2.2 = some b → ¬ A p.1 → ρ b = none
  once : ∀ p ∈ fl, ∀ q ∈ fl, ∀ b, p.2.2.2 = some b → q.2.2.2 = some b → p.1 = q.1

theorem Fr.zero {N N' : Nat} {ρ ρ' : Ren} {w w' : World} (h : Fr N N' ρ ρ' w w') : Fr 0 0 ρ ρ' w w' :=
  ⟨h.sub, h.size, h.keep, h.shape, h.new, h.tape, h.os, h.output, Nat.le_refl _, fun b hb => by omega⟩

theorem Link.late {N₀ N : Nat} {ρ₀ ρ : Ren} {w₀ w w' : World} {ds ds' : List Deferred} {b : Nat} {L : Loc} (h : Link N₀ N ρ₀ ρ w₀ w ds ds') (k : Fr 0 0 ρ (ρ.add b L) w w') (hb : N₀ ≤ b) : Link N₀ N ρ₀ (ρ.add b L) w₀ w' ds ds' := by
  have h0 : Link 0 0 ρ₀ ρ w₀ w ds ds' := ⟨h.fr.zero, h.marks⟩
  have h1 : Link 0 0 ρ₀ (ρ.add b L) w₀ w' ds ds' := h0.trans (.of_fr k)
  have f := h1.fr
  exact ⟨⟨f.sub, f.size, f.keep, f.shape, f.new, f.tape, f.os, f.output, h.fr.le, fun b' hb' hn => by
    rw [Ren.add_ne _ _ (by omega)]; exact h.fr.fresh b' hb' hn⟩, h1.marks⟩

theorem Link.up {N₀ N N' : Nat} {ρ₀ ρ : Ren} {w₀ w : World} {ds ds' : List Deferred} (h : Link N₀ N ρ₀ ρ w₀ w ds ds') (hle : N ≤ N') : Link N₀ N' ρ₀ ρ w₀ w ds ds' :=
  ⟨⟨h.fr.sub, h.fr.size, h.fr.keep, h.fr.shape, h.fr.new, h.fr.tape, h.fr.os, h.fr.output, Nat.le_trans h.fr.le hle, h.fr.fresh⟩, h.marks⟩

end
end Go.HI

/- Regions that draw their order: one walk is enough. -/
namespace Go.HI
noncomputable section

variable {P : Program} {ops : Array Oper} {X Y : Nat → Bool} {M : List Nat} {frB fr0 : HFrame} {Q : HExit → HFrame → Store → Prop}

/-- The walk goes on past all that sees no effect. -/
theorem DInv.norm (hr : regionOK ops M = true) {A : Nat → Prop} {N₀ : Nat} {ρ : Ren} {w : World} : ∀ (rest E : List Nat) (lx : Option Nat) (fr : HFrame) (σ : Store) (fl : List Float) (V : Nat → HV), DInv P ops X Y M frB Q fr0 A E lx rest fr σ fl V →
    Rel ρ σ w → GInv N₀ ρ A fl σ → N₀ ≤ σ.next →
    ∃ E' lx' rest' fr' σ' fl' V', DInv P ops X Y M frB Q fr0 A E' lx' rest' fr' σ' fl' V' ∧ (rest' = [] ∨ ∃ x l, rest' = x :: l ∧ X x = true) ∧ (∀ i, i ∈ E → V' i = V i) ∧ Rel ρ σ' w ∧ GInv N₀ ρ A fl' σ' ∧ σ.next ≤ σ'.next
  | [], E, lx, fr, σ, fl, V, h, hR, hG, hN => ⟨E, lx, [], fr, σ, fl, V, h, .inl rfl, fun _ _ => rfl, hR, hG, Nat.le_refl _⟩
  | i :: rest, E, lx, fr, σ, fl, V, h, hR, hG, hN => by
    cases hX : X i with
    | true => exact ⟨E, lx, i :: rest, fr, σ, fl, V, h, .inr ⟨i, rest, rfl, hX⟩, fun _ _ => rfl, hR, hG, Nat.le_refl _⟩
    | false =>
      obtain ⟨h1, h2, ⟨o, ho, h3⟩, h4, h5⟩ := plan_cons h.plan
      have hsees := sees_now hr h.closed h.lt h.nt h.gl h.inn h.out h1 h2 ho h3
      have hdraw := h.draw
      rw [HDraw, ho] at hdraw
      simp only at hdraw
      have hbE : ∀ j ∈ E, ∀ w, bef M j w = true → w ≠ i := fun j hj w hw e => h2 (e ▸ closed_of hr h.closed (h.lt j hj) hj hw)
      have hbi : ∀ w, bef M i w = true → w ≠ i := fun w hw e => h2 (e ▸ closed_bef hr h.closed i h1 (fun o' ho' => by rw [ho] at ho'; cases ho'; exact h3) w hw)
      have step : ∀ (v : HV) (σ1 : Store) (fl' : List Float), (∀ p ∈ fl, p ∈ fl') → (∀ p ∈ fl, stayOne P ops σ p → stayOne P ops σ1 p) → HDraw P ops X Y M frB Q rest (fr.put o.dst v) σ1 fl' →
          ((wantedH ops o fr = some false ∧ v = .tuple []) ∨ (wantedH ops o fr = some true ∧ ∃ g, (i, v, fr, g) ∈ fl' ∧ stayOne P ops σ1 (i, v, fr, g))) →
          DInv P ops X Y M frB Q fr0 A (i :: E) lx rest (fr.put o.dst v) σ1 fl' (fun k => if k = i then v else V k) := by
        intro v σ1 fl' hfl hst hdr hv
        obtain ⟨w1, w2⟩ := walk_put hr h.lt h.inn h.out h1 h2 ho v
        rw [hX] at h5
        refine ⟨hdr, h5, ?_, closed_cons h.closed ho h3, fun j hj => List.mem_cons_of_mem _ (h.sub j hj), ?_, by rw [put_nt]; exact h.nt, by rw [put_gl]; exact h.gl, w1, w2, ?_⟩
        · intro j hj
          rcases List.mem_cons.1 hj with rfl | hj
          · exact h1
          · exact h.lt j hj
        · intro j hj hXj
          rcases List.mem_cons.1 hj with rfl | hj
          · rw [hX] at hXj; cases hXj
          · exact h.effects j hj hXj
        · intro j hj hA
          rcases List.mem_cons.1 hj with rfl | hj
          · refine ⟨fr, o, ho, hsees.congr fun w hw => by rw [if_neg (hbi w hw)], ?_⟩
            simp only [if_true]
            exact hv
          · obtain ⟨F, o', ho', hs, hc⟩ := h.late j hj hA
            have hne : j ≠ i := fun e => h2 (e ▸ hj)
            refine ⟨F, o', ho', hs.congr fun w hw => by rw [if_neg (hbE j hj w hw)], ?_⟩
            simp only [if_neg hne]
            rcases hc with hc | ⟨c1, g, c2, c3⟩
            · exact .inl hc
            · exact .inr ⟨c1, g, hfl _ c2, hst _ c2 c3⟩
      have fin : ∀ (v : HV) (σ1 : Store) (fl' : List Float), DInv P ops X Y M frB Q fr0 A (i :: E) lx rest (fr.put o.dst v) σ1 fl' (fun k => if k = i then v else V k) → Rel ρ σ1 w → GInv N₀ ρ A fl' σ1 → σ.next ≤ σ1.next →
          ∃ E' lx' rest' fr' σ' fl' V', DInv P ops X Y M frB Q fr0 A E' lx' rest' fr' σ' fl' V' ∧ (rest' = [] ∨ ∃ x l, rest' = x :: l ∧ X x = true) ∧ (∀ i, i ∈ E → V' i = V i) ∧ Rel ρ σ' w ∧ GInv N₀ ρ A fl' σ' ∧ σ.next ≤ σ'.next := by
        intro v σ1 fl' hd hR1 hG1 hle
        obtain ⟨E', lx', rest', fr', σ', fl'', V', hd', hx, hV, hR', hG', hN'⟩ := DInv.norm hr rest _ _ _ _ _ _ hd hR1 hG1 (Nat.le_trans hN hle)
        refine ⟨E', lx', rest', fr', σ', fl'', V', hd', hx, fun j hj => ?_, hR', hG', Nat.le_trans hle hN'⟩
        rw [hV j (List.mem_cons_of_mem _ hj)]
        have hne : j ≠ i := fun e => h2 (e ▸ hj)
        simp [hne]
      cases hw : wantedH ops o fr with
      | none => rw [hw] at hdraw; exact hdraw.elim
      | some b =>
        rw [hw] at hdraw
        cases b with
        | false => exact fin _ σ _ (step _ σ fl (fun p hp => hp) (fun _ _ h => h) hdraw (.inl ⟨hw, rfl⟩)) hR hG (Nat.le_refl _)
        | true =>
          simp only [hX, Bool.false_eq_true, if_false] at hdraw
          split at hdraw
          · obtain ⟨v, σ1, gb, hg, hlate, hstay, hdr⟩ := hdraw
            refine fin _ σ1 _ (step v σ1 _ (fun p hp => List.mem_cons_of_mem _ hp) (fun p hp _ => hstay p hp) hdr (.inr ⟨hw, some gb, List.mem_cons_self .., ⟨o, ho, hlate⟩⟩)) (hg.rel ρ w hR) ?_ (Nat.le_of_lt hg.lt)
            refine ⟨?_, ?_, ?_, ?_⟩
            · intro p hp b hb
              rcases List.mem_cons.1 hp with rfl | hp
              · cases hb; rw [hg.eq]; exact hN
              · exact hG.from_ p hp b hb
            · intro p hp b hb
              rcases List.mem_cons.1 hp with rfl | hp
              · cases hb; rw [hg.eq]; exact hg.lt
              · exact Nat.lt_trans (hG.lt p hp b hb) hg.lt
            · intro p hp b hb hA
              rcases List.mem_cons.1 hp with rfl | hp
              · cases hb; rw [hg.eq]; exact hR.none_next
              · exact hG.free p hp b hb hA
            · intro p hp q hq b hb hb'
              rcases List.mem_cons.1 hp with rfl | hp
              · rcases List.mem_cons.1 hq with rfl | hq
                · rfl
                · cases hb
                  have := hG.lt q hq _ hb'
                  rw [hg.eq] at this
                  omega
              · rcases List.mem_cons.1 hq with rfl | hq
                · cases hb'
                  have := hG.lt p hp _ hb
                  rw [hg.eq] at this
                  omega
                · exact hG.once p hp q hq b hb hb'
          · obtain ⟨v, hv, hdr⟩ := hdraw
            refine fin _ σ _ (step v σ _ (fun p hp => List.mem_cons_of_mem _ hp) (fun _ _ h => h) hdr (.inr ⟨hw, none, List.mem_cons_self .., ⟨o, ho, hv⟩⟩)) hR ?_ (Nat.le_refl _)
            refine ⟨?_, ?_, ?_, ?_⟩
            · intro p hp b hb
              rcases List.mem_cons.1 hp with rfl | hp
              · cases hb
              · exact hG.from_ p hp b hb
            · intro p hp b hb
              rcases List.mem_cons.1 hp with rfl | hp
              · cases hb
              · exact hG.lt p hp b hb
            · intro p hp b hb hA
              rcases List.mem_cons.1 hp with rfl | hp
              · cases hb
              · exact hG.free p hp b hb hA
            · intro p hp q hq b hb hb'
              rcases List.mem_cons.1 hp with rfl | hp
              · cases hb
              · rcases List.mem_cons.1 hq with rfl | hq
                · cases hb'
                · exact hG.once p hp q hq b hb hb'

/-- The temporaries, where an operation comes: as it is to see them. -/
theorem SlotsOf.sees (hr : regionOK ops M = true) {ρ : Ren} {A : Nat → Prop} {V : Nat → HV} {tmps : Array Value} (h : SlotsOf ρ ops A V fr0 tmps) (hA : Closed ops A) (hAlt : ∀ i, A i → i < ops.size) {i : Nat} (hi : i < ops.size) (hiA : ¬ A i) {o : Oper} (ho : ops[i]? = some o)
    (hd : ∀ e ∈ o.after, Region.binds .any e = true → A e.on) {F : HFrame} (hF : Sees ops M V fr0 i o F) : SlotsRel ρ (restrictF F (o.looksAt ops)) tmps := by
  obtain ⟨o', f⟩ := regionOK_fact hr hi
  have : o' = o := by have := f.here; rw [ho] at this; cases this; rfl
  subst this
  have hb : ∀ w, bef M i w = true → A w := fun w hw => closed_bef hr hA i hi (fun o'' ho'' => by rw [ho] at ho''; cases ho''; exact hd) w hw
  refine ⟨h.size.trans hF.1.symm, fun t ht => ?_, fun g hg => h.gl g (by rw [← hF.2.1]; exact hg)⟩
  have ht' : t < fr0.nt := by rw [← hF.1]; exact ht
  have hget : (restrictF F (o'.looksAt ops)).get t = if t ∈ o'.looksAt ops then F.get t else .any := by
    show ((restrictS F (o'.looksAt ops)).get t).getD .any = _
    rw [restrictS_get]
    split <;> rfl
  rw [hget]
  by_cases hl : t ∈ o'.looksAt ops
  · rw [if_pos hl]
    obtain ⟨s1, s2⟩ := hF.2.2 t hl
    by_cases hex : ∃ w, w < ops.size ∧ dstOf ops w = some t ∧ bef M i w = true
    · obtain ⟨w, hw, hdw, hbw⟩ := hex
      rw [s1 w hw hdw hbw]
      exact h.inn t ht' w (hb w hbw) hdw
    · rw [s2 (fun w hw hdw => by cases hq : bef M i w with | false => rfl | true => exact absurd ⟨w, hw, hdw, hq⟩ hex)]
      refine h.out t ht' fun w hw hdw => ?_
      have hwlt := hAlt w hw
      rcases f.ordered w t hwlt hdw hl with rfl | h1 | h1
      · exact hiA hw
      · exact hex ⟨w, hwlt, hdw, h1⟩
      · exact hiA (closed_of hr hA hwlt hw h1)
  · rw [if_neg hl]
    simp [VRel]

/-- One operation more in the run. -/
theorem SlotsOf.put (hr : regionOK ops M = true) {ρ ρ' : Ren} (hs : ρ.sub ρ') {A : Nat → Prop} {V V' : Nat → HV} {a : Act} (h : SlotsOf ρ ops A V fr0 a.tmps) (hAlt : ∀ i, A i → i < ops.size) {i : Nat} (hi : i < ops.size) (hiA : ¬ A i) {o : Oper} (ho : ops[i]? = some o)
    (hV : ∀ j, A j → V' j = V j) {v' : Value} (hv : VRel ρ' (V' i) v') : SlotsOf ρ' ops (fun j => j = i ∨ A j) V' fr0 (a.put o.dst v').tmps := by
  obtain ⟨o', f⟩ := regionOK_fact hr hi
  have : o' = o := by have := f.here; rw [ho] at this; cases this; rfl
  subst this
  have get_put : ∀ t, t < fr0.nt → (a.put o'.dst v').tmps.getD t undef = if o'.dst = some t then v' else a.tmps.getD t undef := by
    intro t ht
    cases hd : o'.dst with
    | none => simp [Act.put]
    | some d =>
      simp only [Act.put, Option.some.injEq]
      by_cases e : d = t
      · subst e
        have : d < a.tmps.size := by rw [h.size]; exact ht
        simp [Array.getD_eq_getD_getElem?, this]
      · rw [if_neg e]
        simp [Array.getD_eq_getD_getElem?, Array.getElem?_setIfInBounds_ne e]
  refine ⟨?_, fun g hg => let ⟨tot, ht⟩ := h.gl g hg; ⟨tot, hs _ _ ht⟩, fun t ht j hj hd => ?_, fun t ht hno => ?_⟩
  · cases hd : o'.dst with
    | none => simpa [Act.put] using h.size
    | some d => simpa [Act.put] using h.size
  · rw [get_put t ht]
    rcases hj with rfl | hj
    · rw [dstOf_eq ho] at hd
      rw [if_pos hd]
      exact hv
    · by_cases e : o'.dst = some t
      · have := f.own j t (hAlt j hj) hd e
        subst this
        exact absurd hj hiA
      · rw [if_neg e, hV j hj]
        exact (h.inn t ht j hj hd).mono hs
  · rw [get_put t ht]
    have h1 := hno i (.inl rfl)
    rw [dstOf_eq ho] at h1
    rw [if_neg h1]
    exact (h.out t ht fun j hj => hno j (.inr hj)).mono hs

theorem bool_of {b : Bool} (h : ¬ b = true) : b = false := by cases b <;> simp_all

def unlisted (ops : Array Oper) (listed : Array Bool) : Nat := ((List.range ops.size).filter fun i => !listed.getD i true).length

theorem filter_lt {α : Type} {p q : α → Bool} : ∀ (l : List α), (∀ x ∈ l, q x = true → p x = true) → (∃ x ∈ l, p x = true ∧ q x = false) → (l.filter q).length < (l.filter p).length
  | [], _, h => by obtain ⟨x, hx, _⟩ := h; cases hx
  | a :: l, hpq, h => by
    have hle : ∀ l : List α, (∀ x ∈ l, q x = true → p x = true) → (l.filter q).length ≤ (l.filter p).length := by
      intro l
      induction l with
      | nil => intro _; exact Nat.le_refl _
      | cons b l ih =>
        intro hb
        have := ih fun x hx => hb x (List.mem_cons_of_mem _ hx)
        have hb1 := hb b (List.mem_cons_self ..)
        simp only [List.filter_cons]
        cases hq : q b <;> cases hp : p b <;> simp <;> first | omega | (rw [hq, hp] at hb1; simp at hb1)
    have h1 := hle l fun x hx => hpq x (List.mem_cons_of_mem _ hx)
    have ha := hpq a (List.mem_cons_self ..)
    obtain ⟨x, hx, hp, hq⟩ := h
    simp only [List.filter_cons]
    rcases List.mem_cons.1 hx with rfl | hx
    · simp [hp, hq]; omega
    · have h2 := filter_lt l (fun x hx => hpq x (List.mem_cons_of_mem _ hx)) ⟨x, hx, hp, hq⟩
      cases hqa : q a <;> cases hpa : p a <;> simp <;> first | omega | (rw [hqa, hpa] at ha; simp at ha)

/-- What is known of the temporaries where a region panics. -/
def blurS (F : HFrame) (ops : List Oper) : T HV := ops.foldl (fun s o => match o.dst with | some d => s.set d .any | none => s) F.slots
def blurF (F : HFrame) (ops : Array Oper) : HFrame := { F with slots := blurS F ops.toList }

theorem blur_get (t : Tmp) : ∀ (l : List Oper) (s : T HV), (∃ o ∈ l, o.dst = some t) → ((l.foldl (fun s o => match o.dst with | some d => s.set d .any | none => s) s).get t).getD .any = .any := by
  intro l
  induction l with
  | nil => intro s h; obtain ⟨o, ho, _⟩ := h; cases ho
  | cons o l ih =>
    intro s h
    rw [List.foldl_cons]
    by_cases hl : ∃ o ∈ l, o.dst = some t
    · exact ih _ hl
    · obtain ⟨o', ho', hd⟩ := h
      rcases List.mem_cons.1 ho' with rfl | ho'
      · have key : ∀ (l : List Oper) (s : T HV), (¬ ∃ o ∈ l, o.dst = some t) → (l.foldl (fun s o => match o.dst with | some d => s.set d .any | none => s) s).get t = s.get t := by
          intro l
          induction l with
          | nil => intro s _; rfl
          | cons o l ih =>
            intro s h
            rw [List.foldl_cons, ih _ (fun ⟨o', h1, h2⟩ => h ⟨o', List.mem_cons_of_mem _ h1, h2⟩)]
            split
            · rename_i d hd
              rw [T.get_set, if_neg]
              rintro rfl
              exact h ⟨o, List.mem_cons_self .., hd⟩
            · rfl
        rw [key l _ hl, hd]
        simp [T.get_set]
      · exact absurd ⟨o', ho', hd⟩ hl

theorem blur_keep (t : Tmp) : ∀ (l : List Oper) (s : T HV), (¬ ∃ o ∈ l, o.dst = some t) → (l.foldl (fun s o => match o.dst with | some d => s.set d .any | none => s) s).get t = s.get t := by
  intro l
  induction l with
  | nil => intro s _; rfl
  | cons o l ih =>
    intro s h
    rw [List.foldl_cons, ih _ (fun ⟨o', h1, h2⟩ => h ⟨o', List.mem_cons_of_mem _ h1, h2⟩)]
    split
    · rename_i d hd
      rw [T.get_set, if_neg]
      rintro rfl
      exact h ⟨o, List.mem_cons_self .., hd⟩
    · rfl

theorem SlotsOf.blur {ρ : Ren} {A : Nat → Prop} {V : Nat → HV} {tmps : Array Value} (h : SlotsOf ρ ops A V fr0 tmps) (hAlt : ∀ i, A i → i < ops.size) : SlotsRel ρ (blurF fr0 ops) tmps := by
  refine ⟨h.size, fun t ht => ?_, h.gl⟩
  by_cases hw : ∃ o ∈ ops.toList, o.dst = some t
  · have : (blurF fr0 ops).get t = .any := blur_get t ops.toList fr0.slots hw
    rw [this]
    simp [VRel]
  · have : (blurF fr0 ops).get t = fr0.get t := by
      show ((blurS fr0 ops.toList).get t).getD .any = (fr0.slots.get t).getD .any
      unfold blurS
      rw [blur_keep t ops.toList fr0.slots hw]
    rw [this]
    refine h.out t ht fun i hi hd => hw ?_
    have hlt := hAlt i hi
    exact ⟨ops[i], by simp, by simpa [dstOf, hlt] using hd⟩

theorem restrict_step {o : Oper} {F : HFrame} {σ : Store} {K Kp : HV → Store → Prop} (h : HStep P K Kp σ (evalOp P o F σ)) : HStep P K Kp σ (evalOp P o (restrictF F (o.looksAt ops)) σ) := by
  rw [evalOp_congr (fr' := F) fun x hx => restrictF_eval F hx]
  exact h

theorem SlotsOf.mono {ρ ρ' : Ren} (hs : ρ.sub ρ') {A : Nat → Prop} {V : Nat → HV} {tmps : Array Value} (h : SlotsOf ρ ops A V fr0 tmps) : SlotsOf ρ' ops A V fr0 tmps :=
  ⟨h.size, fun g hg => let ⟨tot, ht⟩ := h.gl g hg; ⟨tot, hs _ _ ht⟩, fun t ht i hi hd => (h.inn t ht i hi hd).mono hs, fun t ht hno => (h.out t ht hno).mono hs⟩

theorem ready_all {listed : Array Bool} (hr : regionOK ops M = true) (hsz : listed.size = ops.size) (h : Region.ready .any ops listed = []) : ∀ i, i < ops.size → listed.getD i false = true := by
  intro i
  induction i using Nat.strongRecOn with
  | _ i ih =>
    intro hi
    obtain ⟨o, f⟩ := regionOK_fact hr hi
    cases hq : listed.getD i false with
    | true => rfl
    | false =>
      have : i ∈ Region.ready .any ops listed := mem_ready.2 ⟨by
        have : i < listed.size := by omega
        simp [Array.getD_eq_getD_getElem?, this] at hq ⊢
        exact hq, o, f.here, fun e he hb => ih e.on (f.back e he hb) (by have := f.back e he hb; omega)⟩
      rw [h] at this
      cases this

/-- The end of a run. -/
theorem draw_end {N₀ : Nat} (hr : regionOK ops M = true) {ρ₀ ρ : Ren} {w₀ w : World} {ds : List Deferred} {A : Nat → Prop} {E : List Nat} {lx : Option Nat} {rest : List Nat} {fr : HFrame} {σ : Store} {fl : List Float} {V : Nat → HV} {a : Act}
    (hall : ∀ i, i < ops.size → A i) (hI : DInv P ops X Y M frB Q fr0 A E lx rest fr σ fl V) (hnorm : rest = [] ∨ ∃ x l, rest = x :: l ∧ X x = true) (hS : SlotsOf ρ ops A V fr0 a.tmps) (hR : Rel ρ σ w) (hl : Link N₀ σ.next ρ₀ ρ w₀ w ds a.defers) :
    HPost N₀ ρ₀ w₀ ds Q .normal a w := by
  rcases hnorm with rfl | ⟨x, l, rfl, _⟩
  · refine ⟨.normal, fr, σ, ρ, rfl, hI.draw, hR, ⟨hS.size.trans hI.nt.symm, fun t ht => ?_, fun g hg => hS.gl g (by rw [← hI.gl]; exact hg)⟩, hl⟩
    have ht' : t < fr0.nt := by rw [← hI.nt]; exact ht
    by_cases hex : ∃ i ∈ E, dstOf ops i = some t
    · obtain ⟨i, hi, hd⟩ := hex
      rw [hI.inn i hi t hd]
      exact hS.inn t ht' i (hall i (hI.lt i hi)) hd
    · rw [hI.out t fun i hi hd => hex ⟨i, hi, hd⟩]
      exact hS.out t ht' fun i hi hd => hex ⟨i, hI.sub i hi, hd⟩
  · obtain ⟨h1, h2, _⟩ := plan_cons hI.plan
    exact absurd (hI.sub x (hall x h1)) h2


/-- THE WALK AND ANY RUN. -/
theorem draw_any (hr : regionOK ops M = true) {rc : Option Nat} {n N₀ : Nat} {ρ₀ : Ren} {w₀ : World} {ds : List Deferred} : ∀ (fuel : Nat) (listed : Array Bool) (A : Nat → Prop) (E : List Nat) (lx : Option Nat) (rest : List Nat) (fr : HFrame) (σ : Store) (fl : List Float) (V : Nat → HV) (ρ : Ren) (a : Act) (w : World),
    listed.size = ops.size → unlisted ops listed ≤ fuel → (∀ i, A i ↔ listed.getD i false = true) → Closed ops A → DInv P ops X Y M (blurF fr0 ops) Q fr0 A E lx rest fr σ fl V → (rest = [] ∨ ∃ x l, rest = x :: l ∧ X x = true) →
    SlotsOf ρ ops A V fr0 a.tmps → Rel ρ σ w → Link N₀ σ.next ρ₀ ρ w₀ w ds a.defers → GInv N₀ ρ A fl σ → wpAnyIn (FW rc) n P .any ops (HPost N₀ ρ₀ w₀ ds Q) fuel listed a w := by
  intro fuel
  induction fuel with
  | zero =>
    intro listed A E lx rest fr σ fl V ρ a w hsz hfuel hAl hA hI hnorm hS hR hl hG
    have hnil : Region.ready .any ops listed = [] := by
      cases hq : Region.ready .any ops listed with
      | nil => rfl
      | cons i l =>
        have hm : i ∈ Region.ready .any ops listed := by rw [hq]; exact List.mem_cons_self ..
        obtain ⟨hun, o, ho, _⟩ := mem_ready.1 hm
        have hi : i < ops.size := (Array.getElem?_eq_some_iff.1 ho).1
        have : i ∈ (List.range ops.size).filter fun i => !listed.getD i true := List.mem_filter.2 ⟨List.mem_range.2 hi, by rw [hun]; rfl⟩
        unfold unlisted at hfuel
        rw [List.eq_nil_of_length_eq_zero (Nat.le_zero.1 hfuel)] at this
        cases this
    exact ⟨hnil, draw_end hr (fun i hi => (hAl i).2 (ready_all hr hsz hnil i hi)) hI hnorm hS hR hl⟩
  | succ fuel ih =>
    intro listed A E lx rest fr σ fl V ρ a w hsz hfuel hAl hA hI hnorm hS hR hl hG
    refine ⟨fun hnil => draw_end hr (fun i hi => (hAl i).2 (ready_all hr hsz hnil i hi)) hI hnorm hS hR hl, fun i hm => ?_⟩
    obtain ⟨hun, o, ho, hdep⟩ := mem_ready.1 hm
    have hi : i < ops.size := (Array.getElem?_eq_some_iff.1 ho).1
    have hisz : i < listed.size := by omega
    have hiA : ¬ A i := by
      rw [hAl]
      simp [Array.getD_eq_getD_getElem?, hisz] at hun ⊢
      exact hun
    have hdepA : ∀ e ∈ o.after, Region.binds .any e = true → A e.on := fun e he hb => (hAl _).2 (hdep e he hb)
    have hbA : ∀ w, bef M i w = true → A w := fun w hw => closed_bef hr hA i hi (fun o'' ho'' => by rw [ho] at ho''; cases ho''; exact hdepA) w hw
    have hAlt : ∀ j, A j → j < ops.size := fun j hj => hI.lt j (hI.sub j hj)
    obtain ⟨o', f⟩ := regionOK_fact hr hi
    have : o' = o := by have := f.here; rw [ho] at this; cases this; rfl
    subst this
    -- the next state's frame
    have hAl' : ∀ j, (j = i ∨ A j) ↔ (listed.setIfInBounds i true).getD j false = true := by
      intro j
      by_cases e : j = i
      · subst e
        simp [Array.getD_eq_getD_getElem?, hisz]
      · simp only [e, false_or, hAl, Array.getD_eq_getD_getElem?, Array.getElem?_setIfInBounds_ne (Ne.symm e)]
    have hfuel' : unlisted ops (listed.setIfInBounds i true) ≤ fuel := by
      have : unlisted ops (listed.setIfInBounds i true) < unlisted ops listed := by
        refine filter_lt _ ?_ ⟨i, List.mem_range.2 hi, by rw [hun]; rfl, by simp [Array.getD_eq_getD_getElem?, hisz]⟩
        intro j _ hj
        by_cases e : j = i
        · subst e; rw [hun]; rfl
        · simpa only [Array.getD_eq_getD_getElem?, Array.getElem?_setIfInBounds_ne (Ne.symm e)] using hj
      omega
    have hsz' : (listed.setIfInBounds i true).size = ops.size := by simpa using hsz
    have hA' : Closed ops (fun j => j = i ∨ A j) := by
      intro j oj hoj hj e he hb
      rcases hj with rfl | hj
      · rw [ho] at hoj; cases hoj; exact .inr (hdepA e he hb)
      · exact .inr (hA j oj hoj hj e he hb)
    have hdef : ∀ (v : Value), (a.put o'.dst v).defers = a.defers := fun v => by cases o'.dst <;> rfl
    by_cases hiE : i ∈ E
    · -- it was walked before
      obtain ⟨F, oF, hoF, hsees, hc⟩ := hI.late i hiE hiA
      have : oF = o' := by rw [ho] at hoF; cases hoF; rfl
      subst this
      have hSF := hS.sees hr hA hAlt hi hiA ho hdepA hsees
      have hI' : DInv P ops X Y M (blurF fr0 ops) Q fr0 (fun j => j = i ∨ A j) E lx rest fr σ fl V :=
        ⟨hI.draw, hI.plan, hI.lt, hI.closed, fun j hj => by rcases hj with rfl | hj; exact hiE; exact hI.sub j hj, fun j hj hX => .inr (hI.effects j hj hX), hI.nt, hI.gl, hI.inn, hI.out, fun j hj hn => hI.late j hj fun h => hn (.inr h)⟩
      unfold wpOpIn
      rw [ho]
      simp only
      have hG' : ∀ ρ', ρ.sub ρ' → (∀ b, b < σ.next → ρ b = none → ρ' b = none) → GInv N₀ ρ' (fun j => j = i ∨ A j) fl σ := fun ρ' _ hf =>
        ⟨hG.from_, hG.lt, fun p hp b hb hn => hf b (hG.lt p hp b hb) (hG.free p hp b hb fun h => hn (.inr h)), hG.once⟩
      rcases hc with ⟨c1, c2⟩ | ⟨c1, g, c2, o2, ho2, c3⟩
      · rw [wantedH_ok hSF ((restrictF_wanted F).trans c1)]
        simp only [Bool.false_eq_true, if_false]
        refine ⟨fun _ _ => trivial, ih _ _ E lx rest fr σ fl V ρ _ w hsz' hfuel' hAl' hA' hI' hnorm (hS.put hr (.refl _) hAlt hi hiA ho (fun _ _ => rfl) (by rw [c2]; exact undef_rel)) hR (by rw [hdef]; exact hl) (hG' ρ (.refl _) fun _ _ h => h)⟩
      · simp only at ho2
        have : o2 = oF := by rw [ho] at ho2; cases ho2; rfl
        subst this
        rw [wantedH_ok hSF ((restrictF_wanted F).trans c1)]
        simp only [if_true]
        cases g with
        | none =>
          simp only at c3
          have hst : HStep P (fun v' σ' => v' = V i ∧ σ' = σ) (fun _ _ => False) σ (evalOp P o2 (restrictF F (o2.looksAt ops)) σ) := restrict_step (by rw [c3]; exact ⟨rfl, rfl⟩)
          refine HStep.wpIn hst f.defer hR hSF ?_ (fun v σ' ρ' v' w' h => h.elim)
          rintro v σ' ρ' v' w' ⟨rfl, rfl⟩ hv hR' hF'
          exact ih _ _ E lx rest fr _ fl V ρ' _ w' hsz' hfuel' hAl' hA' hI' hnorm (hS.put hr hF'.sub hAlt hi hiA ho (fun _ _ => rfl) hv) hR' (by rw [hdef]; exact hl.trans (.of_fr hF')) (hG' ρ' hF'.sub hF'.fresh)
        | some b =>
          simp only at c3
          have hbn : ρ b = none := hG.free _ c2 b rfl hiA
          obtain ⟨v', w', L, hrun, hv, hR', hF'⟩ := c3 ρ w a hR hSF hbn
          refine ⟨fun _ _ => trivial, ?_⟩
          rw [Oper.semAt_eq _ _ _ (by intro c e; have hd := f.defer; rw [e] at hd; cases hd), hrun]
          refine ih _ _ E lx rest fr _ fl V (ρ.add b L) _ w' hsz' hfuel' hAl' hA' hI' hnorm (hS.put hr hF'.sub hAlt hi hiA ho (fun _ _ => rfl) hv) hR' (by rw [hdef]; exact hl.late hF' (hG.from_ _ c2 b rfl)) ?_
          refine ⟨hG.from_, hG.lt, fun p hp b' hb' hn => ?_, hG.once⟩
          have hne : b' ≠ b := fun e => hn (.inl (hG.once p hp _ c2 b (e ▸ hb') rfl))
          rw [Ren.add_ne _ _ hne]
          exact hG.free p hp b' hb' fun h => hn (.inr h)
    · -- it is the effect at the list's head
      obtain ⟨hp1, hp2⟩ := plan_out rest E lx hI.plan
      have hir : i ∈ rest := (hp2 i hi).resolve_left hiE
      rcases hnorm with rfl | ⟨x, l, rfl, hX⟩
      · cases hir
      obtain ⟨hx1, hx2, ⟨ox, hox, hx3⟩, _, hx5⟩ := plan_cons hI.plan
      rw [hX] at hx5
      simp only [if_true] at hx5
      have hxi : i = x := by
        rcases List.mem_cons.1 hir with rfl | hil
        · rfl
        · obtain ⟨y, hy1, hy2⟩ := plan_behind l (x :: E) x hx5 A (fun k hk hm => (plan_out l _ _ hx5).1 k hm |>.2 (List.mem_cons_of_mem _ (hI.sub k hk))) (fun hAx => hx2 (hI.sub x hAx)) i hil
          exact absurd (hbA y hy2) hy1
      subst hxi
      have : ox = o' := by rw [ho] at hox; cases hox; rfl
      subst this
      have hsees := sees_now hr hI.closed hI.lt hI.nt hI.gl hI.inn hI.out hi hiE ho hx3
      have hSF := hS.sees hr hA hAlt hi hiA ho hdepA hsees
      have hdraw := hI.draw
      rw [HDraw, ho] at hdraw
      simp only at hdraw
      have hbE : ∀ j ∈ E, ∀ w, bef M j w = true → w ≠ i := fun j hj w hw e => hiE (e ▸ closed_of hr hI.closed (hI.lt j hj) hj hw)
      have go : ∀ (v : HV) (σ' : Store) (ρ' : Ren) (v' : Value) (w' : World), σ' = σ ∨ stays P ops M i fl σ' → HDraw P ops X Y M (blurF fr0 ops) Q l (fr.put ox.dst v) σ' fl → VRel ρ' v v' → Rel ρ' σ' w' → Fr σ.next σ'.next ρ ρ' w w' →
          wpAnyIn (FW rc) n P .any ops (HPost N₀ ρ₀ w₀ ds Q) fuel (listed.setIfInBounds i true) (a.put ox.dst v') w' := by
        intro v σ' ρ' v' w' hst hdr hv hR' hF'
        obtain ⟨w1, w2⟩ := walk_put hr hI.lt hI.inn hI.out hi hiE ho v
        have hI' : DInv P ops X Y M (blurF fr0 ops) Q fr0 (fun j => j = i ∨ A j) (i :: E) (some i) l (fr.put ox.dst v) σ' fl (fun k => if k = i then v else V k) := by
          refine ⟨hdr, hx5, ?_, closed_cons hI.closed ho hx3, ?_, ?_, by rw [put_nt]; exact hI.nt, by rw [put_gl]; exact hI.gl, w1, w2, ?_⟩
          · intro j hj
            rcases List.mem_cons.1 hj with rfl | hj
            · exact hi
            · exact hI.lt j hj
          · rintro j (rfl | hj)
            · exact List.mem_cons_self ..
            · exact List.mem_cons_of_mem _ (hI.sub j hj)
          · intro j hj hXj
            rcases List.mem_cons.1 hj with rfl | hj
            · exact .inl rfl
            · exact .inr (hI.effects j hj hXj)
          · intro j hj hn
            have hne : j ≠ i := fun e => hn (.inl e)
            have hjE : j ∈ E := (List.mem_cons.1 hj).resolve_left hne
            have hjA : ¬ A j := fun h => hn (.inr h)
            obtain ⟨F, oj, hoj, hs, hc⟩ := hI.late j hjE hjA
            refine ⟨F, oj, hoj, hs.congr fun w hw => by rw [if_neg (hbE j hjE w hw)], ?_⟩
            simp only [if_neg hne]
            rcases hc with hc | ⟨c1, g, c2, c3⟩
            · exact .inl hc
            · rcases hst with rfl | hst
              · exact .inr ⟨c1, g, c2, c3⟩
              · rcases hst _ c2 with hb | he2
                · exact absurd (hbA j hb) hjA
                · exact .inr ⟨c1, g, c2, he2⟩
        have hG' : GInv N₀ ρ' (fun j => j = i ∨ A j) fl σ' := ⟨hG.from_, fun p hp b hb => Nat.lt_of_lt_of_le (hG.lt p hp b hb) hF'.le, fun p hp b hb hn => hF'.fresh b (hG.lt p hp b hb) (hG.free p hp b hb fun h => hn (.inr h)), hG.once⟩
        have hl' := hl.trans (.of_fr hF')
        obtain ⟨E', lx', rest', fr', σ'', fl', V', hd', hn', hV', hR'', hG'', hN'⟩ := DInv.norm hr _ _ _ _ _ _ _ hI' hR' hG' hl'.fr.le
        have hVi : V' i = v := by rw [hV' i (List.mem_cons_self ..)]; simp
        refine ih _ _ E' lx' rest' fr' σ'' fl' V' ρ' _ w' hsz' hfuel' hAl' hA' hd' hn' (hS.put hr hF'.sub hAlt hi hiA ho (fun j hj => ?_) (by rw [hVi]; exact hv)) hR'' (by rw [hdef]; exact hl'.up hN') hG''
        have hjE := hI.sub j hj
        have hne : j ≠ i := fun e => hiA (e ▸ hj)
        rw [hV' j (List.mem_cons_of_mem _ hjE)]
        simp [hne]
      unfold wpOpIn
      rw [ho]
      simp only
      cases hw : wantedH ops ox fr with
      | none => rw [hw] at hdraw; exact hdraw.elim
      | some b =>
        rw [hw] at hdraw
        rw [wantedH_ok hSF ((restrictF_wanted fr).trans hw)]
        cases b with
        | false =>
          simp only [Bool.false_eq_true, if_false]
          exact ⟨fun _ _ => trivial, go _ σ ρ undef w (.inl rfl) hdraw undef_rel hR (.refl _ _)⟩
        | true =>
          simp only [hX, if_true] at hdraw ⊢
          refine HStep.wpIn (restrict_step hdraw) f.defer hR hSF ?_ ?_
          · rintro v σ' ρ' v' w' ⟨h1, h2⟩ hv hR' hF'
            exact go v σ' ρ' v' w' (.inr h1) h2 hv hR' hF'
          · intro v σ' ρ' v' w' hq hv hR' hF'
            exact ⟨.panic v, blurF fr0 ops, σ', ρ', ⟨v', rfl, hv⟩, hq, hR', (hS.mono hF'.sub).blur hAlt, hl.trans (.of_fr hF')⟩

/-- A REGION THAT DRAWS ITS ORDER. -/
theorem HWp.draw {r : Option Nat} {id : Nat} {fr : HFrame} {σ : Store} {L : List Nat} (hm : P.follows .mixedOrders = true) (hr : regionOK ops M = true) (hp : planB ops X M L [] none = true) (h : HDraw P ops X Y M (blurF fr ops) Q L fr σ []) :
    HWp P r (.region id ops true) Q fr σ := fun n ρ w a rc hrc hR hS => by
  refine wpIn_region_any hm ?_
  have hI : DInv P ops X Y M (blurF fr ops) Q fr (fun _ => False) [] none L fr σ [] (fun _ => .any) :=
    ⟨h, hp, fun i hi => (by cases hi), fun i o _ hi => (by cases hi), fun i hi => hi.elim, fun i hi => (by cases hi), rfl, rfl, fun i hi => (by cases hi), fun t _ => rfl, fun i hi => (by cases hi)⟩
  have hR' : Rel ρ σ { w with drawn := w.drawn + 1 } := hR.same rfl
  have hF' : Fr σ.next σ.next ρ ρ w { w with drawn := w.drawn + 1 } := Fr.same ⟨rfl, rfl, rfl, rfl⟩
  have hG : GInv σ.next ρ (fun _ => False) [] σ := ⟨fun p hp => (by cases hp), fun p hp => (by cases hp), fun p hp => (by cases hp), fun p hp => (by cases hp)⟩
  obtain ⟨E', lx', rest', fr', σ', fl', V', hd', hn', hV', hR'', hG', hN'⟩ := DInv.norm hr _ _ _ _ _ _ _ hI hR' hG (Nat.le_refl _)
  have hall : ∀ i, (Array.replicate ops.size false).getD i false = false := fun i => by
    simp only [Array.getD_eq_getD_getElem?, Array.getElem?_replicate]
    split <;> rfl
  refine draw_any hr ops.size (Array.replicate ops.size false) (fun _ => False) E' lx' rest' fr' σ' fl' V' ρ a _ (by simp) ?_ (fun i => by rw [hall i]; simp) (fun i o _ hi => hi.elim) hd' hn' ⟨hS.1, hS.2.2, fun t _ i hi => hi.elim, fun t ht _ => hS.2.1 t ht⟩ hR'' ((Link.of_fr hF').up hN') hG'
  unfold unlisted
  refine Nat.le_trans (List.length_filter_le _ _) ?_
  simp

end
end Go.HI

/- The evaluation of an operation, each kind for itself (the kernel unfolds less). -/
namespace Go.HI
noncomputable section

def mPick (P : Program) (fr : HFrame) (σ : Store) (c : Operand) (a : Operand) (b : Operand) : Option OpRes := match fr.eval c with
    | .bool t => some (.val (if t then fr.eval a else fr.eval b) σ)
    | _ => none

def mAlloc (P : Program) (fr : HFrame) (σ : Store) (elem : TypeId) : Option OpRes := do
    let z ← zeroHV P elem
    return .val (.ptr (some (σ.next, 0))) (σ.push (.cells z.cells none))

def mBox (P : Program) (fr : HFrame) (σ : Store) (u0 : TypeId) (x : Operand) : Option OpRes := if isAny (fr.eval x) then none else
    some (.val (.ptr (some (σ.next, 0))) (σ.push (.cells (fr.eval x).cells none)))

def mBuild (P : Program) (fr : HFrame) (σ : Store) (t : TypeId) (parts : Array (Nat × Operand)) : Option OpRes := do
    let z ← zeroHV P t
    let ps := parts.toList.map fun (i, x) => (i, fr.eval x)
    if !(ps.all fun p => !isAny p.2) then none
    match P.underlying t with
    | some (.struct fields) =>
      if !(fields.toList.all fun f => (P.info? f.type).isSome) then none
      let cells ← fillH (fun i => (fields[i]?).map fun f => (f.offset, szOf P f.type)) z.cells ps
      return .val (.agg cells) σ
    | some (.array _ elem) =>
      if (P.info? elem).isNone then none
      let size := szOf P elem
      let cells ← fillH (fun i => some (i * size, size)) z.cells ps
      return .val (.agg cells) σ
    | _ => none

def mBuildSlice (P : Program) (fr : HFrame) (σ : Store) (t : TypeId) (len : Nat) (parts : Array (Nat × Operand)) : Option OpRes := do
    let .slice elem ← P.underlying t | none
    let size := szOf P elem
    if len * size > 2 ^ 24 then none
    let z ← zeroHV P elem
    if z.cells.length ≠ size then none
    let ps := parts.toList.map fun (i, x) => (i, fr.eval x)
    if !(ps.all fun p => !isAny p.2) then none
    let cells ← fillH (fun i => some (i * size, size)) (List.replicate len z.cells).flatten ps
    return .val (.slice (some (σ.next, 0)) len size) (σ.pushArr cells)

def mLoad (P : Program) (fr : HFrame) (σ : Store) (t : TypeId) (a : Operand) : Option OpRes := match fr.eval a with
    | .ptr (some (b, o)) => do
      if (P.underlying t).isNone ∨ (P.info? t).isNone then none
      let l ← σ.loadN b o (szOf P t)
      if isAggB P t ∨ l.length = 1 then return .val (mkLoad P t l) σ else none
    | _ => none

def mStore (P : Program) (fr : HFrame) (σ : Store) (t : TypeId) (a : Operand) (x : Operand) : Option OpRes := match fr.eval a with
    | .ptr (some (b, o)) => do
      if (P.info? t).isNone ∨ isAny (fr.eval x) ∨ (fr.eval x).cells.length ≠ szOf P t ∨ !(fr.eval x).cells.all scalarHV then none
      let σ' ← σ.storeN b o (fr.eval x).cells
      return .val (.tuple []) σ'
    | _ => none

def mNilCheck (P : Program) (fr : HFrame) (σ : Store) (x : Operand) : Option OpRes := match fr.eval x with
    | .ptr none | .nilIface | .nilFunc => some (.panic .any)
    | .ptr (some a) => some (.val (.ptr (some a)) σ)
    | .func (.func f) a c => some (.val (.func (.func f) a c) σ)
    | .func (.yield l) a c => some (.val (.func (.yield l) a c) σ)
    | _ => none

def mConvert (P : Program) (fr : HFrame) (σ : Store) (src : TypeId) (dst : TypeId) (x : Operand) : Option OpRes := match P.underlying src, P.underlying dst, fr.eval x with
    | some (.slice e), some .string, .slice a n esz =>
      if P.underlying e matches some (.int .u8) then
        match a with
        | none => some (.val (.str []) σ)
        | some (b, o) => do
          if esz ≠ 1 then none
          let l ← σ.loadN b o n
          let s ← bytesOf? l
          return .val (.str s) σ
      else none
    | some .string, some (.slice e), .str s =>
      if P.underlying e matches some (.int .u8) then
        some (.val (.slice (some (σ.next, 0)) s.length 1) (σ.pushArr (s.map fun b => .int .u8 b.toNat)))
      else none
    | _, _, _ => none

def mMakeInterface (P : Program) (fr : HFrame) (σ : Store) (t : TypeId) (x : Operand) : Option OpRes := match P.underlying t with
    | some (.interface _) | none => none
    | some _ => some (.val (.iface t (fr.eval x)) σ)

def mMakeFunc (P : Program) (fr : HFrame) (σ : Store) (fn : Fn) (first : Array Operand) (captured : Array Operand) : Option OpRes := if (fn matches .yield _) then none else some (.val (.func fn (first.toList.map fr.eval) (captured.toList.map fr.eval)) σ)

def mMakeSlice (P : Program) (fr : HFrame) (σ : Store) (t : TypeId) (len : Operand) (cap : Operand) : Option OpRes := do
    let .slice elem ← P.underlying t | none
    let l ← intOf? (fr.eval len)
    let c ← intOf? (fr.eval cap)
    if l < 0 ∨ c < l ∨ c > 2 ^ 40 ∨ P.bytesOf elem * c.toNat > 2 ^ 48 then none
    let z ← zeroHV P elem
    let size := szOf P elem
    if z.cells.length ≠ size then none
    let cells := if size = 1 then List.replicate l.toNat (z.cells.getD 0 .any) else (List.replicate l.toNat z.cells).flatten
    return .val (.slice (some (σ.next, 0)) l.toNat size) (σ.pushArr cells)

def mSlice (P : Program) (fr : HFrame) (σ : Store) (t : TypeId) (x : Operand) (lo : Option Operand) (hi : Option Operand) (mx : Option Operand) : Option OpRes := sliceH P t (fr.eval x) (lo.map fr.eval) (hi.map fr.eval) (mx.map fr.eval) σ

def mFieldAddr (P : Program) (fr : HFrame) (σ : Store) (s : TypeId) (x : Operand) (f : Nat) : Option OpRes := match fr.eval x, P.underlying s with
    | .ptr (some (b, o)), some (.struct fields) => do
      let fd ← fields[f]?
      if szOf P fd.type = 0 then none
      return .val (.ptr (some (b, o + fd.offset))) σ
    | _, _ => none

def mField (P : Program) (fr : HFrame) (σ : Store) (t : TypeId) (x : Operand) (f : Nat) : Option OpRes := match fr.eval x, P.underlying t with
    | .agg cs, some (.struct fields) => do
      let fd ← fields[f]?
      if (P.underlying fd.type).isNone then none
      let v ← if isAggB P fd.type then some (HV.agg ((cs.drop fd.offset).take (szOf P fd.type))) else cs[fd.offset]?
      return .val v σ
    | _, _ => none

def mIndexAddr (P : Program) (fr : HFrame) (σ : Store) (t : TypeId) (x : Operand) (i : Operand) : Option OpRes := do
    let i ← intOf? (fr.eval i)
    match P.underlying t, fr.eval x with
    | some (.slice elem), .slice (some (b, o)) len esz =>
      if 0 ≤ i ∧ i < len then
        if esz = szOf P elem ∧ (P.info? elem).isSome then return .val (.ptr (some (b, o + i.toNat * esz))) σ else none
      else return .panic .any
    | some (.slice _), .slice none _ _ => return .panic .any
    | some (.array len elem), .ptr (some (b, o)) =>
      if 0 ≤ i ∧ i < len ∧ (P.info? elem).isSome then return .val (.ptr (some (b, o + i.toNat * szOf P elem))) σ else none
    | _, _ => none

def mIndex (P : Program) (fr : HFrame) (σ : Store) (t : TypeId) (x : Operand) (i : Operand) : Option OpRes := do
    let i ← intOf? (fr.eval i)
    match P.underlying t, fr.eval x with
    | some .string, .str s =>
      if 0 ≤ i then match s[i.toNat]? with
        | some c => return .val (.int .u8 c.toNat) σ
        | none => return .panic .any
      else return .panic .any
    | some .string, .pad p n =>
      if 0 ≤ i then match p[i.toNat]? with
        | some c => return .val (.int .u8 c.toNat) σ
        | none => if i.toNat < p.length + n then return .val (.int .u8 0) σ else none
      else none
    | some (.array len elem), .agg cs =>
      if 0 ≤ i ∧ i < len ∧ (P.underlying elem).isSome then
        let v ← if isAggB P elem then some (HV.agg ((cs.drop (i.toNat * szOf P elem)).take (szOf P elem))) else cs[i.toNat * szOf P elem]?
        return .val v σ
      else none
    | _, _ => none

def mLookup (P : Program) (fr : HFrame) (σ : Store) (t : TypeId) (m : Operand) (k : Operand) (ok : Bool) : Option OpRes := do
    let .map kt et ← P.underlying t | none
    let z ← zeroHV P et
    if (P.underlying kt).isNone then none
    let r ← match fr.eval m with
      | .map none => if keyOK P kt (fr.eval k) then some none else none
      | .map (some r) => match σ.blks.get r with
        | some (.map es _) => if keyOK P kt (fr.eval k) then (findIx P kt (fr.eval k) es).map fun i => i.bind fun i => (es[i]?).map (·.val) else none
        | some (.omap es) => if keyOK P kt (fr.eval k) then findU P kt (fr.eval k) es else none
        | _ => none
      | _ => none
    match r with
    | some v => return .val (if ok then .tuple [v, .bool true] else v) σ
    | none => return .val (if ok then .tuple [z, .bool false] else z) σ

def mMapUpdate (P : Program) (fr : HFrame) (σ : Store) (t : TypeId) (m : Operand) (k : Operand) (v : Operand) : Option OpRes := do
    let .map kt _ ← P.underlying t | none
    if (P.underlying kt).isNone then none
    match fr.eval m with
    | .map (some r) => match σ.blks.get r with
      | some (.map es clock) => do
        if !keyOK P kt (fr.eval k) then none
        let (es', c') ← updK P kt (fr.eval k) (fr.eval v) clock es
        return .val (.tuple []) { σ with blks := σ.blks.set r (.map es' c') }
      | _ => none
    | _ => none

def mRange (P : Program) (fr : HFrame) (σ : Store) (t : TypeId) (x : Operand) : Option OpRes := match P.underlying t, fr.eval x with
    | some (.map _ _), .map none => some (.val (.ptr (some (σ.next, 0))) (σ.push (.iter none 0 [] 0)))
    | some (.map _ _), .map (some m) => match σ.blks.get m with
      | some (.map _ clock) => some (.val (.ptr (some (σ.next, 0))) (σ.push (.iter (some m) clock [] clock)))
      | _ => none
    | _, _ => none

def mNext (P : Program) (fr : HFrame) (σ : Store) (it : Operand) : Option OpRes := match fr.eval it with
    | .ptr (some (r, 0)) => match σ.blks.get r with
      | some (.iter none _ _ _) => some (.val (.tuple [.bool false]) σ)
      | some (.iter (some m) since seen last) => match σ.blks.get m with
        | some (.map es clock) =>
          if !seen.isEmpty && !es.isEmpty && es.all (fun e => decide (e.born ≥ last)) then none else
          let left := es.filter fun e => !seen.contains e.born
          let old := left.filter fun e => decide (e.born < since)
          let new := left.filter fun e => decide (e.born ≥ since)
          some (.alts ((if old.isEmpty then [(.tuple [.bool false], σ)] else []) ++ (old ++ new).map fun e =>
            (.tuple [.bool true, e.key, e.val], { σ with blks := σ.blks.set r (.iter (some m) since (seen ++ [e.born]) clock) })))
        | _ => none
      | _ => none
    | _ => none

def mEntry (P : Program) (fr : HFrame) (σ : Store) (it : Operand) : Option OpRes := match fr.eval it with
    | .ptr (some (r, 0)) => match σ.blks.get r with
      | some (.iter (some m) _ seen stepped) => match σ.blks.get m with
        | some (.map es clock) => do
          let stamp ← seen.getLast?
          if clock ≠ stepped then none
          let e ← es.find? fun e => e.born == stamp
          return .val (.tuple [e.key, e.val]) σ
        | _ => none
      | _ => none
    | _ => none

def mTypeAssert (P : Program) (fr : HFrame) (σ : Store) (x : Operand) (u1 : TypeId) (asserted : TypeId) (ok : Bool) : Option OpRes := do
    let u ← P.underlying asserted
    match u, fr.eval x with
    | .interface want, .iface t v =>
      let i ← P.info? t
      match Instr.missingMethod want i.methods with
      | none => return .val (if ok then .tuple [.iface t v, .bool true] else .iface t v) σ
      | some _ => match ok, zeroHV P asserted with
        | true, some .nilIface => return .val (.tuple [.nilIface, .bool false]) σ
        | _, _ => none
    | .interface _, .nilIface => match ok, zeroHV P asserted with
      | true, some .nilIface => return .val (.tuple [.nilIface, .bool false]) σ
      | _, _ => none
    | _, .nilIface => do
      let z ← zeroHV P asserted
      if ok then return .val (.tuple [z, .bool false]) σ else none
    | _, .iface t v =>
      if t = asserted then return .val (if ok then .tuple [v, .bool true] else v) σ else do
      let z ← zeroHV P asserted
      if ok then return .val (.tuple [z, .bool false]) σ else none
    | _, _ => none

def mExtract (P : Program) (fr : HFrame) (σ : Store) (x : Operand) (i : Nat) : Option OpRes := match fr.eval x with
    | .tuple vs => (vs[i]?).map fun v => .val v σ
    | _ => none

def mPanic (P : Program) (fr : HFrame) (σ : Store) (x : Operand) : Option OpRes := match fr.eval x with
    | .iface t v => some (.panic (.iface t v))
    | _ => none

def memOpF (P : Program) (o : Oper) (fr : HFrame) (σ : Store) : Option OpRes :=
  match o.op with
  | .move x | .assign x => some (.val (fr.eval x) σ)
  | .pick c a b => mPick P fr σ c a b
  | .alloc elem => mAlloc P fr σ elem
  | .box u0 x => mBox P fr σ u0 x
  | .build t parts => mBuild P fr σ t parts
  | .buildSlice t len parts => mBuildSlice P fr σ t len parts
  | .load t a => mLoad P fr σ t a
  | .store t a x => mStore P fr σ t a x
  | .nilCheck x => mNilCheck P fr σ x
  | .binOp .eql t x y _ => (eqAny P t (fr.eval x) (fr.eval y)).map fun b => .val (.bool b) σ
  | .binOp .neq t x y _ => (eqAny P t (fr.eval x) (fr.eval y)).map fun b => .val (.bool !b) σ
  | .convert src dst x => mConvert P fr σ src dst x
  | .makeInterface t x => mMakeInterface P fr σ t x
  | .makeFunc fn first captured => mMakeFunc P fr σ fn first captured
  | .makeMap _ none => some (.val (.map (some σ.next)) (σ.push (.map [] 0)))
  | .makeSlice t len cap => mMakeSlice P fr σ t len cap
  | .slice t x lo hi mx => mSlice P fr σ t x lo hi mx
  | .fieldAddr s x f => mFieldAddr P fr σ s x f
  | .field t x f => mField P fr σ t x f
  | .indexAddr t x i => mIndexAddr P fr σ t x i
  | .index t x i => mIndex P fr σ t x i
  | .lookup t m k ok => mLookup P fr σ t m k ok
  | .mapUpdate t m k v | .insert t m k v => mMapUpdate P fr σ t m k v
  | .range t x => mRange P fr σ t x
  | .next it false => mNext P fr σ it
  | .entry it => mEntry P fr σ it
  | .typeAssert x u1 asserted ok => mTypeAssert P fr σ x u1 asserted ok
  | .extract x i => mExtract P fr σ x i
  | .call { callee := .value f, args, .. } => some (.call (fr.eval f) (args.toList.map fr.eval))
  | .call { callee := .builtin b, args, argTypes } => builtinH P b argTypes (args.toList.map fr.eval) σ
  | .panic x => mPanic P fr σ x
  | _ => none

theorem memOpF_eq {P : Program} {o : Oper} {fr : HFrame} {σ : Store} : memOpF P o fr σ = memOp P o fr σ := by
  obtain ⟨dst, op, type, pos, after, guard⟩ := o
  cases op
  case binOp op t x y u => cases op <;> rfl
  case makeMap t r => cases r <;> rfl
  case next it b => cases b <;> rfl
  case call c =>
    obtain ⟨callee, args, argTypes⟩ := c
    cases callee <;> rfl
  all_goals rfl

/-- Numbers: the machine's answers, said at once. -/
def fastInt (op : BinOp) (k : IntKind) (a b : Int) : Option HV :=
  match op with
  | .add => some (.int k (k.wrap (a + b)))
  | .sub => some (.int k (k.wrap (a - b)))
  | .mul => some (.int k (k.wrap (a * b)))
  | .and => some (.int k (k.wrap ((BitVec.ofInt k.bits a &&& BitVec.ofInt k.bits b).toNat)))
  | .or => some (.int k (k.wrap ((BitVec.ofInt k.bits a ||| BitVec.ofInt k.bits b).toNat)))
  | .xor => some (.int k (k.wrap ((BitVec.ofInt k.bits a ^^^ BitVec.ofInt k.bits b).toNat)))
  | .eql => some (.bool (a == b))
  | .neq => some (.bool (a != b))
  | .lss => some (.bool (decide (a < b)))
  | .leq => some (.bool (decide (a ≤ b)))
  | .gtr => some (.bool (decide (a > b)))
  | .geq => some (.bool (decide (a ≥ b)))
  | _ => none

def binFast (o : Oper) (fr : HFrame) (σ : Store) : Option OpRes :=
  match o.op with
  | .binOp op _ x y _ => match fr.eval x, fr.eval y with
    | .int k a, .int k' b => if k = k' then (match fastInt op k a b with | some v => some (.val v σ) | none => none) else none
    | _, _ => none
  | _ => none

theorem binFast_ok {P : Program} {o : Oper} {fr : HFrame} {σ : Store} {r : OpRes} (h : binFast o fr σ = some r) : evalOp P o fr σ = r := by
  unfold binFast at h
  split at h
  · rename_i op t x y u ho
    split at h
    · rename_i k a k' b hx hy
      split at h
      · rename_i hk
        subst hk
        have hmem : memOp P o fr σ = none := by
          cases op <;> simp only [memOp, ho]
          · simp only [hx, hy, eqAny, eqNil]
            cases P.underlying t with
            | none => rfl
            | some d => cases d <;> rfl
          · simp only [hx, hy, eqAny, eqNil]
            cases P.underlying t with
            | none => rfl
            | some d => cases d <;> rfl
        have hP : memOpP P o fr σ = none := by
          have : padEq op (fr.eval x) (fr.eval y) = none := by rw [hx]; cases op <;> rfl
          simp only [memOpP, ho, this, Option.map_none]
        unfold evalOp
        rw [hP]
        unfold evalOp0
        simp only
        rw [hmem]
        simp only
        cases op <;> simp only [fastInt, Option.some.injEq, reduceCtorEq] at h <;> subst h <;>
          simp [pureOp, isSelect, ho, allPlain, Op.operands, HV.plain, pureEv, execOp, eqGuard, binOp, Op.intArith, Op.intBits, Op.intCmp, runPure, hx, hy, HV.ofValue, HV.ofScalar, pure, bind, Sem.bind]
      · cases h
    · cases h
  · cases h

def evalOpF (P : Program) (o : Oper) (fr : HFrame) (σ : Store) : OpRes :=
  match binFast o fr σ with
  | some r => r
  | none => match memOpP P o fr σ with
    | some r => r
    | none => match memOpF P o fr σ with
      | some r => r
      | none => pureOp P o fr σ

theorem evalOpF_eq {P : Program} {o : Oper} {fr : HFrame} {σ : Store} : evalOpF P o fr σ = evalOp P o fr σ := by
  unfold evalOpF
  split
  · rename_i r h
    exact (binFast_ok h).symm
  · rw [memOpF_eq]
    unfold evalOp evalOp0
    rfl

end
end Go.HI

/- An evaluator over the abstract heap, for runs without choices; what it finds is so. -/
namespace Go.HI
noncomputable section

variable {P : Program}

/-- Operations that change no memory. -/
def isQuiet (P : Program) : Op → Bool
  | .move _ | .pick .. | .load .. | .nilCheck _ | .binOp .. | .makeInterface .. | .makeFunc .. | .slice .. | .fieldAddr .. | .field .. | .indexAddr .. | .index .. | .lookup .. | .typeAssert .. | .extract .. | .unOp .. | .build .. => true
  | .convert _ dst _ => match P.underlying dst with
    | some (.slice _) | none => false
    | _ => true
  | .call { callee := .builtin .len, .. } => true
  | _ => false

/-- Operations that make one block, and may come early. -/
def isAlloc : Op → Bool
  | .alloc _ | .buildSlice .. | .makeSlice .. => true
  | _ => false

/-- The block is as the operation would make it. -/
def lateB (P : Program) (o : Oper) (F : HFrame) (σ : Store) (v : HV) (b : Nat) : Bool :=
  decide (b < σ.next) && match o.op with
  | .alloc elem => match zeroHV P elem, σ.blks.get b, v with
    | some z, some (.cells c none), .ptr (some (b', 0)) => b' == b && HV.beqs c z.cells
    | _, _, _ => false
  | .buildSlice t len parts => match P.underlying t with
    | some (.slice elem) => match zeroHV P elem with
      | some z =>
        let size := szOf P elem
        let ps := parts.toList.map fun (i, x) => (i, F.eval x)
        !decide (len * size > 2 ^ 24) && decide (z.cells.length = size) && ps.all (fun p => !isAny p.2) &&
        (match fillH (fun i => some (i * size, size)) (List.replicate len z.cells).flatten ps, σ.blks.get b, v with
        | some cells, some (.cells c (some (f, 0, 0))), .slice (some (b', 0)) n e => f == b && b' == b && n == len && e == size && HV.beqs c cells
        | _, _, _ => false)
      | none => false
    | _ => false
  | .makeSlice t len cap => match P.underlying t, intOf? (F.eval len), intOf? (F.eval cap) with
    | some (.slice elem), some l, some c => match zeroHV P elem with
      | some z =>
        decide (0 ≤ l) && decide (l ≤ c) && decide (c ≤ 2 ^ 40) && decide (P.bytesOf elem * c.toNat ≤ 2 ^ 48) && decide (z.cells.length = szOf P elem) &&
        (match σ.blks.get b, v with
        | some (.cells cs (some (f, 0, 0))), .slice (some (b', 0)) n e => f == b && b' == b && n == l.toNat && e == szOf P elem && HV.beqs cs (List.replicate l.toNat z.cells).flatten
        | some (.pad [] m), .slice (some (b', 0)) n 1 => b' == b && n == l.toNat && m == l.toNat && szOf P elem == 1 && HV.beq z (.int .u8 0)
        | _, _ => false)
      | none => false
    | _, _, _ => false
  | _ => false

/-- The masks of a region's operations. -/
def masksOf (ops : Array Oper) : List Nat := ops.toList.foldl (fun M o => M ++ [maskOf M o]) []

/-- An order in which what is quiet comes as early as it can. -/
def eagerGo (X : Nat → Bool) (ops : List (Nat × Oper)) : Nat → List Nat → List Nat
  | 0, _ => []
  | n + 1, E =>
    let ready := ops.filter fun p => !E.contains p.1 && p.2.after.toList.all fun e => !Region.binds .any e || E.contains e.on
    match ready.find? (fun p => !X p.1) with
    | some p => p.1 :: eagerGo X ops n (p.1 :: E)
    | none => match ready with
      | p :: _ => p.1 :: eagerGo X ops n (p.1 :: E)
      | [] => []

def xOf (P : Program) (ops : Array Oper) (i : Nat) : Bool := match ops[i]? with
  | some o => !isQuiet P o.op && !isAlloc o.op
  | none => true

def yOf (ops : Array Oper) (i : Nat) : Bool := match ops[i]? with
  | some o => isAlloc o.op
  | none => false

def eagerOf (P : Program) (ops : Array Oper) : List Nat := eagerGo (xOf P ops) (ops.toList.zipIdx.map fun p => (p.2, p.1)) ops.size []

def drawB (P : Program) (ops : Array Oper) : Bool := regionOK ops (masksOf ops) && planB ops (xOf P ops) (masksOf ops) (eagerOf P ops) [] none

abbrev Out := Option (HExit × HFrame × Store)
abbrev CallOut := Option (HEnd × Store)

structure Ev where
  code : Option Nat → Code → HFrame → Store → Out
  fn : FuncId → List HV → Store → CallOut

def evStep (call : HV → List HV → Store → CallOut) (σ : Store) : OpRes → CallOut
  | .val v σ' => some (.returned v, σ')
  | .alts [(v, σ')] => some (.returned v, σ')
  | .panic v => some (.panicked v, σ)
  | .call fv args => call fv args σ
  | _ => none

def evOps (P : Program) (call : HV → List HV → Store → CallOut) (ops : Array Oper) : List Oper → HFrame → Store → Out
  | [], fr, σ => some (.normal, fr, σ)
  | o :: rest, fr, σ =>
    if isDefer o.op then none else
    match wantedH ops o fr with
    | none => none
    | some false => evOps P call ops rest (fr.put o.dst (.tuple [])) σ
    | some true => match evStep call σ (evalOpF P o fr σ) with
      | some (.returned v, σ') => evOps P call ops rest (fr.put o.dst v) σ'
      | some (.panicked v, σ') => some (.panic v, fr, σ')
      | none => none

def stayB (P : Program) (ops : Array Oper) (σ : Store) (p : Float) : Bool := match ops[p.1]? with
  | some o => match p.2.2.2 with
    | none => isQuiet P o.op && (match evalOpF P o p.2.2.1 σ with | .val v' _ => HV.beq v' p.2.1 | _ => false)
    | some b => lateB P o (restrictF p.2.2.1 (o.looksAt ops)) σ p.2.1 b
  | none => false

def evDraw (P : Program) (call : HV → List HV → Store → CallOut) (ops : Array Oper) (M : List Nat) (frB : HFrame) : List Nat → HFrame → Store → List Float → Out
  | [], fr, σ, _ => some (.normal, fr, σ)
  | i :: rest, fr, σ, fl => match ops[i]? with
    | none => none
    | some o => match wantedH ops o fr with
      | none => none
      | some false => evDraw P call ops M frB rest (fr.put o.dst (.tuple [])) σ fl
      | some true => if isAlloc o.op then match evalOpF P o fr σ with
          | .val v σ' => if lateB P o (restrictF fr (o.looksAt ops)) σ' v σ.next && fl.all (stayB P ops σ') then evDraw P call ops M frB rest (fr.put o.dst v) σ' ((i, v, fr, some σ.next) :: fl) else none
          | _ => none
        else if isQuiet P o.op then match evalOpF P o fr σ with
          | .val v _ => evDraw P call ops M frB rest (fr.put o.dst v) σ ((i, v, fr, none) :: fl)
          | _ => none
        else match evStep call σ (evalOpF P o fr σ) with
          | some (.returned v, σ') => if fl.all (fun p => bef M i p.1 || stayB P ops σ' p) then evDraw P call ops M frB rest (fr.put o.dst v) σ' fl else none
          | some (.panicked v, σ') => some (.panic v, frB, σ')
          | none => none

/-- A call: of a function, or of the loop that stands in wait. -/
def evCall (E : Ev) (B : FuncId → Bool) : HV → List HV → Store → CallOut
  | .func (.func f) first cap, args, σ => if B f then E.fn f (first ++ args ++ cap) σ else none
  | .func (.yield b) [] [], args, σ => match σ.blks.get b with
    | some (.loop _ _ lf ps assign body) => if args.length = ps.size then
        match E.code (some b) assign (putParams ps.toList args lf) σ with
        | some (.normal, fr1, σ1) => match σ1.blks.get b with
          | some (.loop .ready pend1 lf1 ps1 as1 bo1) => match E.code (some b) body fr1 (σ1.put b (.loop .busy pend1 lf1 ps1 as1 bo1)) with
            | some (x, _, σ2) => match jumpOf x, σ2.blks.get b with
              | some j, some (.loop _ _ lf2 ps2 as2 bo2) => some (.returned (.bool j.isNone), σ2.put b (.loop (if j.isNone then .ready else .done) j lf2 ps2 as2 bo2))
              | _, _ => none
            | none => none
          | _ => none
        | _ => none
      else none
    | _ => none
  | _, _, _ => none

def busy : LoopState → Bool
  | .busy => true
  | _ => false

def evCode (P : Program) (B : FuncId → Bool) (E : Ev) (r : Option Nat) : Code → HFrame → Store → Out
  | .skip, fr, σ => some (.normal, fr, σ)
  | .label _, fr, σ => some (.normal, fr, σ)
  | .exit id, fr, σ => some (.exit id, fr, σ)
  | .goto l, fr, σ => some (.goto l, fr, σ)
  | .ret, fr, σ => some (.ret, fr, σ)
  | .seq x y, fr, σ => match E.code r x fr σ with
    | some (.normal, fr1, σ1) => E.code r y fr1 σ1
    | res => res
  | .cond c x y, fr, σ => match fr.eval c with
    | .bool true => E.code r x fr σ
    | .bool false => E.code r y fr σ
    | _ => none
  | .block id c, fr, σ => match E.code r c fr σ with
    | some (.exit i, fr1, σ1) => if i = id then some (.normal, fr1, σ1) else some (.exit i, fr1, σ1)
    | res => res
  | .loop c, fr, σ => match E.code r c fr σ with
    | some (.normal, fr1, σ1) => E.code r (.loop c) fr1 σ1
    | res => res
  | .region _ ops false, fr, σ => evOps P (evCall E B) ops ops.toList fr σ
  | .region _ ops true, fr, σ => if drawB P ops then evDraw P (evCall E B) ops (masksOf ops) (blurF fr ops) (eagerOf P ops) fr σ [] else none
  | .rangeFunc g ps assign body, fr, σ => match r, fr.eval g with
    | none, .func (.func f) first cap => if B f then
        match E.fn f (first ++ [.func (.yield σ.next) [] []] ++ cap) (σ.push (.loop .ready none fr ps assign body)) with
        | some (.returned _, σ2) => match σ2.blks.get σ.next with
          | some (.loop st pend lf ps' as bo) => if busy st then none else match pend with
            | none => some (.normal, fr, σ2.put σ.next (.loop .exhausted none lf ps' as bo))
            | some c => E.code none c fr (σ2.put σ.next (.loop .exhausted (some c) lf ps' as bo))
          | _ => none
        | some (.panicked v, σ2) => some (.panic v, fr, σ2)
        | none => none
      else none
    | _, _ => none
  | _, _, _ => none

abbrev Sums := FuncId → Option (List HV → Store → CallOut)

def evFn (P : Program) (S : Sums) (E : Ev) (f : FuncId) (args : List HV) (σ : Store) : CallOut :=
  match S f with
  | some g => g args σ
  | none => match P.funcs[f]? with
    | none => none
    | some fn => match fn.body with
      | none => none
      | some c => if args.length ≤ fn.ntmps then
          match E.code none c (enterH fn.ntmps σ.globs args) σ with
          | some (.normal, fr, σ') => (resultsH P fn.results.toList fr σ').map fun v => (.returned v, σ')
          | some (.ret, fr, σ') => (resultsH P fn.results.toList fr σ').map fun v => (.returned v, σ')
          | some (.panic v, _, σ') => some (.panicked v, σ')
          | _ => none
        else none

def ev (P : Program) (B : FuncId → Bool) (S : Sums) : Nat → Ev
  | 0 => ⟨fun _ _ _ _ => none, fun _ _ _ => none⟩
  | n + 1 => ⟨evCode P B (ev P B S n), evFn P S (ev P B S n)⟩

/-! ### What it finds is so -/
def CodeOK (P : Program) (code : Option Nat → Code → HFrame → Store → Out) : Prop :=
  ∀ r c fr σ x fr' σ', code r c fr σ = some (x, fr', σ') → ∀ Q : HExit → HFrame → Store → Prop, Q x fr' σ' → HWp P r c Q fr σ
def FnOK (P : Program) (fn : FuncId → List HV → Store → CallOut) : Prop :=
  ∀ f args σ e σ', fn f args σ = some (e, σ') → ∀ R : HEnd → Store → Prop, R e σ' → HCall P f args σ R
def CallOK (P : Program) (call : HV → List HV → Store → CallOut) : Prop :=
  ∀ fv args σ e σ', call fv args σ = some (e, σ') → ∀ R : HEnd → Store → Prop, R e σ' → HCallV P fv args σ R

theorem evStep_ok {call : HV → List HV → Store → CallOut} (hc : CallOK P call) {σ : Store} {res : OpRes} {e : HEnd} {σ' : Store} (h : evStep call σ res = some (e, σ')) {K Kp : HV → Store → Prop}
    (hk : match e with | .returned v => K v σ' | .panicked v => Kp v σ') : HStep P K Kp σ res := by
  unfold evStep at h
  split at h
  · cases h; exact hk
  · cases h
    intro p hp
    simp only [List.mem_singleton] at hp
    subst hp
    exact hk
  · cases h; exact hk
  · refine hc _ _ _ _ _ h _ ?_
    cases e <;> exact hk
  · cases h

theorem evOps_ok {call : HV → List HV → Store → CallOut} (hc : CallOK P call) {ops : Array Oper} {Q : HExit → HFrame → Store → Prop} : ∀ (l : List Oper) (k : Nat) (fr : HFrame) (σ : Store) (x : HExit) (fr' : HFrame) (σ' : Store), ops.toList.drop k = l →
    evOps P call ops l fr σ = some (x, fr', σ') → Q x fr' σ' → HOps P ops Q (List.range' k l.length) fr σ
  | [], k, fr, σ, x, fr', σ', _, h, hq => by
    simp only [evOps, Option.some.injEq, Prod.mk.injEq] at h
    obtain ⟨rfl, rfl, rfl⟩ := h
    exact hq
  | o :: rest, k, fr, σ, x, fr', σ', hd, h, hq => by
    have ho : ops[k]? = some o := by
      rw [← Array.getElem?_toList]
      have := congrArg List.head? hd
      simpa [List.head?_drop] using this
    have hd' : ops.toList.drop (k + 1) = rest := by
      rw [← List.tail_drop, hd]
      rfl
    rw [List.length_cons, List.range'_succ]
    simp only [HOps, ho]
    unfold evOps at h
    simp only [evalOpF_eq] at h
    split at h
    · cases h
    rename_i hdef
    refine ⟨by simpa using hdef, ?_⟩
    split at h
    · cases h
    · rename_i hw
      rw [hw]
      exact evOps_ok hc rest (k + 1) _ _ x fr' σ' hd' h hq
    · rename_i hw
      rw [hw]
      simp only
      split at h
      · rename_i v σ1 hs
        exact evStep_ok hc hs (evOps_ok hc rest (k + 1) _ _ x fr' σ' hd' h hq)
      · rename_i v σ1 hs
        cases h
        exact evStep_ok hc hs hq
      · cases h

end
end Go.HI

/- What the evaluator finds is so. -/
namespace Go.HI
noncomputable section

variable {P : Program} {o : Oper} {fr : HFrame} {σ : Store} {ops : Array Oper}

mutual
theorem HV.beq_eq : ∀ (x y : HV), HV.beq x y = true → x = y
  | .any, y, h => by cases y <;> simp [HV.beq] at h; rfl
  | .bool b, y, h => by cases y <;> simp [HV.beq] at h; rw [h]
  | .int k n, y, h => by cases y <;> simp [HV.beq] at h; rw [h.1, h.2]
  | .str s, y, h => by cases y <;> simp [HV.beq] at h; rw [h]
  | .pad s n, y, h => by cases y <;> simp [HV.beq] at h; rw [h.1, h.2]
  | .ptr a, y, h => by cases y <;> simp [HV.beq] at h; rw [h]
  | .slice a n e, y, h => by cases y <;> simp [HV.beq] at h; rw [h.1.1, h.1.2, h.2]
  | .map r, y, h => by cases y <;> simp [HV.beq] at h; rw [h]
  | .func f a c, y, h => by
    cases y <;> simp [HV.beq] at h
    rw [h.1.1, HV.beqs_eq _ _ h.1.2, HV.beqs_eq _ _ h.2]
  | .nilFunc, y, h => by cases y <;> simp [HV.beq] at h; rfl
  | .iface t v, y, h => by
    cases y <;> simp [HV.beq] at h
    rw [h.1, HV.beq_eq _ _ h.2]
  | .nilIface, y, h => by cases y <;> simp [HV.beq] at h; rfl
  | .agg a, y, h => by
    cases y <;> simp [HV.beq] at h
    rw [HV.beqs_eq _ _ h]
  | .tuple a, y, h => by
    cases y <;> simp [HV.beq] at h
    rw [HV.beqs_eq _ _ h]
theorem HV.beqs_eq : ∀ (x y : List HV), HV.beqs x y = true → x = y
  | [], y, h => by cases y <;> simp [HV.beqs] at h; rfl
  | a :: as, y, h => by
    cases y <;> simp [HV.beqs] at h
    rw [HV.beq_eq _ _ h.1, HV.beqs_eq _ _ h.2]
end

theorem pureOp_same {v : HV} {σ' : Store} (h : pureOp P o fr σ = .val v σ') : σ' = σ := by
  unfold pureOp at h
  split at h
  · cases h
  · split at h
    · split at h
      · split at h
        · cases h; rfl
        · cases h
      · cases h
      · cases h
    · cases h

theorem sliceH_same {t : TypeId} {x : HV} {lo hi mx : Option HV} {v : HV} {σ' : Store} (h : sliceH P t x lo hi mx σ = some (.val v σ')) : σ' = σ := by
  unfold sliceH at h
  split at h
  · split at h
    · cases h
    · simp only [Option.bind_eq_bind, Option.bind_eq_some_iff, Option.pure_def, Option.some.injEq] at h
      obtain ⟨a, ha, h⟩ := h
      cases h; rfl
  · split at h
    · cases h
    · simp only [Option.bind_eq_bind, Option.bind_eq_some_iff, Option.pure_def, Option.some.injEq] at h
      obtain ⟨a, ha, r, hr, h⟩ := h
      cases h; rfl
  · simp only [Option.bind_eq_bind, Option.bind_eq_some_iff, Option.pure_def] at h
    obtain ⟨a, ha, b, hb, h⟩ := h
    split at h
    · cases h
    · cases h; rfl
  · simp only [Option.bind_eq_bind, Option.bind_eq_some_iff, Option.pure_def] at h
    obtain ⟨a, ha, h⟩ := h
    split at h
    · cases h
    · split at h
      · cases h; rfl
      · split at h
        · cases h
        · cases h; rfl
  · simp only [Option.bind_eq_bind, Option.bind_eq_some_iff, Option.pure_def] at h
    obtain ⟨a, ha, h⟩ := h
    split at h
    · cases h
    · simp only [Option.bind_eq_some_iff] at h
      obtain ⟨c, hc, h⟩ := h
      split at h
      · cases h
      · cases h; rfl
  · cases h

theorem memOp_same (hq : isQuiet P o.op = true) {v : HV} {σ' : Store} (h : memOp P o fr σ = some (.val v σ')) : σ' = σ := by
  cases ho : o.op
  case move x => simp only [memOp, ho, Option.some.injEq] at h; cases h; rfl
  case pick c a b =>
    simp only [memOp, ho] at h
    split at h
    · cases h; rfl
    · cases h
  case load t a =>
    simp only [memOp, ho] at h
    split at h
    · split at h
      · cases h
      · simp only [Option.bind_eq_bind, Option.bind_eq_some_iff, Option.pure_def] at h
        obtain ⟨l, hl, h⟩ := h
        split at h
        · cases h; rfl
        · cases h
    · cases h
  case nilCheck x =>
    simp only [memOp, ho] at h
    split at h <;> cases h <;> rfl
  case binOp op t x y u =>
    cases op
    case eql =>
      simp only [memOp, ho, Option.map_eq_some_iff] at h
      obtain ⟨b, hb, h⟩ := h
      cases h; rfl
    case neq =>
      simp only [memOp, ho, Option.map_eq_some_iff] at h
      obtain ⟨b, hb, h⟩ := h
      cases h; rfl
    all_goals (simp only [memOp, ho, reduceCtorEq] at h)
  case makeInterface t x =>
    simp only [memOp, ho] at h
    split at h <;> cases h <;> rfl
  case makeFunc fn first captured =>
    simp only [memOp, ho] at h
    split at h
    · cases h
    · cases h; rfl
  case slice t x lo hi mx =>
    simp only [memOp, ho] at h
    exact sliceH_same h
  case fieldAddr s x f =>
    simp only [memOp, ho] at h
    split at h
    · simp only [Option.bind_eq_bind, Option.bind_eq_some_iff, Option.pure_def] at h
      obtain ⟨fd, hf, h⟩ := h
      split at h
      · cases h
      · cases h; rfl
    · cases h
  case field t x f =>
    simp only [memOp, ho] at h
    split at h
    · simp only [Option.bind_eq_bind, Option.bind_eq_some_iff, Option.pure_def] at h
      obtain ⟨fd, hf, h⟩ := h
      split at h
      · cases h
      · simp only [Option.bind_some] at h
        split at h
        · cases h; rfl
        · simp only [Option.bind_eq_some_iff] at h
          obtain ⟨v', hv, h⟩ := h
          cases h; rfl
    · cases h
  case indexAddr t x y =>
    simp only [memOp, ho] at h
    simp only [Option.bind_eq_bind, Option.bind_eq_some_iff, Option.pure_def] at h
    obtain ⟨i, hi, h⟩ := h
    split at h
    · split at h
      · split at h
        · cases h; rfl
        · cases h
      · cases h
    · cases h
    · split at h
      · cases h; rfl
      · cases h
    · cases h
  case index t x y =>
    simp only [memOp, ho] at h
    simp only [Option.bind_eq_bind, Option.bind_eq_some_iff, Option.pure_def] at h
    obtain ⟨i, hi, h⟩ := h
    split at h
    · split at h
      · split at h
        · cases h; rfl
        · cases h
      · cases h
    · split at h
      · split at h
        · cases h; rfl
        · split at h
          · cases h; rfl
          · cases h
      · cases h
    · split at h
      · simp only [Option.bind_some] at h
        split at h
        · cases h; rfl
        · simp only [Option.bind_eq_some_iff] at h
          obtain ⟨v', hv, h⟩ := h
          cases h; rfl
      · cases h
    · cases h
  case lookup t m k ok =>
    simp only [memOp, ho] at h
    simp only [Option.bind_eq_bind, Option.bind_eq_some_iff, Option.pure_def] at h
    obtain ⟨u, hu, h⟩ := h
    split at h
    · simp only [Option.bind_eq_some_iff] at h
      obtain ⟨z, hz, h⟩ := h
      split at h
      · cases h
      · have key : ∀ {q : Option (Option HV)}, (q.bind fun r => match r with | some v => some (OpRes.val (if ok = true then .tuple [v, .bool true] else v) σ) | none => some (OpRes.val (if ok = true then .tuple [z, .bool false] else z) σ)) = some (.val v σ') → σ' = σ := by
          intro q h
          rw [Option.bind_eq_some_iff] at h
          obtain ⟨r, hr, h⟩ := h
          cases r <;> cases h <;> rfl
        split at h
        · split at h
          · exact key (q := some none) h
          · cases h
        · split at h
          · split at h
            · exact key h
            · cases h
          · split at h
            · exact key h
            · cases h
          · cases h
        · cases h
    · cases h
  case typeAssert x xt asserted ok =>
    simp only [memOp, ho] at h
    simp only [Option.bind_eq_bind, Option.bind_eq_some_iff, Option.pure_def] at h
    obtain ⟨u, hu, h⟩ := h
    split at h
    · simp only [Option.bind_eq_some_iff] at h
      obtain ⟨i, hi, h⟩ := h
      split at h
      · cases h; rfl
      · split at h
        · cases h; rfl
        · cases h
    · split at h
      · cases h; rfl
      · cases h
    · simp only [Option.bind_eq_some_iff] at h
      obtain ⟨z, hz, h⟩ := h
      split at h
      · cases h; rfl
      · cases h
    · split at h
      · cases h; rfl
      · simp only [Option.bind_eq_some_iff] at h
        obtain ⟨z, hz, h⟩ := h
        split at h
        · cases h; rfl
        · cases h
    · cases h
  case extract x i =>
    simp only [memOp, ho] at h
    split at h
    · rw [Option.map_eq_some_iff] at h
      obtain ⟨v', hv, h⟩ := h
      cases h; rfl
    · cases h
  case convert src dst x =>
    simp only [memOp, ho] at h
    rw [ho] at hq
    simp only [isQuiet] at hq
    split at h
    · split at h
      · split at h
        · split at h
          · cases h; rfl
          · split at h
            · cases h
            · simp only [Option.bind_eq_bind, Option.bind_eq_some_iff, Option.pure_def] at h
              obtain ⟨l, hl, s, hs, h⟩ := h
              cases h; rfl
        · cases h
      · cases h
    · rename_i e s hs hd hx
      rw [hd] at hq
      cases hq
    · cases h
  case call c =>
    rw [ho] at hq
    obtain ⟨callee, args, argTypes⟩ := c
    cases callee with
    | builtin b =>
      cases b <;> simp only [isQuiet, Bool.false_eq_true] at hq
      simp only [memOp, ho] at h
      generalize args.toList.map fr.eval = xs at h
      match xs, h with
      | [], h => simp [builtinH] at h
      | _ :: _ :: _, h => simp [builtinH] at h
      | [x], h =>
        simp only [builtinH, Option.bind_eq_bind, Option.bind_eq_some_iff, Option.pure_def] at h
        obtain ⟨t, ht, h⟩ := h
        split at h
        · cases h; rfl
        · cases h; rfl
        · cases h; rfl
        · cases h; rfl
        · cases h; rfl
        · split at h
          · cases h; rfl
          · cases h
        · cases h
    | value f => simp only [isQuiet, Bool.false_eq_true] at hq
    | invoke r m => simp only [isQuiet, Bool.false_eq_true] at hq
  case unOp op t x => simp only [memOp, ho, reduceCtorEq] at h
  case build t parts =>
    simp only [memOp, ho] at h
    simp only [Option.bind_eq_bind, Option.bind_eq_some_iff, Option.pure_def] at h
    obtain ⟨z, hz, h⟩ := h
    split at h
    · cases h
    split at h
    · split at h
      · cases h
      simp only [Option.bind_eq_some_iff] at h
      obtain ⟨cells, hf, h⟩ := h
      cases h; rfl
    · split at h
      · cases h
      simp only [Option.bind_eq_some_iff] at h
      obtain ⟨cells, hf, h⟩ := h
      cases h; rfl
    · cases h
  all_goals (rw [ho] at hq; simp only [isQuiet, Bool.false_eq_true] at hq)

theorem evalOp_same (hq : isQuiet P o.op = true) {v : HV} {σ' : Store} (h : evalOp P o fr σ = .val v σ') : σ' = σ := by
  unfold evalOp at h
  split at h
  · rename_i r hr
    rw [h] at hr
    unfold memOpP at hr
    split at hr
    · rename_i ho; rw [ho] at hq; cases hq
    · rename_i src dst x ho
      unfold padConv at hr
      repeat' split at hr
      all_goals first | (cases hr; done) | (simp only [Option.map_eq_some_iff] at hr; obtain ⟨_, _, hr⟩ := hr; cases hr; rfl)
    · simp only [Option.map_eq_some_iff] at hr
      obtain ⟨_, _, hr⟩ := hr
      cases hr; rfl
    · rename_i ho; rw [ho] at hq; cases hq
    · cases hr
  unfold evalOp0 at h
  split at h
  · rename_i r hr
    rw [h] at hr
    exact memOp_same hq hr
  · exact pureOp_same h

/-! ### Allocations that come late -/
theorem Rel.adopt {ρ : Ren} {w : World} (h : Rel ρ σ w) {b : Nat} (hb : ρ b = none) (hlt : b < σ.next) (ob : Obj) (tot : Nat) {x : HBlk} (hx : σ.blks.get b = some x)
    (hB : BRel (ρ.add b ⟨w.heap.size, 0, tot⟩) σ (w.alloc ob) ⟨w.heap.size, 0, tot⟩ x) : Rel (ρ.add b ⟨w.heap.size, 0, tot⟩) σ (w.alloc ob) := by
  have hsub : ρ.sub (ρ.add b ⟨w.heap.size, 0, tot⟩) := fun b' L hb' => by
    rw [Ren.add_ne]
    · exact hb'
    · rintro rfl; rw [hb] at hb'; cases hb'
  refine ⟨h.wf, ?_, ?_, ?_, fun g hg => let ⟨tot, ht⟩ := h.glob g hg; ⟨tot, hsub _ _ ht⟩⟩
  · intro b' L hb'
    rw [heap_alloc_size]
    by_cases e : b' = b
    · subst e; rw [Ren.add_same] at hb'; cases hb'; exact ⟨hlt, Nat.lt_succ_self _⟩
    · rw [Ren.add_ne _ _ e] at hb'; have := h.dom b' L hb'; omega
  · intro b' L y hb' hy
    by_cases e : b' = b
    · subst e; rw [Ren.add_same] at hb'; cases hb'; rw [hx] at hy; cases hy; exact hB
    · rw [Ren.add_ne _ _ e] at hb'
      exact (h.blk b' L y hb' hy).keep hsub (fun _ _ _ h => h) (heap_alloc_lt w _ (h.dom b' L hb').2)
  · intro b1 b2 L1 L2 x1 x2 h1 h2 hx1 hx2 hne hblk
    by_cases e : b1 = b
    · subst e
      rw [Ren.add_same] at h1
      cases h1
      rw [Ren.add_ne _ _ (Ne.symm hne)] at h2
      have := (h.dom b2 L2 h2).2
      simp at hblk
      omega
    · rw [Ren.add_ne _ _ e] at h1
      by_cases e' : b2 = b
      · subst e'
        rw [Ren.add_same] at h2
        cases h2
        have := (h.dom b1 L1 h1).2
        simp at hblk
        omega
      · rw [Ren.add_ne _ _ e'] at h2
        exact h.inj b1 b2 L1 L2 x1 x2 h1 h2 hx1 hx2 hne hblk

theorem Fr.adopt {ρ : Ren} {w : World} {b : Nat} (hb : ρ b = none) (ob : Obj) (tot : Nat) : Fr 0 0 ρ (ρ.add b ⟨w.heap.size, 0, tot⟩) w (w.alloc ob) where
  sub := fun b' L hb' => by
    rw [Ren.add_ne]
    · exact hb'
    · rintro rfl; rw [hb] at hb'; cases hb'
  size := by rw [heap_alloc_size]; omega
  keep := fun B hB _ => heap_alloc_lt w ob hB
  shape := fun B cs ty fz hB => ⟨cs, by rw [heap_alloc_lt w ob (heap_lt hB)]; exact hB, rfl⟩
  new := fun b' L h1 h2 => by
    by_cases e : b' = b
    · subst e; rw [Ren.add_same] at h2; cases h2; exact .inl (Nat.le_refl _)
    · rw [Ren.add_ne _ _ e, h1] at h2; cases h2
  tape := rfl
  os := rfl
  output := rfl
  le := Nat.le_refl _
  fresh := fun b hb => by omega

theorem late_alloc {F : HFrame} {elem : TypeId} {z : HV} {b : Nat} (h : o.op = .alloc elem) (hz : zeroHV P elem = some z) (hx : σ.blks.get b = some (.cells z.cells none)) (hlt : b < σ.next) : LateOK P o F σ (.ptr (some (b, 0))) b := by
  intro ρ w a hR hS hb
  obtain ⟨v0, _, _, hrun, i, hi⟩ := zero_run (ρ := ρ) hz
  have hrun' : (execOp a.eval o).run P w = .ok (.value (.pointer (some ⟨w.heap.size, 0, none⟩))) (w.alloc (.cells v0.cells elem)) := by
    simp [execOp, h, Instr.alloc, hrun, newVar_run]
  obtain ⟨v1, hv, hn, hrun1, _⟩ := zero_run (P := P) (ρ := ρ.add b ⟨w.heap.size, 0, v0.cells.size⟩) hz
  have e : v1 = v0 := by
    have h1 := hrun w
    have h2 := hrun1 w
    rw [h1] at h2
    cases h2
    rfl
  subst e
  refine ⟨_, _, ⟨w.heap.size, 0, v1.cells.size⟩, hrun', ?_, hR.adopt hb hlt _ _ hx (BRel.newVar (hv.cells hn)), Fr.adopt hb _ _⟩
  simp only [VRel]
  exact ⟨_, Ren.add_same _ _ _, rfl⟩

theorem late_buildSlice {F : HFrame} {t : TypeId} {len : Nat} {parts : Array (Nat × Operand)} {elem : TypeId} {z : HV} {cells : List HV} {b : Nat} (h : o.op = .buildSlice t len parts) (hu : P.underlying t = some (.slice elem))
    (hb : ¬ len * szOf P elem > 2 ^ 24) (hz : zeroHV P elem = some z) (hzl : z.cells.length = szOf P elem)
    (hn : (parts.toList.map fun (i, x) => (i, F.eval x)).all (fun p => !isAny p.2) = true)
    (hf : fillH (fun i => some (i * szOf P elem, szOf P elem)) (List.replicate len z.cells).flatten (parts.toList.map fun (i, x) => (i, F.eval x)) = some cells)
    (hx : σ.blks.get b = some (.cells cells (some (b, 0, 0)))) (hlt : b < σ.next) : LateOK P o F σ (.slice (some (b, 0)) len (szOf P elem)) b := by
  intro ρ w a hR hS hbn
  obtain ⟨cs', hrun, h4, hsz⟩ := run_buildSlice (w := w) h hu hb hz hzl hn hf hS
  have hcl := h4.length
  simp only [Array.length_toList] at hcl
  have hF := Fr.adopt hbn (.cells cs' elem) cs'.size (w := w)
  refine ⟨_, _, ⟨w.heap.size, 0, cs'.size⟩, hrun, ?_, hR.adopt hbn hlt _ _ hx ?_, hF⟩
  · simp only [VRel]
    exact .inl ⟨_, len, Ren.add_same _ _ _, Nat.le_refl _, by simp; omega, rfl⟩
  · intro _
    refine ⟨cs', ⟨elem, (0, 0), heap_alloc_new w _, rfl, fun i _ => by simp⟩, by simp; omega, ?_⟩
    simp only [List.drop_zero]
    rw [List.take_of_length_le (by simp; omega)]
    exact h4.mono hF.sub

theorem late_makeSlice {F : HFrame} {t : TypeId} {len cap : Operand} {elem : TypeId} {l c : Int} {z : HV} {cells : List HV} {b : Nat} (h : o.op = .makeSlice t len cap) (hu : P.underlying t = some (.slice elem))
    (hl : intOf? (F.eval len) = some l) (hc : intOf? (F.eval cap) = some c) (h0 : 0 ≤ l) (hlc : l ≤ c) (hc40 : c ≤ 2 ^ 40) (hb : P.bytesOf elem * c.toNat ≤ 2 ^ 48) (hz : zeroHV P elem = some z) (hzl : z.cells.length = szOf P elem)
    (hcells : cells = (List.replicate l.toNat z.cells).flatten) (hx : σ.blks.get b = some (.cells cells (some (b, 0, 0)))) (hlt : b < σ.next) : LateOK P o F σ (.slice (some (b, 0)) l.toNat (szOf P elem)) b := by
  intro ρ w a hR hS hbn
  obtain ⟨cs', hrun, h4, hsz, hcl⟩ := run_makeSlice (w := w) h hu hl hc h0 hlc hc40 hb hz hzl hcells hS
  have hle : l.toNat * szOf P elem ≤ c.toNat * szOf P elem := Nat.mul_le_mul_right _ (by omega)
  have hF := Fr.adopt hbn (.cells cs' elem) cs'.size (w := w)
  refine ⟨_, _, ⟨w.heap.size, 0, cs'.size⟩, hrun, ?_, hR.adopt hbn hlt _ _ hx ?_, hF⟩
  · simp only [VRel]
    exact .inl ⟨_, c.toNat, Ren.add_same _ _ _, by omega, by simp; omega, rfl⟩
  · intro _
    refine ⟨cs', ⟨elem, (0, 0), heap_alloc_new w _, rfl, fun i _ => by simp⟩, by simp; omega, ?_⟩
    simp only [List.drop_zero]
    exact h4.mono hF.sub

theorem late_makePad {F : HFrame} {t : TypeId} {len cap : Operand} {elem : TypeId} {l c : Int} {b : Nat} (h : o.op = .makeSlice t len cap) (hu : P.underlying t = some (.slice elem))
    (hl : intOf? (F.eval len) = some l) (hc : intOf? (F.eval cap) = some c) (h0 : 0 ≤ l) (hlc : l ≤ c) (hc40 : c ≤ 2 ^ 40) (hb : P.bytesOf elem * c.toNat ≤ 2 ^ 48) (hz : zeroHV P elem = some (.int .u8 0)) (hzl : (HV.int .u8 0).cells.length = szOf P elem)
    (hx : σ.blks.get b = some (.pad [] l.toNat)) (hlt : b < σ.next) : LateOK P o F σ (.slice (some (b, 0)) l.toNat (szOf P elem)) b := by
  intro ρ w a hR hS hbn
  obtain ⟨cs', hrun, h4, hsz, hcl⟩ := run_makeSlice (w := w) h hu hl hc h0 hlc hc40 hb hz hzl rfl hS
  have hle : l.toNat * szOf P elem ≤ c.toNat * szOf P elem := Nat.mul_le_mul_right _ (by omega)
  have hF := Fr.adopt hbn (.cells cs' elem) cs'.size (w := w)
  refine ⟨_, _, ⟨w.heap.size, 0, cs'.size⟩, hrun, ?_, hR.adopt hbn hlt _ _ hx ?_, hF⟩
  · simp only [VRel]
    exact .inl ⟨_, c.toNat, Ren.add_same _ _ _, by omega, by simp; omega, rfl⟩
  · have e : (List.replicate l.toNat (HV.int .u8 0).cells).flatten = padCells [] l.toNat := by rw [padCells_nil]; simp [HV.cells]
    rw [e] at h4 hcl
    refine ⟨cs', ⟨elem, (0, 0), heap_alloc_new w _, rfl, fun i _ => by simp⟩, by simp at hcl ⊢; omega, ?_⟩
    simp only [List.drop_zero]
    exact h4.mono hF.sub

theorem lateB_ok {F : HFrame} {v : HV} {b : Nat} (h : lateB P o F σ v b = true) : LateOK P o F σ v b := by
  unfold lateB at h
  simp only [Bool.and_eq_true, decide_eq_true_eq] at h
  obtain ⟨hlt, h⟩ := h
  split at h
  · rename_i elem ho
    split at h
    · rename_i z c b' hz hx
      simp only [Bool.and_eq_true, beq_iff_eq] at h
      obtain ⟨rfl, h2⟩ := h
      rw [HV.beqs_eq _ _ h2] at hx
      exact late_alloc ho hz hx hlt
    · cases h
  · rename_i t len parts ho
    split at h
    · rename_i elem hu
      split at h
      · rename_i z hz
        simp only [Bool.and_eq_true, Bool.not_eq_true', decide_eq_false_iff_not, decide_eq_true_eq] at h
        obtain ⟨⟨⟨h1, h2⟩, h3⟩, h4⟩ := h
        split at h4
        · rename_i cells c f b' n e hf hx
          simp only [Bool.and_eq_true, beq_iff_eq] at h4
          obtain ⟨⟨⟨⟨rfl, rfl⟩, rfl⟩, rfl⟩, h5⟩ := h4
          rw [HV.beqs_eq _ _ h5] at hx
          exact late_buildSlice ho hu h1 hz h2 h3 hf hx hlt
        · cases h4
      · cases h
    · cases h
  · rename_i t len cap ho
    split at h
    · rename_i elem l c hu hl hc
      split at h
      · rename_i z hz
        simp only [Bool.and_eq_true, decide_eq_true_eq] at h
        obtain ⟨⟨⟨⟨⟨h1, h2⟩, h3⟩, h4⟩, h5⟩, h6⟩ := h
        split at h6
        · rename_i cs f b' n e hx
          simp only [Bool.and_eq_true, beq_iff_eq] at h6
          obtain ⟨⟨⟨⟨rfl, rfl⟩, rfl⟩, rfl⟩, h7⟩ := h6
          rw [HV.beqs_eq _ _ h7] at hx
          exact late_makeSlice ho hu hl hc h1 h2 h3 h4 hz h5 rfl hx hlt
        · rename_i m b' n hx
          simp only [Bool.and_eq_true, beq_iff_eq] at h6
          obtain ⟨⟨⟨⟨rfl, rfl⟩, rfl⟩, h7⟩, h8⟩ := h6
          have h8 := HV.beq_eq _ _ h8
          subst h8
          have := late_makePad ho hu hl hc h1 h2 h3 h4 hz h5 hx hlt
          rwa [h7] at this
        · cases h6
      · cases h
    · cases h
  · cases h

theorem ghost_pushX {x : HBlk} (sx : x.single) : Ghost σ (σ.push x) σ.next where
  eq := rfl
  lt := Nat.lt_succ_self _
  rel := fun ρ w h => by
    have hne : ∀ b L, ρ b = some L → b ≠ σ.next := fun b L hb e => by have := (h.dom b L hb).1; omega
    have hget : ∀ b L, ρ b = some L → (σ.push x).blks.get b = σ.blks.get b := fun b L hb => by simp only [Store.push, T.get_set, if_neg (hne b L hb)]
    refine ⟨h.wf.push sx, fun b L hb => ⟨Nat.lt_succ_of_lt (h.dom b L hb).1, (h.dom b L hb).2⟩, fun b L x hb hx => ?_, fun b b' L L' x1 x2 hb hb' hx1 hx2 hn he => ?_, h.glob⟩
    · rw [hget b L hb] at hx
      exact (h.blk b L x hb hx).keep (.refl _) (fun _ _ _ h => h) rfl
    · rw [hget b L hb] at hx1
      rw [hget b' L' hb'] at hx2
      exact h.inj b b' L L' x1 x2 hb hb' hx1 hx2 hn he

theorem ghost_push {c : List HV} : Ghost σ (σ.push (.cells c none)) σ.next := ghost_pushX (by simp [HBlk.single])

theorem ghost_pushArr {c : List HV} : Ghost σ (σ.pushArr c) σ.next where
  eq := rfl
  lt := Nat.lt_succ_self _
  rel := fun ρ w h => by
    have hne : ∀ b L, ρ b = some L → b ≠ σ.next := fun b L hb e => by have := (h.dom b L hb).1; omega
    have hget : ∀ b L, ρ b = some L → (σ.pushArr c).blks.get b = σ.blks.get b := fun b L hb => by simp only [Store.pushArr, T.get_set, if_neg (hne b L hb)]
    refine ⟨h.wf.pushArr c, fun b L hb => ⟨Nat.lt_succ_of_lt (h.dom b L hb).1, (h.dom b L hb).2⟩, fun b L x hb hx => ?_, fun b b' L L' x1 x2 hb hb' hx1 hx2 hn he => ?_, h.glob⟩
    · have hx' := hx
      rw [hget b L hb] at hx'
      exact (h.blk b L x hb hx').keep (.refl _) (fun c' k hk hv => by subst hk; exact h.validK_pushArr hx' hv) rfl
    · rw [hget b L hb] at hx1
      rw [hget b' L' hb'] at hx2
      exact h.inj b b' L L' x1 x2 hb hb' hx1 hx2 hn he

theorem alloc_ghost (ha : isAlloc o.op = true) {v : HV} {σ' : Store} (h : evalOp P o fr σ = .val v σ') (hv : lateB P o (restrictF fr (o.looksAt ops)) σ' v σ.next = true) : Ghost σ σ' σ.next := by
  unfold evalOp at h
  split at h
  · rename_i r hr
    subst h
    unfold memOpP at hr
    split at hr
    · rename_i t len cap ho
      unfold bigSlice at hr
      repeat' split at hr
      all_goals first | (cases hr; done) | (cases hr; exact ghost_pushX (by simp [HBlk.single]))
    · rename_i ho; rw [ho] at ha; cases ha
    · rename_i ho; rw [ho] at ha; cases ha
    · rename_i ho; rw [ho] at ha; cases ha
    · cases hr
  unfold evalOp0 at h
  split at h
  · rename_i r hr
    subst h
    cases ho : o.op <;> rw [ho] at ha <;> simp only [isAlloc, Bool.false_eq_true] at ha
    · simp only [memOp, ho, Option.bind_eq_bind, Option.bind_eq_some_iff, Option.pure_def, Option.some.injEq] at hr
      obtain ⟨z, hz, hr⟩ := hr
      cases hr
      exact ghost_push
    · simp only [memOp, ho] at hr
      simp only [Option.bind_eq_bind, Option.bind_eq_some_iff, Option.pure_def] at hr
      obtain ⟨u, hu, hr⟩ := hr
      split at hr
      case h_2 => cases hr
      split at hr
      · cases hr
      simp only [Option.bind_eq_some_iff] at hr
      obtain ⟨z, hz, hr⟩ := hr
      split at hr
      · cases hr
      split at hr
      · cases hr
      simp only [Option.bind_eq_some_iff] at hr
      obtain ⟨cells, hf, hr⟩ := hr
      cases hr
      exact ghost_pushArr
    · simp only [memOp, ho] at hr
      simp only [Option.bind_eq_bind, Option.bind_eq_some_iff, Option.pure_def] at hr
      obtain ⟨u, hu, hr⟩ := hr
      split at hr
      case h_2 => cases hr
      simp only [Option.bind_eq_some_iff] at hr
      obtain ⟨l, hl, c, hc, hr⟩ := hr
      split at hr
      · cases hr
      simp only [Option.bind_eq_some_iff] at hr
      obtain ⟨z, hz, hr⟩ := hr
      split at hr
      · cases hr
      cases hr
      exact ghost_pushArr
  · have := pureOp_same h
    subst this
    unfold lateB at hv
    simp at hv

end
end Go.HI
