/- The evaluator with unknown numbers: what it asks is a proposition. -/
import Derived.Test.YtoadhpnmbchgcaaGreatDoorB6
import Derived.Test.YtoadhpnmbchgcaaGreatDoorB7
namespace Go.HI
noncomputable section

variable {P : Program}

/-- What an operation comes to: under a condition, by a choice, by cases. -/
inductive SRes where
  | one (r : OpRes)
  | guard (p : Prop) (s : SRes)
  | ite (b : Bool) (x y : SRes)
  | cases (l : List (Prop × OpRes))

def casesAll (K : OpRes → Prop) (l : List (Prop × OpRes)) : Prop := List.rec (motive := fun _ => Prop) True (fun q _ ih => (q.1 → K q.2) ∧ ih) l
def casesAny (l : List (Prop × OpRes)) : Prop := List.rec (motive := fun _ => Prop) False (fun q _ ih => q.1 ∨ ih) l

def SRes.all (K : OpRes → Prop) (s : SRes) : Prop :=
  SRes.rec (motive := fun _ => Prop) (fun r => K r) (fun p _ ih => p ∧ ih) (fun b _ _ hx hy => Bool.rec hy hx b) (fun l => casesAny l ∧ casesAll K l) s

def SRes.ok (r0 : OpRes) : SRes → Prop
  | .one r => r0 = r
  | .guard p s => p → s.ok r0
  | .ite b x y => (b = true → x.ok r0) ∧ (b = false → y.ok r0)
  | .cases l => ∀ q ∈ l, q.1 → r0 = q.2

theorem casesAny_of : ∀ {l : List (Prop × OpRes)}, casesAny l → ∃ q ∈ l, q.1
  | [], h => h.elim
  | q :: l, h => by
    rcases h with h | h
    · exact ⟨q, List.mem_cons_self .., h⟩
    · obtain ⟨r, h1, h2⟩ := casesAny_of (l := l) h
      exact ⟨r, List.mem_cons_of_mem _ h1, h2⟩

theorem casesAll_of {K : OpRes → Prop} : ∀ {l : List (Prop × OpRes)}, casesAll K l → ∀ q ∈ l, q.1 → K q.2
  | q :: l, h, r, hr, hp => by
    obtain ⟨h1, h2⟩ : (q.1 → K q.2) ∧ casesAll K l := h
    rcases List.mem_cons.1 hr with rfl | hr
    · exact h1 hp
    · exact casesAll_of h2 r hr hp

theorem SRes.all_ok {K : OpRes → Prop} {r0 : OpRes} : ∀ {s : SRes}, s.ok r0 → s.all K → K r0
  | .one r, h, k => by
    have h : r0 = r := h
    rw [h]
    exact k
  | .guard p s, h, k => by
    obtain ⟨k1, k2⟩ : p ∧ s.all K := k
    exact all_ok (s := s) (h k1) k2
  | .ite b x y, h, k => by
    cases b with
    | true => exact all_ok (s := x) (h.1 rfl) k
    | false => exact all_ok (s := y) (h.2 rfl) k
  | .cases l, h, k => by
    obtain ⟨k1, k2⟩ : casesAny l ∧ casesAll K l := k
    obtain ⟨q, hq, hp⟩ := casesAny_of k1
    rw [h q hq hp]
    exact casesAll_of k2 q hq hp

abbrev OpEvS := Oper → HFrame → Store → SRes
def OpEvS.OK (P : Program) (V : OpEvS) : Prop := ∀ o fr σ, (V o fr σ).ok (evalOp P o fr σ)

/-! ### Ends of calls -/
/-- What a notice holds. -/
structure NT where
  so : Int
  ki : Int
  nu : Int
  lk : Int
  la : Int
  lh : Int
  cn : Int
  cf : Int
  ct : Int
  ch : Int
  ca : Int
  cb : Bool
  ek : Int
  ea : Int
  er : Int

inductive SEnd where
  | one (e : HEnd) (σ : Store)
  | guard (p : Prop) (s : SEnd)
  | ite (b : Bool) (x y : SEnd)
  | many (p : NT → Prop) (f : NT → SEnd)

def SEnd.all (K : KE Prop) (s : SEnd) : Prop :=
  SEnd.rec (motive := fun _ => Prop) (fun e σ => K e σ) (fun p _ ih => p ∧ ih) (fun b _ _ hx hy => Bool.rec hy hx b) (fun p _ ih => ∀ n, p n → ih n) s

abbrev SumsS := FuncId → Option (List HV → Store → Option SEnd)
def SumsSOK (P : Program) (S : SumsS) : Prop :=
  ∀ f g, S f = some g → ∀ args σ s, g args σ = some s → ∀ R : HEnd → Store → Prop, s.all R → HCall P f args σ R

/-! ### The evaluator -/
abbrev AQ : Ans Prop := { fail := False, both := fun a b => a ∧ b, same := fun v v' a => v = v' ∧ a }
theorem AQ_good : AQ.Good (fun p => p) where
  fail := id
  both := fun _ _ h => h
  same := fun _ _ _ h => h

def erOpsS (V : OpEvS) (call : CallK Prop) (ops : Array Oper) (k : KX Prop) (l : List Oper) : HFrame → Store → Prop :=
  List.rec (motive := fun _ => HFrame → Store → Prop) (fun fr σ => k .normal fr σ)
    (fun o _ ih fr σ => if isDefer o.op then False else match wantedH ops o fr with
      | none => False
      | some b => Bool.rec (ih (fr.put o.dst (.tuple [])) σ) ((V o fr σ).all fun r => stepK AQ call σ r (fun v σ' => ih (fr.put o.dst v) σ') (fun v σ' => k (.panic v) fr σ')) b) l

theorem erOpsS_ok {V : OpEvS} (hV : V.OK P) {call : CallK Prop} (hc : CallVK P (fun p => p) call) {ops : Array Oper} {k : KX Prop} : ∀ (l : List Oper) (j : Nat) (fr : HFrame) (σ : Store), ops.toList.drop j = l →
    erOpsS V call ops k l fr σ → HOps P ops k (List.range' j l.length) fr σ
  | [], j, fr, σ, _, h => h
  | o :: rest, j, fr, σ, hd, h => by
    have ho : ops[j]? = some o := by
      rw [← Array.getElem?_toList]
      have := congrArg List.head? hd
      simpa [List.head?_drop] using this
    have hd' : ops.toList.drop (j + 1) = rest := by
      rw [← List.tail_drop, hd]
      rfl
    rw [List.length_cons, List.range'_succ]
    simp only [HOps, ho]
    replace h : (if isDefer o.op then False else match wantedH ops o fr with
      | none => False
      | some b => Bool.rec (motive := fun _ => Prop) (erOpsS V call ops k rest (fr.put o.dst (.tuple [])) σ) ((V o fr σ).all fun r => stepK AQ call σ r (fun v σ' => erOpsS V call ops k rest (fr.put o.dst v) σ') (fun v σ' => k (.panic v) fr σ')) b) := h
    split at h
    · exact h.elim
    rename_i hdef
    refine ⟨by simpa using hdef, ?_⟩
    split at h
    · exact h.elim
    · rename_i b hw
      rw [hw]
      cases b with
      | false => exact erOpsS_ok hV hc rest (j + 1) _ _ hd' h
      | true =>
        simp only
        have h := SRes.all_ok (hV o fr σ) h
        exact stepK_ok AQ_good hc h (fun v σ' hv => erOpsS_ok hV hc rest (j + 1) _ _ hd' hv) fun v σ' hv => hv

mutual
theorem HV.beq_refl : ∀ a : HV, HV.beq a a = true
  | .any | .bool _ | .int .. | .str _ | .pad .. | .ptr _ | .slice .. | .map _ | .nilFunc | .nilIface => by simp [HV.beq]
  | .func f a b => by simp [HV.beq, HV.beqs_refl a, HV.beqs_refl b]
  | .iface t v => by simp [HV.beq, HV.beq_refl v]
  | .agg a => by simp [HV.beq, HV.beqs_refl a]
  | .tuple a => by simp [HV.beq, HV.beqs_refl a]
theorem HV.beqs_refl : ∀ a : List HV, HV.beqs a a = true
  | [] => by simp [HV.beqs]
  | x :: xs => by simp [HV.beqs, HV.beq_refl x, HV.beqs_refl xs]
end

/-- A slice that was built, with unknown numbers in it. -/
def lateBuild (P : Program) (t : TypeId) (len : Nat) (ps : List (Nat × HV)) (σ : Store) (v : HV) (b : Nat) : Prop :=
  match P.underlying t with
  | some (.slice elem) => match zeroHV P elem with
    | some z => Bool.rec False
        (match fillH (fun i => some (i * szOf P elem, szOf P elem)) (List.replicate len z.cells).flatten ps, σ.blks.get b, v with
          | some cells, some (.cells c (some (f, 0, 0))), .slice (some (b', 0)) n e => Bool.rec False (c = cells) (f == b && b' == b && n == len && e == szOf P elem)
          | _, _, _ => False)
        (decide (b < σ.next) && (!decide (len * szOf P elem > 2 ^ 24) && decide (z.cells.length = szOf P elem) && ps.all (fun p => !isAny p.2)))
    | none => False
  | _ => False

def lateS (P : Program) (o : Oper) (F : HFrame) (σ : Store) (v : HV) (b : Nat) : Prop :=
  match o.op with
  | .buildSlice t len parts => lateBuild P t len (parts.toList.map fun (i, x) => (i, F.eval x)) σ v b
  | _ => Bool.rec False True (lateB P o F σ v b)

theorem lateS_ok {o : Oper} {F : HFrame} {σ : Store} {v : HV} {b : Nat} (h : lateS P o F σ v b) : lateB P o F σ v b = true := by
  unfold lateS at h
  split at h
  · rename_i t len parts ho
    unfold lateBuild at h
    unfold lateB
    rw [ho]
    simp only
    split at h
    · rename_i elem hu
      rw [hu]
      simp only
      split at h
      · rename_i z hz
        rw [hz]
        simp only
        cases hg : (decide (b < σ.next) && (!decide (len * szOf P elem > 2 ^ 24) && decide (z.cells.length = szOf P elem) && (parts.toList.map fun (i, x) => (i, F.eval x)).all (fun p => !isAny p.2))) with
        | false => rw [hg] at h; exact h.elim
        | true =>
          rw [hg] at h
          simp only [Bool.and_eq_true] at hg
          obtain ⟨g1, ⟨g2, g3⟩, g4⟩ := hg
          rw [g1, g2, g3, g4]
          simp only [Bool.and_self, Bool.true_and]
          simp only at h
          split at h
          · rename_i cells c f b' n e h1 h2
            rw [h1, h2]
            simp only
            cases hq : (f == b && b' == b && n == len && e == szOf P elem) with
            | false => rw [hq] at h; exact h.elim
            | true =>
              rw [hq] at h
              have h : c = cells := h
              rw [h, HV.beqs_refl]
              rfl
          · exact h.elim
      · exact h.elim
    · exact h.elim
  · cases hb : lateB P o F σ v b with
    | false => rw [hb] at h; exact h.elim
    | true => rfl

/-- What came early is as it was. -/
def stayS (V : OpEvS) (P : Program) (ops : Array Oper) (bf : Nat → Bool) (σ : Store) (k : Prop) (fl : List FloatE) : Prop :=
  List.rec (motive := fun _ => Prop) k (fun p _ ih => Bool.rec
    (match p.g with
      | none => (V p.o p.F σ).all fun r => match r with
        | .val v' _ => v' = p.v ∧ ih
        | _ => False
      | some b => lateS P p.o (restrictF p.F (p.o.looksAt ops)) σ p.v b ∧ ih) ih (bf p.i)) fl

theorem stayS_ok {V : OpEvS} (hV : V.OK P) {ops : Array Oper} {bf : Nat → Bool} {σ : Store} {k : Prop} : ∀ (fl : List FloatE), (∀ q ∈ fl, ops[q.i]? = some q.o ∧ (q.g = none → isQuiet P q.o.op = true)) → stayS V P ops bf σ k fl →
    (∀ q ∈ fl, bf q.i = true ∨ stayOne P ops σ q.flt) ∧ k
  | [], _, h => ⟨fun _ hq => (by cases hq), h⟩
  | p :: fl, hf, h => by
    replace h : Bool.rec (motive := fun _ => Prop) (match p.g with
      | none => (V p.o p.F σ).all fun r => match r with
        | .val v' _ => v' = p.v ∧ stayS V P ops bf σ k fl
        | _ => False
      | some b => lateS P p.o (restrictF p.F (p.o.looksAt ops)) σ p.v b ∧ stayS V P ops bf σ k fl) (stayS V P ops bf σ k fl) (bf p.i) := h
    have hf' : ∀ q ∈ fl, ops[q.i]? = some q.o ∧ (q.g = none → isQuiet P q.o.op = true) := fun q hq => hf q (List.mem_cons_of_mem _ hq)
    obtain ⟨hp, hpq⟩ := hf p (List.mem_cons_self ..)
    have fin : ∀ (hx : bf p.i = true ∨ stayOne P ops σ p.flt), stayS V P ops bf σ k fl → (∀ q ∈ p :: fl, bf q.i = true ∨ stayOne P ops σ q.flt) ∧ k := by
      intro hx hr
      obtain ⟨h1, h2⟩ := stayS_ok hV fl hf' hr
      refine ⟨fun q hq => ?_, h2⟩
      rcases List.mem_cons.1 hq with rfl | hq
      · exact hx
      · exact h1 q hq
    cases hb : bf p.i with
    | true => rw [hb] at h; exact fin (.inl hb) h
    | false =>
      rw [hb] at h
      simp only at h
      split at h
      · rename_i hg
        have h := SRes.all_ok (hV p.o p.F σ) h
        split at h
        · rename_i v' σ' he
          obtain ⟨h1, h2⟩ := h
          subst h1
          have := evalOp_same (hpq hg) he
          subst this
          refine fin (.inr ⟨p.o, hp, ?_⟩) h2
          simp only [FloatE.flt, hg]
          exact he
        · exact h.elim
      · rename_i b hg
        obtain ⟨hl, h⟩ := h
        refine fin (.inr ⟨p.o, hp, ?_⟩) h
        simp only [FloatE.flt, hg]
        exact lateB_ok (lateS_ok hl)

def drawAllocS (V : OpEvS) (P : Program) (ops : Array Oper) (i : Nat) (o : Oper) (fr : HFrame) (σ : Store) (fl : List FloatE) (k : HFrame → Store → List FloatE → Prop) : Prop :=
  (V o fr σ).all fun r => match r with
  | .val v σ' => lateS P o (restrictF fr (o.looksAt ops)) σ' v σ.next ∧ stayS V P ops (fun _ => false) σ' (k (fr.put o.dst v) σ' (⟨i, o, fr, v, some σ.next⟩ :: fl)) fl
  | _ => False

def drawQuietS (V : OpEvS) (i : Nat) (o : Oper) (fr : HFrame) (σ : Store) (fl : List FloatE) (k : HFrame → Store → List FloatE → Prop) : Prop :=
  (V o fr σ).all fun r => match r with
  | .val v _ => k (fr.put o.dst v) σ (Bool.rec (⟨i, o, fr, v, none⟩ :: fl) fl (pureB o.op))
  | _ => False

def drawRunS (V : OpEvS) (P : Program) (call : CallK Prop) (ops : Array Oper) (M : List Nat) (frB : HFrame) (kx : KX Prop) (i : Nat) (o : Oper) (fr : HFrame) (σ : Store) (fl : List FloatE) (k : HFrame → Store → List FloatE → Prop) : Prop :=
  Bool.rec
    (Bool.rec
      ((V o fr σ).all fun r => stepK AQ call σ r (fun v σ' => stayS V P ops (bef M i) σ' (k (fr.put o.dst v) σ' fl) fl) (fun v σ' => kx (.panic v) frB σ'))
      (drawQuietS V i o fr σ fl k) (isQuiet P o.op))
    (drawAllocS V P ops i o fr σ fl k) (isAlloc o.op)

def erDrawS (V : OpEvS) (P : Program) (call : CallK Prop) (ops : Array Oper) (M : List Nat) (frB : HFrame) (kx : KX Prop) (l : List (Nat × Oper)) : HFrame → Store → List FloatE → Prop :=
  List.rec (motive := fun _ => HFrame → Store → List FloatE → Prop) (fun fr σ _ => kx .normal fr σ)
    (fun p _ ih fr σ fl => match wantedH ops p.2 fr with
      | none => False
      | some b => Bool.rec (ih (fr.put p.2.dst (.tuple [])) σ fl) (drawRunS V P call ops M frB kx p.1 p.2 fr σ fl ih) b) l

theorem erDrawS_ok {V : OpEvS} (hV : V.OK P) {call : CallK Prop} (hc : CallVK P (fun p => p) call) {ops : Array Oper} {M : List Nat} {frB : HFrame} {k : KX Prop} : ∀ (l : List Nat) (fr : HFrame) (σ : Store) (fl : List FloatE) (flH : List Float), (∀ i ∈ l, i < ops.size) → Covers P ops fl flH →
    erDrawS V P call ops M frB k (pairsOf ops l) fr σ fl → HDraw P ops (xOf P ops) (yOf ops) M frB k l fr σ flH
  | [], fr, σ, fl, flH, _, _, h => h
  | i :: rest, fr, σ, fl, flH, hl, hcv, h => by
    have hi : i < ops.size := hl i (List.mem_cons_self ..)
    have hl' : ∀ j ∈ rest, j < ops.size := fun j hj => hl j (List.mem_cons_of_mem _ hj)
    obtain ⟨o, ho⟩ : ∃ o, ops[i]? = some o := ⟨ops[i], by simp [hi]⟩
    have hpairs : pairsOf ops (i :: rest) = (i, o) :: pairsOf ops rest := by simp [pairsOf, ho]
    rw [hpairs] at h
    replace h : (match wantedH ops o fr with
      | none => False
      | some b => Bool.rec (motive := fun _ => Prop) (erDrawS V P call ops M frB k (pairsOf ops rest) (fr.put o.dst (.tuple [])) σ fl) (drawRunS V P call ops M frB k i o fr σ fl (erDrawS V P call ops M frB k (pairsOf ops rest))) b) := h
    rw [HDraw, ho]
    simp only
    split at h
    · exact h.elim
    rename_i b hw
    rw [hw]
    cases b with
    | false => exact erDrawS_ok hV hc rest _ _ _ _ hl' hcv h
    | true =>
      simp only
      replace h : drawRunS V P call ops M frB k i o fr σ fl (erDrawS V P call ops M frB k (pairsOf ops rest)) := h
      have hX : xOf P ops i = (!isQuiet P o.op && !isAlloc o.op) := by simp [xOf, ho]
      have hY : yOf ops i = isAlloc o.op := by simp [yOf, ho]
      rw [hX, hY]
      unfold drawRunS at h
      cases ha : isAlloc o.op with
      | true =>
        rw [ha] at h
        simp only [Bool.not_true, Bool.and_false, Bool.false_eq_true, if_false, if_true]
        replace h : drawAllocS V P ops i o fr σ fl (erDrawS V P call ops M frB k (pairsOf ops rest)) := h
        unfold drawAllocS at h
        have h := SRes.all_ok (hV o fr σ) h
        split at h
        · rename_i v σ1 he
          obtain ⟨hlate, h⟩ := h
          have hlate := lateS_ok hlate
          obtain ⟨h1, h2⟩ := stayS_ok hV fl hcv.1 h
          refine ⟨v, σ1, σ.next, alloc_ghost ha he hlate, lateB_ok hlate, fun p hp => ?_, erDrawS_ok hV hc rest _ _ _ _ hl' ⟨?_, ?_⟩ h2⟩
          · rcases hcv.2 p hp with ⟨q, hq, rfl⟩ | hpure
            · rcases h1 q hq with h3 | h3
              · cases h3
              · exact h3
            · exact hpure σ1
          · intro q hq
            rcases List.mem_cons.1 hq with rfl | hq
            · exact ⟨ho, fun hg => by cases hg⟩
            · exact hcv.1 q hq
          · intro p hp
            rcases List.mem_cons.1 hp with rfl | hp
            · exact .inl ⟨_, List.mem_cons_self .., rfl⟩
            · rcases hcv.2 p hp with ⟨q, hq, hqp⟩ | hpure
              · exact .inl ⟨q, List.mem_cons_of_mem _ hq, hqp⟩
              · exact .inr hpure
        · exact h.elim
      | false =>
        rw [ha] at h
        simp only [Bool.not_false, Bool.and_true, Bool.false_eq_true, if_false]
        cases hqt : isQuiet P o.op with
        | true =>
          rw [hqt] at h
          simp only [Bool.not_true, Bool.false_eq_true, if_false]
          replace h : drawQuietS V i o fr σ fl (erDrawS V P call ops M frB k (pairsOf ops rest)) := h
          unfold drawQuietS at h
          have h := SRes.all_ok (hV o fr σ) h
          split at h
          · rename_i v σ1 he
            have := evalOp_same hqt he
            subst this
            refine ⟨v, he, ?_⟩
            cases hpb : pureB o.op with
            | true =>
              rw [hpb] at h
              refine erDrawS_ok hV hc rest _ _ fl _ hl' ⟨hcv.1, fun p hp => ?_⟩ h
              rcases List.mem_cons.1 hp with rfl | hp
              · exact .inr fun σ' => ⟨o, ho, evalOp_at hpb he⟩
              · exact hcv.2 p hp
            | false =>
              rw [hpb] at h
              refine erDrawS_ok hV hc rest _ _ (⟨i, o, fr, v, none⟩ :: fl) _ hl' ⟨fun q hq => ?_, fun p hp => ?_⟩ h
              · rcases List.mem_cons.1 hq with rfl | hq
                · exact ⟨ho, fun _ => hqt⟩
                · exact hcv.1 q hq
              · rcases List.mem_cons.1 hp with rfl | hp
                · exact .inl ⟨_, List.mem_cons_self .., rfl⟩
                · rcases hcv.2 p hp with ⟨q, hq, hqp⟩ | hpure
                  · exact .inl ⟨q, List.mem_cons_of_mem _ hq, hqp⟩
                  · exact .inr hpure
          · exact h.elim
        | false =>
          rw [hqt] at h
          simp only [Bool.not_false, if_true]
          replace h : ((V o fr σ).all fun r => stepK AQ call σ r (fun v σ' => stayS V P ops (bef M i) σ' (erDrawS V P call ops M frB k (pairsOf ops rest) (fr.put o.dst v) σ' fl) fl) (fun v σ' => k (.panic v) frB σ')) := h
          have h := SRes.all_ok (hV o fr σ) h
          refine stepK_ok AQ_good hc h (fun v σ' hv => ?_) fun v σ' hv => hv
          obtain ⟨h1, h2⟩ := stayS_ok hV fl hcv.1 hv
          refine ⟨fun p hp => ?_, erDrawS_ok hV hc rest _ _ _ _ hl' hcv h2⟩
          rcases hcv.2 p hp with ⟨q, hq, rfl⟩ | hpure
          · exact h1 q hq
          · exact .inr (hpure σ')

def erRegionS (V : OpEvS) (P : Program) (call : CallK Prop) (ops : Array Oper) (draw : Bool) (fr : HFrame) (σ : Store) (k : KX Prop) : Prop :=
  Bool.rec (erOpsS V call ops k ops.toList fr σ)
    (match planOf P ops with
      | some p => erDrawS V P call ops p.1 (blurF fr ops) k p.2 fr σ []
      | none => False) draw

def erCodeS (V : OpEvS) (P : Program) (B : FuncId → Bool) (E : Er Prop) (r : Option Nat) (c : Code) (fr : HFrame) (σ : Store) (k : KX Prop) : Prop :=
  match c with
  | .skip => k .normal fr σ
  | .label _ => k .normal fr σ
  | .exit id => k (.exit id) fr σ
  | .goto l => k (.goto l) fr σ
  | .ret => k .ret fr σ
  | .seq x y => erSeq E r x y fr σ k
  | .cond c x y => erCond AQ E r c x y fr σ k
  | .block id c => erBlock E r id c fr σ k
  | .loop c => erLoop E r c fr σ k
  | .region _ ops draw => erRegionS V P (erCall AQ E B) ops draw fr σ k
  | .rangeFunc g ps assign body => erRange AQ E B r g ps assign body fr σ k
  | _ => False

/-! ### Functions that defer -/
def erOpsDS (V : OpEvS) (ops : Array Oper) (k : HFrame → Store → List DefH → Prop) (l : List Oper) : HFrame → Store → List DefH → Prop :=
  List.rec (motive := fun _ => HFrame → Store → List DefH → Prop) (fun fr σ ds => k fr σ ds)
    (fun o _ ih fr σ ds => match wantedH ops o fr with
      | some true => match o.op with
        | .defer c => match defOf fr c with
          | some d => ih (fr.put o.dst (.tuple [])) σ (d :: ds)
          | none => False
        | _ => (V o fr σ).all fun r => match r with
          | .val v σ' => ih (fr.put o.dst v) σ' ds
          | _ => False
      | _ => False) l

theorem erOpsDS_ok {V : OpEvS} (hV : V.OK P) {ops : Array Oper} {k : HFrame → Store → List DefH → Prop} : ∀ (l : List Oper) (j : Nat) (fr : HFrame) (σ : Store) (ds : List DefH), ops.toList.drop j = l →
    erOpsDS V ops k l fr σ ds → HOpsD P ops k (List.range' j l.length) fr σ ds
  | [], j, fr, σ, ds, _, h => h
  | o :: rest, j, fr, σ, ds, hd, h => by
    have ho : ops[j]? = some o := by
      rw [← Array.getElem?_toList]
      have := congrArg List.head? hd
      simpa [List.head?_drop] using this
    have hd' : ops.toList.drop (j + 1) = rest := by
      rw [← List.tail_drop, hd]
      rfl
    rw [List.length_cons, List.range'_succ]
    simp only [HOpsD, ho]
    replace h : (match wantedH ops o fr with
      | some true => match o.op with
        | .defer c => match defOf fr c with
          | some d => erOpsDS V ops k rest (fr.put o.dst (.tuple [])) σ (d :: ds)
          | none => False
        | _ => (V o fr σ).all fun r => match r with
          | .val v σ' => erOpsDS V ops k rest (fr.put o.dst v) σ' ds
          | _ => False
      | _ => False) := h
    split at h
    · rename_i hw
      refine ⟨hw, ?_⟩
      split at h
      · rename_i c hop
        rw [hop]
        simp only
        split at h
        · rename_i d hdo
          rw [hdo]
          exact erOpsDS_ok hV rest (j + 1) _ _ _ hd' h
        · exact h.elim
      · rename_i hne
        have h := SRes.all_ok (hV o fr σ) h
        split
        · rename_i c hop; exact absurd hop (hne c)
        · split at h
          · rename_i v σ1 he
            rw [he]
            exact erOpsDS_ok hV rest (j + 1) _ _ _ hd' h
          · exact h.elim
    · exact h.elim

def erBS (V : OpEvS) (V1 : OpEv) (P : Program) (E : Er Prop) (rs : List ResultVar) (k : KE Prop) : Nat → Code → HFrame → Store → List DefH → Prop
  | 0, _, _, _, _ => False
  | n + 1, c, fr, σ, ds => if defersB c then match c with
      | .seq (.region _ ops false) c' => erOpsDS V ops (erBS V V1 P E rs k n c') ops.toList fr σ ds
      | _ => False
    else E.code none c fr σ (restK AQ V1 P rs k ds)

theorem erBS_ok {V : OpEvS} (hV : V.OK P) {V1 : OpEv} (hV1 : V1 = evalOp P) {E : Er Prop} (h1 : CodeK P (fun p => p) E.code) {fn : Func} {k : KE Prop} : ∀ (n : Nat) (c : Code) (fr : HFrame) (σ : Store) (ds : List DefH), erBS V V1 P E fn.results.toList k n c fr σ ds → HB P fn k c fr σ ds
  | 0, _, _, _, _, h => h.elim
  | n + 1, c, fr, σ, ds, h => by
    simp only [erBS] at h
    split at h
    · split at h
      · rename_i id ops c' hdb
        refine HB.region ?_
        have := erOpsDS_ok hV (k := erBS V V1 P E fn.results.toList k n c') ops.toList 0 fr σ ds (by simp) h
        rw [List.range_eq_range']
        have key : ∀ (l : List Nat) (fr : HFrame) (σ : Store) (ds : List DefH), HOpsD P ops (fun fr σ ds => erBS V V1 P E fn.results.toList k n c' fr σ ds) l fr σ ds → HOpsD P ops (fun fr σ ds => HB P fn k c' fr σ ds) l fr σ ds := by
          intro l
          induction l with
          | nil => intro fr σ ds h; exact erBS_ok hV hV1 h1 n c' fr σ ds h
          | cons i l ih =>
            intro fr σ ds h
            simp only [HOpsD] at h ⊢
            split at h
            · exact h.elim
            · obtain ⟨hw, h⟩ := h
              refine ⟨hw, ?_⟩
              split at h
              · split at h
                · exact ih _ _ _ h
                · exact h.elim
              · split at h
                · exact ih _ _ _ h
                · exact h.elim
        exact key _ _ _ _ (by simpa using this)
      · exact h.elim
    · refine HB.rest ((h1 _ _ _ _ _ h).mono fun x fr σ hx => ?_)
      cases x with
      | normal => exact leaveDK_ok AQ_good hV1 ds .ret σ hx
      | ret => exact leaveDK_ok AQ_good hV1 ds .ret σ hx
      | panic v => exact leaveDK_ok AQ_good hV1 ds (.pan v) σ hx
      | exit => exact hx.elim
      | goto => exact hx.elim

def erDefersS (V : OpEvS) (V1 : OpEv) (P : Program) (E : Er Prop) (f : FuncId) (args : List HV) (σ : Store) (k : KE Prop) : Prop :=
  match P.funcs[f]? with
  | none => False
  | some fn => match fn.body with
    | none => False
    | some c => if args.length ≤ fn.ntmps then erBS V V1 P E fn.results.toList k 6 c (enterH fn.ntmps σ.globs args) σ [] else False

theorem erDefersS_ok {V : OpEvS} (hV : V.OK P) {V1 : OpEv} (hV1 : V1 = evalOp P) {E : Er Prop} (h1 : CodeK P (fun p => p) E.code) {f : FuncId} {args : List HV} {σ : Store} {k : KE Prop} (h : erDefersS V V1 P E f args σ k) : HCall P f args σ k := by
  unfold erDefersS at h
  split at h
  · exact h.elim
  rename_i fn hf
  split at h
  · exact h.elim
  rename_i c hb
  split at h
  · rename_i hn
    exact HCall.of_defers hf hb hn (erBS_ok hV hV1 h1 6 c _ σ [] h)
  · exact h.elim

def erFnS (V : OpEvS) (V1 : OpEv) (P : Program) (D : FuncId → Bool) (S : SumsS) (E : Er Prop) (f : FuncId) (args : List HV) (σ : Store) (k : KE Prop) : Prop :=
  match S f with
  | some g => match g args σ with
    | some s => s.all k
    | none => False
  | none => Bool.rec (erBody AQ P E f args σ k) (erDefersS V V1 P E f args σ k) (D f)

theorem erFnS_ok {V : OpEvS} (hV : V.OK P) {V1 : OpEv} (hV1 : V1 = evalOp P) {D : FuncId → Bool} {S : SumsS} (hS : SumsSOK P S) {E : Er Prop} (h1 : CodeK P (fun p => p) E.code) : FnK P (fun p => p) (erFnS V V1 P D S E) := by
  intro f args σ k h
  unfold erFnS at h
  split at h
  · rename_i g hg
    split at h
    · rename_i s hs
      exact hS f g hg args σ s hs _ h
    · exact h.elim
  · cases hd : D f with
    | true => rw [hd] at h; exact erDefersS_ok hV hV1 h1 h
    | false => rw [hd] at h; exact erBody_ok AQ_good h1 h

def erS (V : OpEvS) (V1 : OpEv) (P : Program) (B D : FuncId → Bool) (S : SumsS) (n : Nat) : Er Prop :=
  Nat.rec (motive := fun _ => Er Prop) ⟨fun _ _ _ _ _ => False, fun _ _ _ _ => False⟩ (fun _ E => ⟨erCodeS V P B E, erFnS V V1 P D S E⟩) n

theorem erS_ok {V : OpEvS} (hV : V.OK P) {V1 : OpEv} (hV1 : V1 = evalOp P) (hm : P.follows .mixedOrders = true) {B D : FuncId → Bool} {S : SumsS} (hB : ∀ f, B f = true → hasBody P f = true) (hS : SumsSOK P S) :
    ∀ n m, m ≤ n → CodeK P (fun p => p) (erS V V1 P B D S m).code ∧ FnK P (fun p => p) (erS V V1 P B D S m).fn := by
  intro n
  induction n with
  | zero =>
    intro m hmn
    have : m = 0 := by omega
    subst this
    exact ⟨fun r c fr σ k h => h.elim, fun f args σ k h => h.elim⟩
  | succ n ih =>
    intro m hmn
    by_cases hle : m ≤ n
    · exact ih m hle
    have : m = n + 1 := by omega
    subst this
    obtain ⟨h1, h2⟩ := ih n (Nat.le_refl _)
    have hcall := erCall_ok AQ_good hB h1 h2
    refine ⟨?_, erFnS_ok hV hV1 hS h1⟩
    intro r c fr σ k h
    change erCodeS V P B (erS V V1 P B D S n) r c fr σ k at h
    cases c with
    | skip => exact HWp.skip h
    | label l => exact HWp.label h
    | exit id => exact HWp.exit h
    | goto l => exact HWp.goto h
    | ret => exact HWp.ret h
    | seq a b =>
      refine HWp.seq ((h1 _ _ _ _ _ h).mono fun x fr1 σ1 hx => ?_)
      cases x with
      | normal => exact h1 _ _ _ _ _ hx
      | _ => exact hx
    | cond c a b =>
      simp only [erCodeS, erCond] at h
      split at h
      · rename_i t hc
        refine HWp.cond hc ?_
        cases t with
        | true => exact h1 _ _ _ _ _ h
        | false => exact h1 _ _ _ _ _ h
      · exact h.elim
    | block id c =>
      refine HWp.block ((h1 _ _ _ _ _ h).mono fun x fr1 σ1 hx => ?_)
      cases x with
      | exit i =>
        simp only [HExit.inBlock]
        simp only at hx
        by_cases hid : i = id
        · subst hid
          rw [Nat.beq_refl] at hx
          rw [if_pos rfl]
          exact hx
        · have : Nat.beq i id = false := by cases hq : Nat.beq i id with | false => rfl | true => exact absurd (Nat.eq_of_beq_eq_true hq) hid
          rw [this] at hx
          rw [if_neg hid]
          exact hx
      | _ => exact hx
    | loop c =>
      classical
      let I : HFrame → Store → Nat → Prop := fun fr σ m => m ≤ n + 1 ∧ (erS V V1 P B D S m).code r (.loop c) fr σ k
      let μ : HFrame → Store → Nat := fun fr σ => if h : ∃ m, I fr σ m then Classical.choose (least h) else 0
      have hμ : ∀ fr σ, (∃ m, I fr σ m) → I fr σ (μ fr σ) ∧ ∀ k, I fr σ k → μ fr σ ≤ k := fun fr σ h => by
        simp only [μ, dif_pos h]
        exact Classical.choose_spec (least h)
      refine HWp.loop (fun fr σ => ∃ m, I fr σ m) μ ⟨n + 1, Nat.le_refl _, h⟩ ?_
      intro fr0 σ0 hI
      obtain ⟨hI1, _⟩ := hμ fr0 σ0 hI
      generalize μ fr0 σ0 = m at hI1
      obtain ⟨hmle, hev⟩ := hI1
      cases m with
      | zero => exact hev.elim
      | succ m =>
        change erLoop (erS V V1 P B D S m) r c fr0 σ0 k at hev
        obtain ⟨g1, _⟩ := ih m (by omega)
        refine (g1 _ _ _ _ _ hev).mono fun x fr1 σ1 hx => ?_
        cases x with
        | normal =>
          have hI2 : ∃ m, I fr1 σ1 m := ⟨m, by omega, hx⟩
          refine ⟨hI2, ?_⟩
          have := (hμ fr1 σ1 hI2).2 m ⟨by omega, hx⟩
          omega
        | _ => exact hx
    | region id ops draw =>
      cases draw with
      | false =>
        refine HWp.region ?_
        have := erOpsS_ok hV hcall (k := k) ops.toList 0 fr σ (by simp) h
        rw [List.range_eq_range']
        simpa using this
      | true =>
        replace h : (match planOf P ops with
          | some p => erDrawS V P (erCall AQ (erS V V1 P B D S n) B) ops p.1 (blurF fr ops) k p.2 fr σ []
          | none => False) := h
        split at h
        · rename_i p hp
          unfold planOf at hp
          split at hp
          · rename_i hpl
            cases hp
            simp only [Bool.and_eq_true, drawB, List.all_eq_true, decide_eq_true_eq] at hpl
            exact HWp.draw hm hpl.1.1 hpl.1.2 (erDrawS_ok hV hcall _ _ _ _ _ hpl.2 ⟨fun q hq => (by cases hq), fun p hp => (by cases hp)⟩ h)
          · cases hp
        · exact h.elim
    | rangeFunc g ps assign body =>
      replace h : erRange AQ (erS V V1 P B D S n) B r g ps assign body fr σ k := h
      unfold erRange at h
      split at h
      · rename_i f first cap hg
        split at h
        · rename_i hb
          refine HWp.rangeFunc hg (hB _ hb) ((h2 _ _ _ _ h).mono fun e σ2 he => ?_)
          cases e with
          | panicked v => exact he
          | returned v =>
            simp only at he
            split at he
            · rename_i st pend lf ps' as bo hblk
              split at he
              · exact he.elim
              · rename_i hbusy
                refine ⟨st, pend, lf, ps', as, bo, hblk, ?_, ?_⟩
                · intro e; subst e; exact hbusy rfl
                · split at he
                  · exact he
                  · exact h1 _ _ _ _ _ he
            · exact he.elim
        · exact h.elim
      · exact h.elim
    | _ => exact h.elim

end
end Go.HI
