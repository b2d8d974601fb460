/- Operations on unknown numbers and strings. -/
import Derived.Test.YtoadhpnmbchgcaaGreatDoorNa
namespace Go.HI
noncomputable section

variable {P : Program} {o : Oper} {fr : HFrame} {σ : Store}

theorem BA_add (a b : List UInt8) : ((⟨⟨a⟩⟩ : ByteArray) ++ ⟨⟨b⟩⟩) = ⟨⟨a ++ b⟩⟩ := by
  ext1
  simp

/-- Conditions, by name. -/
def nz (b : Int) : Prop := b ≠ 0
def fit2 (a b : List UInt8) : Prop := a.length + b.length ≤ 1000000000000
def inB (n : Int) (s : List UInt8) : Prop := 0 ≤ n ∧ n < s.length
def inP (l h : Int) (s : List UInt8) : Prop := 0 ≤ l ∧ l ≤ h ∧ h ≤ s.length

/-- Two strings. -/
def strS (op : BinOp) (a b : List UInt8) (σ : Store) : Option SRes :=
  match op with
  | .add => some (.guard (fit2 a b) (.one (.val (.str (a ++ b)) σ)))
  | .eql => some (.one (.val (.bool (a == b)) σ))
  | .neq => some (.one (.val (.bool (not (a == b))) σ))
  | .lss => some (.one (.val (.bool (Op.bytesLess a b)) σ))
  | .gtr => some (.one (.val (.bool (not (or (Op.bytesLess a b) (a == b)))) σ))
  | _ => none

theorem eqAny_str {t : TypeId} {a b : List UInt8} : eqAny P t (.str a) (.str b) = none := by
  simp only [eqAny, eqNil]
  cases P.underlying t with
  | none => rfl
  | some d => cases d <;> rfl

theorem strS_ok {op : BinOp} {t : TypeId} {x y : Operand} {u : TypeId} (ho : o.op = .binOp op t x y u) {a b : List UInt8} (hx : fr.eval x = .str a) (hy : fr.eval y = .str b) {s : SRes} (h : strS op a b σ = some s) : s.ok (evalOp P o fr σ) := by
  have hmem : memOp P o fr σ = none := by
    cases op <;> simp only [memOp, ho, hx, hy, eqAny_str, Option.map_none]
  have hP : memOpP P o fr σ = none := by
    simp only [memOpP, ho, hx, hy]
    cases op <;> rfl
  have he : evalOp P o fr σ = pureOp P o fr σ := by
    unfold evalOp
    rw [hP]
    unfold evalOp0
    rw [hmem]
  rw [he]
  cases op <;> simp only [strS, Option.some.injEq, reduceCtorEq] at h <;> subst h
  · intro hl
    have hl : a.length + b.length ≤ 1000000000000 := hl
    show pureOp P o fr σ = _
    have h1 : ¬ ((a.length + b.length : Nat) : Int) > IntKind.i64.max := by
      have : IntKind.i64.max = 9223372036854775807 := by decide
      rw [this]; omega
    have h2 : ¬ (9223372036854775807 : Int) < (({ data := ⟨a⟩ } : ByteArray).size : Int) + (({ data := ⟨b⟩ } : ByteArray).size : Int) := by
      show ¬ (9223372036854775807 : Int) < (a.length : Int) + (b.length : Int)
      omega
    simp [pureOp, isSelect, ho, allPlain, Op.operands, HV.plain, pureEv, execOp, eqGuard, binOp, Op.stringOp, runPure, hx, hy, pure, bind, Sem.bind, BA_add, HV.ofValue, HV.ofScalar]
    rw [if_neg h2]
    rfl
  all_goals
    show pureOp P o fr σ = _
    simp [pureOp, isSelect, ho, allPlain, Op.operands, HV.plain, pureEv, execOp, eqGuard, binOp, Op.stringOp, runPure, hx, hy, pure, bind, Sem.bind, HV.ofValue, HV.ofScalar, ByteArray.toList_eq]

/-- Division of whole numbers. -/
def divS (op : BinOp) (k : IntKind) (a b : Int) (σ : Store) : Option SRes :=
  match op with
  | .quo => some (.guard (nz b) (.one (.val (.int k (k.wrap (a.tdiv b))) σ)))
  | .rem => some (.guard (nz b) (.one (.val (.int k (a.tmod b)) σ)))
  | _ => none

theorem divS_ok {op : BinOp} {t : TypeId} {x y : Operand} {u : TypeId} (ho : o.op = .binOp op t x y u) {k : IntKind} {a b : Int} (hx : fr.eval x = .int k a) (hy : fr.eval y = .int k b) {s : SRes} (h : divS op k a b σ = some s) : s.ok (evalOp P o fr σ) := by
  have hmem : memOp P o fr σ = none := by
    cases op <;> simp only [memOp, ho, divS, reduceCtorEq] at h ⊢
  have hP : memOpP P o fr σ = none := by
    simp only [memOpP, ho, hx, hy]
    cases op <;> first | rfl | cases h
  have he : evalOp P o fr σ = pureOp P o fr σ := by
    unfold evalOp
    rw [hP]
    unfold evalOp0
    rw [hmem]
  rw [he]
  cases op <;> simp only [divS, Option.some.injEq, reduceCtorEq] at h <;> subst h
  all_goals
    intro hb
    have hb : b ≠ 0 := hb
    show pureOp P o fr σ = _
    simp [pureOp, isSelect, ho, allPlain, Op.operands, HV.plain, pureEv, execOp, eqGuard, binOp, Op.intDiv, runPure, hx, hy, hb, pure, bind, Sem.bind, HV.ofValue, HV.ofScalar]

/-- Shifts by unknown numbers. -/
def shiftS (op : BinOp) (k : IntKind) (a b : Int) (σ : Store) : Option SRes :=
  match op with
  | .shl => some (.guard (0 ≤ b) (.one (.val (.int k (shlQ k a (min b.toNat k.bits))) σ)))
  | .shr => some (.guard (0 ≤ b) (.one (.val (.int k (shrQ a (min b.toNat k.bits))) σ)))
  | _ => none

theorem shiftS_ok {op : BinOp} {t : TypeId} {x y : Operand} {u : TypeId} (ho : o.op = .binOp op t x y u) {k k' : IntKind} {a b : Int} (hx : fr.eval x = .int k a) (hy : fr.eval y = .int k' b) {s : SRes} (h : shiftS op k a b σ = some s) : s.ok (evalOp P o fr σ) := by
  cases op <;> simp only [shiftS, Option.some.injEq, reduceCtorEq] at h <;> subst h
  all_goals
    intro hb
    obtain ⟨n, rfl⟩ : ∃ n : Nat, b = .ofNat n := ⟨b.toNat, by simp; omega⟩
    exact shiftQ_ok ho hx hy rfl

def byteAt (s : List UInt8) (n : Int) : Int := ((s[n.toNat]?).getD 0).toNat

/-- A byte of a string. -/
def indexStrS (s : List UInt8) (n : Int) (σ : Store) : SRes := .guard (inB n s) (.one (.val (.int .u8 (byteAt s n)) σ))

theorem indexStrS_ok {t : TypeId} {x i : Operand} (ho : o.op = .index t x i) (hu : P.underlying t = some .string) {s : List UInt8} {k : IntKind} {n : Int} (hx : fr.eval x = .str s) (hi : fr.eval i = .int k n) : (indexStrS s n σ).ok (evalOp P o fr σ) := by
  rintro ⟨h0, h1⟩
  show evalOp P o fr σ = _
  have hP : memOpP P o fr σ = none := by simp only [memOpP, ho]
  unfold evalOp
  rw [hP]
  unfold evalOp0
  have hlt : n.toNat < s.length := by omega
  simp [memOp, ho, hu, hx, hi, intOf?, h0, byteAt, List.getElem?_eq_getElem hlt]

/-- A part of a string. -/
def sliceStrS (s : List UInt8) (lo hi : Option HV) (σ : Store) : Option SRes :=
  match optInt s.length hi, optInt 0 lo with
  | some h, some l => some (.guard (inP l h s) (.one (.val (.str ((s.take h.toNat).drop l.toNat)) σ)))
  | _, _ => none

theorem sliceStrS_ok {t : TypeId} {x : Operand} {lo hi : Option Operand} (ho : o.op = .slice t x lo hi none) (hu : P.underlying t = some .string) {s : List UInt8} (hx : fr.eval x = .str s) {r : SRes} (h : sliceStrS s (lo.map fr.eval) (hi.map fr.eval) σ = some r) : r.ok (evalOp P o fr σ) := by
  unfold sliceStrS at h
  split at h
  · rename_i h' l' e1 e2
    cases h
    intro hb
    have hb : 0 ≤ l' ∧ l' ≤ h' ∧ h' ≤ s.length := hb
    show evalOp P o fr σ = _
    have hP : memOpP P o fr σ = none := by simp only [memOpP, ho]
    unfold evalOp
    rw [hP]
    unfold evalOp0
    simp [memOp, ho, sliceH, hu, hx, bounds2, e1, e2, hb]
  · cases h

/-- The address of an element. -/
def addrCases (b o esz : Nat) (n : Int) (σ : Store) : Nat → List (Prop × OpRes)
  | 0 => []
  | k + 1 => (n = (k : Int), .val (.ptr (some (b, o + k * esz))) σ) :: addrCases b o esz n σ k

theorem addrCases_mem {b of esz : Nat} {n : Int} {σ : Store} : ∀ {k : Nat} {q : Prop × OpRes}, q ∈ addrCases b of esz n σ k → q.1 → ∃ j : Nat, j < k ∧ n = j ∧ q.2 = .val (.ptr (some (b, of + j * esz))) σ
  | 0, q, h, _ => by cases h
  | k + 1, q, h, hp => by
    rcases List.mem_cons.1 h with rfl | h
    · exact ⟨k, by omega, hp, rfl⟩
    · obtain ⟨j, h1, h2, h3⟩ := addrCases_mem h hp
      exact ⟨j, by omega, h2, h3⟩

def isLit (n : Int) : Bool := false

def indexAddrS (P : Program) (t : TypeId) (x : HV) (n : Int) (σ : Store) : Option SRes :=
  match P.underlying t, x with
  | some (.slice elem), .slice (some (b, o)) len esz => if Nat.ble len 64 && (Nat.beq esz (szOf P elem) && (P.info? elem).isSome) then some (.cases (addrCases b o esz n σ len)) else none
  | some (.array len elem), .ptr (some (b, o)) => if Nat.ble len 64 && (P.info? elem).isSome then some (.cases (addrCases b o (szOf P elem) n σ len)) else none
  | _, _ => none

theorem indexAddrS_ok {t : TypeId} {x i : Operand} (ho : o.op = .indexAddr t x i) {k : IntKind} {n : Int} (hi : fr.eval i = .int k n) {s : SRes} (h : indexAddrS P t (fr.eval x) n σ = some s) : s.ok (evalOp P o fr σ) := by
  have hP : memOpP P o fr σ = none := by simp only [memOpP, ho]
  unfold indexAddrS at h
  split at h
  · rename_i elem b of len esz hu hx
    split at h
    · rename_i hc
      cases h
      simp only [Bool.and_eq_true, Nat.ble_eq, Nat.beq_eq] at hc
      intro q hq hp
      obtain ⟨j, h1, h2, h3⟩ := addrCases_mem hq hp
      rw [h3]
      unfold evalOp
      rw [hP]
      unfold evalOp0
      have e1 : (0 : Int) ≤ n ∧ n < len := by omega
      have e2 : n.toNat = j := by omega
      simp only [memOp, ho, hi, intOf?, Option.bind_eq_bind, Option.bind_some, hu, hx, if_pos e1, e2, hc.2.1, hc.2.2, and_self, if_true]
      rfl
    · cases h
  · rename_i len elem b of hu hx
    split at h
    · rename_i hc
      cases h
      simp only [Bool.and_eq_true, Nat.ble_eq] at hc
      intro q hq hp
      obtain ⟨j, h1, h2, h3⟩ := addrCases_mem hq hp
      rw [h3]
      unfold evalOp
      rw [hP]
      unfold evalOp0
      have e1 : (0 : Int) ≤ n ∧ n < len ∧ (P.info? elem).isSome = true := ⟨by omega, by omega, hc.2⟩
      have e2 : n.toNat = j := by omega
      simp only [memOp, ho, hi, intOf?, Option.bind_eq_bind, Option.bind_some, hu, hx, if_pos e1, e2]
      rfl
    · cases h
  · cases h

/-- A truth value that is not known makes two ways. -/
def forkB (r : OpRes) : SRes :=
  match r with
  | .val v σ => match v with
    | .bool b => .ite b (.one (.val (.bool true) σ)) (.one (.val (.bool false) σ))
    | v => .one (.val v σ)
  | r => .one r

theorem forkB_ok (r : OpRes) : (forkB r).ok r := by
  unfold forkB
  split
  · split
    · rename_i b
      refine ⟨fun h => ?_, fun h => ?_⟩
      · subst h; rfl
      · subst h; rfl
    · rfl
  · rfl

def forkS (s : SRes) : SRes := SRes.rec (motive := fun _ => SRes) (fun r => forkB r) (fun p _ ih => .guard p ih) (fun b _ _ hx hy => .ite b hx hy) (fun l => .cases l) s

theorem forkS_ok {r0 : OpRes} : ∀ {s : SRes}, s.ok r0 → (forkS s).ok r0
  | .one r, h => by
    have h : r0 = r := h
    subst h
    exact forkB_ok r0
  | .guard p s, h => fun hp => forkS_ok (s := s) (h hp)
  | .ite b x y, h => ⟨fun hb => forkS_ok (s := x) (h.1 hb), fun hb => forkS_ok (s := y) (h.2 hb)⟩
  | .cases l, h => h

/-- Bits of two numbers. -/
def andZ (k : IntKind) (a b : Int) : Int := k.wrap ((BitVec.ofInt k.bits a &&& BitVec.ofInt k.bits b).toNat)
def orZ (k : IntKind) (a b : Int) : Int := k.wrap ((BitVec.ofInt k.bits a ||| BitVec.ofInt k.bits b).toNat)
def xorZ (k : IntKind) (a b : Int) : Int := k.wrap ((BitVec.ofInt k.bits a ^^^ BitVec.ofInt k.bits b).toNat)

def bitS (op : BinOp) (k : IntKind) (a b : Int) : Option HV :=
  match op with
  | .and => some (.int k (andZ k a b))
  | .or => some (.int k (orZ k a b))
  | .xor => some (.int k (xorZ k a b))
  | _ => none

theorem bitS_ok {op : BinOp} {t : TypeId} {x y : Operand} {u : TypeId} (ho : o.op = .binOp op t x y u) {k : IntKind} {a b : Int} (hx : fr.eval x = .int k a) (hy : fr.eval y = .int k b) {v : HV} (h : bitS op k a b = some v) : (SRes.one (.val v σ)).ok (evalOp P o fr σ) := by
  refine binFast_ok ?_
  unfold binFast
  simp only [ho, hx, hy, if_true]
  cases op <;> simp only [bitS, Option.some.injEq, reduceCtorEq] at h <;> subst h <;> rfl

def binS (P : Program) (o : Oper) (fr : HFrame) (σ : Store) (op : BinOp) (vx vy : HV) : SRes :=
  match vx with
  | .int k a => match vy with
    | .int k' b => match op with
      | .quo | .rem => if k = k' then match divS op k a b σ with
          | some s => s
          | none => .one (evalOpQ P o fr σ)
        else .one (evalOpQ P o fr σ)
      | .and | .or | .xor => if k = k' then match bitS op k a b with
          | some v => .one (.val v σ)
          | none => .one (evalOpQ P o fr σ)
        else .one (evalOpQ P o fr σ)
      | _ => .one (evalOpQ P o fr σ)
    | _ => .one (evalOpQ P o fr σ)
  | .str a => match vy with
    | .str b => match strS op a b σ with
      | some s => s
      | none => .one (evalOpQ P o fr σ)
    | _ => .one (evalOpQ P o fr σ)
  | _ => .one (evalOpQ P o fr σ)

theorem one_ok : (SRes.one (evalOpQ P o fr σ)).ok (evalOp P o fr σ) := by
  rw [evalOpQ_eq]
  rfl

theorem binS_ok {op : BinOp} {t : TypeId} {x y : Operand} {u : TypeId} (ho : o.op = .binOp op t x y u) : (binS P o fr σ op (fr.eval x) (fr.eval y)).ok (evalOp P o fr σ) := by
  unfold binS
  split
  · rename_i k a hx
    split
    · rename_i k' b hy
      split
      · split
        · rename_i hk
          subst hk
          split
          · rename_i s hs; exact divS_ok ho hx hy hs
          · exact one_ok
        · exact one_ok
      · split
        · rename_i hk
          subst hk
          split
          · rename_i s hs; exact divS_ok ho hx hy hs
          · exact one_ok
        · exact one_ok
      · split
        · rename_i hk
          subst hk
          split
          · rename_i v hv; exact bitS_ok ho hx hy hv
          · exact one_ok
        · exact one_ok
      · split
        · rename_i hk
          subst hk
          split
          · rename_i v hv; exact bitS_ok ho hx hy hv
          · exact one_ok
        · exact one_ok
      · split
        · rename_i hk
          subst hk
          split
          · rename_i v hv; exact bitS_ok ho hx hy hv
          · exact one_ok
        · exact one_ok
      · exact one_ok
    · exact one_ok
  · rename_i a hx
    split
    · rename_i b hy
      split
      · rename_i s hs; exact strS_ok ho hx hy hs
      · exact one_ok
    · exact one_ok
  · exact one_ok

/-- Shifts by an unknown number, and comparisons that make no two ways. -/
def binY (P : Program) (o : Oper) (fr : HFrame) (σ : Store) (op : BinOp) (vx vy : HV) : SRes :=
  match vx with
  | .int k a => match vy with
    | .int _ b => match shiftS op k a b σ with
      | some s => s
      | none => .one (evalOpQ P o fr σ)
    | _ => .one (evalOpQ P o fr σ)
  | _ => .one (evalOpQ P o fr σ)

theorem binY_ok {op : BinOp} {t : TypeId} {x y : Operand} {u : TypeId} (ho : o.op = .binOp op t x y u) : (binY P o fr σ op (fr.eval x) (fr.eval y)).ok (evalOp P o fr σ) := by
  unfold binY
  split
  · rename_i k a hx
    split
    · rename_i k' b hy
      split
      · rename_i s hs; exact shiftS_ok ho hx hy hs
      · exact one_ok
    · exact one_ok
  · exact one_ok

def addrY (P : Program) (o : Oper) (fr : HFrame) (σ : Store) (t : TypeId) (x i : HV) : SRes :=
  match i with
  | .int _ n => match indexAddrS P t x n σ with
    | some s => s
    | none => .one (evalOpQ P o fr σ)
  | _ => .one (evalOpQ P o fr σ)

/-- 'sy': which operations see unknown places. -/
def evalOpS (P : Program) (sy : Oper → Bool) : OpEvS := fun o fr σ =>
  match o.op with
  | .binOp op _ x y _ => Bool.rec (forkS (binS P o fr σ op (fr.eval x) (fr.eval y))) (binY P o fr σ op (fr.eval x) (fr.eval y)) (sy o)
  | .unOp _ _ _ => forkS (.one (evalOpQ P o fr σ))
  | .index t x i => match fr.eval x with
    | .str s => match P.underlying t with
      | some .string => match fr.eval i with
        | .int _ n => indexStrS s n σ
        | _ => .one (evalOpQ P o fr σ)
      | _ => .one (evalOpQ P o fr σ)
    | _ => .one (evalOpQ P o fr σ)
  | .slice t x lo hi none => match fr.eval x with
    | .str s => match P.underlying t with
      | some .string => match sliceStrS s (lo.map fr.eval) (hi.map fr.eval) σ with
        | some s => s
        | none => .one (evalOpQ P o fr σ)
      | _ => .one (evalOpQ P o fr σ)
    | _ => .one (evalOpQ P o fr σ)
  | .indexAddr t x i => Bool.rec (.one (evalOpQ P o fr σ)) (addrY P o fr σ t (fr.eval x) (fr.eval i)) (sy o)
  | _ => .one (evalOpQ P o fr σ)

theorem evalOpS_ok (sy : Oper → Bool) : (evalOpS P sy).OK P := by
  intro o fr σ
  unfold evalOpS
  split
  · rename_i op t x y u ho
    cases sy o with
    | false => exact forkS_ok (binS_ok ho)
    | true => exact binY_ok ho
  · exact forkS_ok one_ok
  · rename_i t x i ho
    split
    · rename_i s hx
      split
      · rename_i hu
        split
        · rename_i k n hi; exact indexStrS_ok ho hu hx hi
        · exact one_ok
      · exact one_ok
    · exact one_ok
  · rename_i t x lo hi ho
    split
    · rename_i s hx
      split
      · rename_i hu
        split
        · rename_i r hr; exact sliceStrS_ok ho hu hx hr
        · exact one_ok
      · exact one_ok
    · exact one_ok
  · rename_i t x i ho
    cases sy o with
    | false => exact one_ok
    | true =>
      show (addrY P o fr σ t (fr.eval x) (fr.eval i)).ok _
      unfold addrY
      split
      · rename_i k n hi
        split
        · rename_i s hs; exact indexAddrS_ok ho hi hs
        · exact one_ok
      · exact one_ok
  · exact one_ok

end
end Go.HI
