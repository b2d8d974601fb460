/- The abstract heap: values, tries, stores, and one executable function for all operations of the machine. -/
import Derived.RangeFuncLeaves
import Derived.RangeFuncRecord
import Derived.OrdersIn
import Derived.Laws.Cells
namespace Go.HI
noncomputable section

/-! ### Tries -/
inductive T (α : Type) where
  | e
  | n (l : T α) (v : Option α) (r : T α)

namespace T
variable {α : Type}
def getC : T α → Nat → Option α
  | .e, _ => none
  | .n l v r, i => match i with
    | 0 => v
    | j + 1 => if j % 2 = 0 then l.getC (j / 2) else r.getC (j / 2)

def left : T α → T α
  | .e => .e
  | .n l _ _ => l
def right : T α → T α
  | .e => .e
  | .n _ _ r => r
def here : T α → Option α
  | .e => none
  | .n _ v _ => v

def setF : Nat → T α → Nat → α → T α
  | 0, t, _, _ => t
  | f + 1, t, i, x => match i with
    | 0 => .n t.left (some x) t.right
    | j + 1 => if j % 2 = 0 then .n (setF f t.left (j / 2) x) t.here t.right else .n t.left t.here (setF f t.right (j / 2) x)

def setC (t : T α) (i : Nat) (x : α) : T α := setF (i + 1) t i x

theorem get_eq (t : T α) (i : Nat) : t.getC i = match i with
    | 0 => t.here
    | j + 1 => if j % 2 = 0 then t.left.getC (j / 2) else t.right.getC (j / 2) := by
  cases t with
  | e => cases i <;> simp [getC, here, left, right]
  | n l v r => cases i <;> simp [getC, here, left, right]

theorem get_setF (x : α) : ∀ (f : Nat) (t : T α) (i k : Nat), i < f → (setF f t i x).getC k = if k = i then some x else t.getC k := by
  intro f
  induction f with
  | zero => intro t i k h; omega
  | succ f ih =>
    intro t i k h
    cases i with
    | zero =>
      simp only [setF]
      cases k with
      | zero => simp [getC]
      | succ m => rw [get_eq t]; simp [getC]
    | succ j =>
      simp only [setF]
      cases k with
      | zero => rw [get_eq t]; split <;> simp [getC]
      | succ m =>
        rw [get_eq t]
        split <;> rename_i hj <;> simp only [getC] <;> split <;> rename_i hm
        · rw [ih _ _ _ (by omega)]
          by_cases e : m = j
          · subst e; simp
          · have e' : ¬ m / 2 = j / 2 := by omega
            simp [e, e']
        · have : ¬ m = j := by omega
          simp [this]
        · have : ¬ m = j := by omega
          simp [this]
        · rw [ih _ _ _ (by omega)]
          by_cases e : m = j
          · subst e; simp
          · have e' : ¬ m / 2 = j / 2 := by omega
            simp [e, e']

theorem getC_setC (t : T α) (i k : Nat) (x : α) : (t.setC i x).getC k = if k = i then some x else t.getC k := get_setF x _ t i k (by omega)

/-- For the kernel: by the recursors. -/
noncomputable def get (t : T α) : Nat → Option α :=
  T.rec (motive := fun _ => Nat → Option α) (fun _ => none) (fun _ v _ gl gr i => Bool.rec (Bool.rec (gr (Nat.div (Nat.pred i) 2)) (gl (Nat.div (Nat.pred i) 2)) (Nat.beq (Nat.mod (Nat.pred i) 2) 0)) v (Nat.beq i 0)) t

noncomputable def setR (f : Nat) : T α → Nat → α → T α := fun t i x =>
  Nat.rec (motive := fun _ => T α → Nat → T α) (fun t _ => t) (fun _ ih t i => T.rec (motive := fun _ => T α)
    (Bool.rec (Bool.rec (.n .e none (ih .e (Nat.div (Nat.pred i) 2))) (.n (ih .e (Nat.div (Nat.pred i) 2)) none .e) (Nat.beq (Nat.mod (Nat.pred i) 2) 0)) (.n .e (some x) .e) (Nat.beq i 0))
    (fun l v r _ _ => Bool.rec (Bool.rec (.n l v (ih r (Nat.div (Nat.pred i) 2))) (.n (ih l (Nat.div (Nat.pred i) 2)) v r) (Nat.beq (Nat.mod (Nat.pred i) 2) 0)) (.n l (some x) r) (Nat.beq i 0)) t) f t i

noncomputable def set (t : T α) (i : Nat) (x : α) : T α := setR (Nat.succ i) t i x

theorem get_getC : ∀ (t : T α) (i : Nat), t.get i = t.getC i
  | .e, i => rfl
  | .n l v r, i => by
    cases i with
    | zero => rfl
    | succ j =>
      have h1 := get_getC l (j / 2)
      have h2 := get_getC r (j / 2)
      have e : (T.n l v r).get (j + 1) = Bool.rec (r.get (j / 2)) (l.get (j / 2)) (Nat.beq (j % 2) 0) := rfl
      rw [e, h1, h2]
      simp only [getC]
      by_cases hj : j % 2 = 0
      · rw [if_pos hj, hj]; rfl
      · rw [if_neg hj]
        have : Nat.beq (j % 2) 0 = false := by cases hq : Nat.beq (j % 2) 0 with | false => rfl | true => exact absurd (Nat.eq_of_beq_eq_true hq) hj
        rw [this]

theorem setR_setF (x : α) : ∀ (f : Nat) (t : T α) (i : Nat), setR f t i x = setF f t i x := by
  intro f
  induction f with
  | zero => intro t i; rfl
  | succ f ih =>
    intro t i
    cases i with
    | zero => cases t <;> rfl
    | succ j =>
      have e : setR (f + 1) t (j + 1) x = Bool.rec (.n t.left t.here (setR f t.right (j / 2) x)) (.n (setR f t.left (j / 2) x) t.here t.right) (Nat.beq (j % 2) 0) := by cases t <;> rfl
      rw [e, ih, ih]
      simp only [setF]
      by_cases hj : j % 2 = 0
      · rw [if_pos hj, hj]; rfl
      · rw [if_neg hj]
        have : Nat.beq (j % 2) 0 = false := by cases hq : Nat.beq (j % 2) 0 with | false => rfl | true => exact absurd (Nat.eq_of_beq_eq_true hq) hj
        rw [this]

theorem set_setC (t : T α) (i : Nat) (x : α) : t.set i x = t.setC i x := setR_setF x (i + 1) t i


theorem get_set (t : T α) (i k : Nat) (x : α) : (t.set i x).get k = if k = i then some x else t.get k := by
  rw [set_setC, get_getC, getC_setC, get_getC]
@[simp] theorem get_e (k : Nat) : (T.e : T α).get k = none := rfl
end T

/-! ### Values -/
inductive HV where
  | any
  | bool (b : Bool)
  | int (k : IntKind) (n : Int)
  | str (s : List UInt8)
  /-- a string with so many zeros behind -/
  | pad (p : List UInt8) (n : Nat)
  | ptr (a : Option (Nat × Nat))
  | slice (a : Option (Nat × Nat)) (len esz : Nat)
  | map (r : Option Nat)
  | func (fn : Fn) (first captured : List HV)
  | nilFunc
  | iface (t : TypeId) (v : HV)
  | nilIface
  | agg (cs : List HV)
  | tuple (vs : List HV)
  deriving Inhabited

mutual
def HV.beq : HV → HV → Bool
  | .any, .any => true
  | .bool a, .bool b => a == b
  | .int j a, .int k b => decide (j = k) && decide (a = b)
  | .str a, .str b => a == b
  | .pad a m, .pad b n => a == b && m == n
  | .ptr a, .ptr b => a == b
  | .slice a m i, .slice b n j => a == b && m == n && i == j
  | .map a, .map b => a == b
  | .func f a b, .func g c d => decide (f = g) && HV.beqs a c && HV.beqs b d
  | .nilFunc, .nilFunc => true
  | .iface t v, .iface u w => t == u && HV.beq v w
  | .nilIface, .nilIface => true
  | .agg a, .agg b => HV.beqs a b
  | .tuple a, .tuple b => HV.beqs a b
  | _, _ => false
def HV.beqs : List HV → List HV → Bool
  | [], [] => true
  | a :: as, b :: bs => HV.beq a b && HV.beqs as bs
  | _, _ => false
end

/-! Values without addresses are the machine's own. -/
mutual
def HV.plain : HV → Option Value
  | .bool b => some (.bool b)
  | .int k n => some (.int k n)
  | .str s => some (.string ⟨⟨s⟩⟩)
  | .ptr none => some (.pointer none)
  | .map none => some (.map none)
  | .nilFunc => some .nilFunc
  | .iface t v => (HV.plain v).map (.iface t ·)
  | .nilIface => some .nilIface
  | .agg cs => (HV.plains cs).map fun l => .agg ⟨l⟩
  | .tuple cs => (HV.plains cs).map fun l => .tuple ⟨l⟩
  | _ => none
def HV.plains : List HV → Option (List Value)
  | [] => some []
  | v :: vs => match HV.plain v, HV.plains vs with
    | some a, some l => some (a :: l)
    | _, _ => none
end

/-- A machine's value without addresses, as an abstract one (one level of cells is enough). -/
def HV.ofScalar : Value → Option HV
  | .bool b => some (.bool b)
  | .int k n => some (.int k n)
  | .string s => some (.str s.data.toList)
  | .pointer none => some (.ptr none)
  | .slice none 0 0 => some (.slice none 0 0)
  | .map none => some (.map none)
  | .nilFunc => some .nilFunc
  | .nilIface => some .nilIface
  | _ => none
def HV.ofScalars : List Value → Option (List HV)
  | [] => some []
  | v :: vs => match HV.ofScalar v, HV.ofScalars vs with
    | some a, some l => some (a :: l)
    | _, _ => none
def HV.ofValue : Value → Option HV
  | .agg cs => (HV.ofScalars cs.toList).map .agg
  | .tuple cs => (HV.ofScalars cs.toList).map .tuple
  | v => HV.ofScalar v

/-- The cells of which a value consists. -/
def HV.cells : HV → List HV
  | .agg cs => cs
  | v => [v]

/-! ### Blocks and stores -/
structure HEntry where
  key : HV
  val : HV
  born : Nat

/-- 'gl': the package-level variables that are known. -/
structure HFrame where
  slots : T HV
  nt : Nat
  gl : List Nat

def HFrame.get (fr : HFrame) (t : Nat) : HV := (fr.slots.get t).getD .any
def HFrame.put (fr : HFrame) (d : Option Tmp) (v : HV) : HFrame :=
  match d with
  | some d => { fr with slots := fr.slots.set d v }
  | none => fr
def HFrame.eval (fr : HFrame) : Operand → HV
  | .tmp t => if t < fr.nt then fr.get t else .any
  | .const v => (HV.ofValue v).getD .any
  | .global g => if fr.gl.contains g then .ptr (some (g, 0)) else .any
  | .func f => .func (.func f) [] []

inductive HBlk where
  /-- 'none': a variable; 'some (family, place, version)': an array -/
  | cells (c : List HV) (k : Option (Nat × Nat × Nat))
  | map (es : List HEntry) (clock : Nat)
  | iter (m : Option Nat) (since : Nat) (seen : List Nat) (last : Nat)
  | loop (st : LoopState) (pend : Option Code) (fr : HFrame) (ps : Array Tmp) (assign body : Code)
  /-- a map whose order nobody asks for -/
  | omap (es : List (HV × HV))
  /-- an array of bytes, for itself: these, and so many zeros -/
  | pad (p : List UInt8) (n : Nat)

structure Fam where
  floor : Nat
  last : Nat
  top : Nat

structure Store where
  blks : T HBlk
  next : Nat
  fams : T Fam
  globs : List Nat

def Store.validK (σ : Store) : Option (Nat × Nat × Nat) → Bool
  | none => true
  | some (f, _, v) => match σ.fams.get f with
    | some F => decide (F.floor ≤ v)
    | none => false

def Store.cells? (σ : Store) (b : Nat) : Option (List HV × Option (Nat × Nat × Nat)) :=
  match σ.blks.get b with
  | some (.cells c k) => if σ.validK k then some (c, k) else none
  | _ => none

def Store.loadN (σ : Store) (b o n : Nat) : Option (List HV) :=
  match σ.cells? b with
  | some (c, _) => if o + n ≤ c.length then some ((c.drop o).take n) else none
  | none => none

def splice (c : List HV) (o : Nat) (vs : List HV) : List HV := c.take o ++ vs ++ c.drop (o + vs.length)

def Store.push (σ : Store) (x : HBlk) : Store := { σ with blks := σ.blks.set σ.next x, next := σ.next + 1 }

/-- A new array: a family of its own. -/
def Store.pushArr (σ : Store) (c : List HV) : Store :=
  { σ with blks := σ.blks.set σ.next (.cells c (some (σ.next, 0, 0))), next := σ.next + 1, fams := σ.fams.set σ.next ⟨0, 0, c.length⟩ }

/-- Writing: a variable, or the newest of its family; the elder ones are gone. -/
def Store.storeN (σ : Store) (b o : Nat) (vs : List HV) : Option Store :=
  match σ.cells? b with
  | some (c, k) =>
    if o + vs.length ≤ c.length then
      match k with
      | none => some { σ with blks := σ.blks.set b (.cells (splice c o vs) k) }
      | some (f, _, v) => match σ.fams.get f with
        | some F => if v = F.last then some { σ with blks := σ.blks.set b (.cells (splice c o vs) k), fams := σ.fams.set f { F with floor := v } } else none
        | none => none
    else none
  | none => none

/-- append: the new array 'xs ++ ys' of the family of block b, where 'xs' lies from o on. -/
def Store.grow (σ : Store) (b o : Nat) (xs ys : List HV) : Option Store :=
  match σ.cells? b with
  | some (_, some (f, p, _)) => match σ.fams.get f with
    | some F =>
      let at_ := p + o + xs.length
      some { σ with
             blks := σ.blks.set σ.next (.cells (xs ++ ys) (some (f, p + o, F.last + 1))), next := σ.next + 1,
             fams := σ.fams.set f (if F.top ≤ at_ then { F with last := F.last + 1, top := at_ + ys.length } else { floor := F.last + 1, last := F.last + 1, top := at_ + ys.length }) }
    | none => none
  | _ => none

/-! ### Pure programs -/
inductive PRes (α : Type) where
  | val (a : α)
  | panic (v : Value)
  | no

def runPure {α : Type} (P : Program) : Sem α → PRes α
  | .pure a => .val a
  | .program k => runPure P (k P)
  | .halt (.panic v) => .panic v
  | _ => .no

inductive OpRes where
  | val (v : HV) (σ : Store)
  | alts (l : List (HV × Store))
  | panic (v : HV)
  | call (fv : HV) (args : List HV)
  | stuck

def isAggB (P : Program) (t : TypeId) : Bool :=
  match P.underlying t with
  | some (.struct _) | some (.array _ _) => true
  | _ => false
def szOf (P : Program) (t : TypeId) : Nat := P.cellsOf t

def mkLoad (P : Program) (t : TypeId) (l : List HV) : HV := if isAggB P t then .agg l else l.getD 0 .any

def zeroHV (P : Program) (t : TypeId) : Option HV := ((P.info? t).bind (·.zero)).bind HV.ofValue

def fillH (place : Nat → Option (Nat × Nat)) (cells : List HV) : List (Nat × HV) → Option (List HV)
  | [] => some cells
  | (i, v) :: rest =>
    match place i with
    | none => none
    | some (off, size) =>
      if v.cells.length ≠ size || off + v.cells.length > cells.length then none
      else fillH place (splice cells off v.cells) rest

def ptrRes (o : Option (Nat × Nat)) : HV := .ptr o

def intOf? : HV → Option Int
  | .int _ n => some n
  | _ => none

def optInt (d : Int) : Option HV → Option Int
  | some v => intOf? v
  | none => some d

/-- The bounds of a slice expression: low and high (no third index), within the length. -/
def bounds2 (len : Nat) (lo hi : Option HV) : Option (Nat × Nat) :=
  match optInt len hi, optInt 0 lo with
  | some h, some l => if 0 ≤ l ∧ l ≤ h ∧ h ≤ len then some (l.toNat, h.toNat) else none
  | _, _ => none

end
end Go.HI

/- The abstract heap: one executable function for all operations of the machine. -/
namespace Go.HI
noncomputable section

/-- Equality of two values of a type, by the type's layout; 'none' where it is not read off at once. -/
def eqT (P : Program) : Nat → TypeId → List HV → List HV → Option Bool
  | 0, _, _, _ => none
  | d + 1, t, xs, ys =>
    match P.underlying t with
    | some .bool => match xs, ys with
      | [.bool a], [.bool b] => some (a == b)
      | _, _ => none
    | some (.int _) => match xs, ys with
      | [.int k a], [.int k' b] => if k = k' then some (a == b) else none
      | _, _ => none
    | some .string => match xs, ys with
      | [.str a], [.str b] => some (a == b)
      | _, _ => none
    | some (.struct fs) =>
      if P.stoodInHeld t then none else
      fs.toList.foldr (fun f r => if f.name = "_" then none else
        match eqT P d f.type ((xs.drop f.offset).take (szOf P f.type)) ((ys.drop f.offset).take (szOf P f.type)), r with
        | some a, some b => some (a && b)
        | _, _ => none) (some true)
    | _ => none

def shapeOK (P : Program) (t : TypeId) : HV → Bool
  | .any => false
  | .agg _ => isAggB P t
  | _ => !isAggB P t

def keyEq (P : Program) (t : TypeId) (a b : HV) : Option Bool := if shapeOK P t a && shapeOK P t b then eqT P 12 t a.cells b.cells else none

def keyOK (P : Program) (t : TypeId) (k : HV) : Bool := (keyEq P t k k).isSome

/-- The place of a key in a map. -/
def findIx (P : Program) (t : TypeId) (k : HV) : List HEntry → Option (Option Nat)
  | [] => some none
  | e :: es => match keyEq P t k e.key with
    | some true => some (some 0)
    | some false => (findIx P t k es).map fun r => r.map (· + 1)
    | none => none

/-- The values of all entries with a key (every comparison says yes or no). -/
def hitsU (P : Program) (t : TypeId) (k : HV) : List (HV × HV) → Option (List HV)
  | [] => some []
  | e :: es => match keyEq P t k e.1, hitsU P t k es with
    | some b, some l => some (if b then e.2 :: l else l)
    | _, _ => none

/-- The value of a key, in whatever order the entries lie. -/
def findU (P : Program) (t : TypeId) (k : HV) (es : List (HV × HV)) : Option (Option HV) :=
  match hitsU P t k es with
  | some [] => some none
  | some [v] => some (some v)
  | _ => none

def simpleCell : HV → Bool
  | .bool _ | .int _ _ | .str _ => true
  | _ => false

/-- The same key to the bit. -/
def sameKey (a b : HV) : Bool :=
  match a, b with
  | .agg xs, .agg ys => xs.all simpleCell && HV.beqs xs ys
  | a, b => simpleCell a && HV.beq a b

def modifyE (i : Nat) (k v : HV) (es : List HEntry) : List HEntry := es.modify i fun e => ⟨k, v, e.born⟩

def updK (P : Program) (t : TypeId) (k v : HV) (clock : Nat) (es : List HEntry) : Option (List HEntry × Nat) :=
  match findIx P t k es with
  | some none => some (es ++ [⟨k, v, clock⟩], clock + 1)
  | some (some i) => match es[i]? with
    | some e => if sameKey e.key k then some (modifyE i k v es, clock) else none
    | none => none
  | none => none

def bytesOf? : List HV → Option (List UInt8)
  | [] => some []
  | .int .u8 n :: l => (bytesOf? l).map (UInt8.ofNat n.toNat :: ·)
  | _ => none

def optRes (r : Option OpRes) : OpRes := r.getD .stuck

def allPlain (fr : HFrame) (xs : List Operand) : Bool := xs.all fun x => ((fr.eval x).plain).isSome

def pureEv (fr : HFrame) (x : Operand) : Value := ((fr.eval x).plain).getD undef

def isSelect : Op → Bool
  | .select .. => true
  | _ => false

/-- An operation all of whose operands are without addresses, and which runs no memory. -/
def pureOp (P : Program) (o : Oper) (fr : HFrame) (σ : Store) : OpRes :=
  if isSelect o.op then .stuck else
  if allPlain fr o.op.operands.toList then
    match runPure P (execOp (pureEv fr) o) with
    | .val (.value v) => match HV.ofValue v with
      | some h => .val h σ
      | none => .stuck
    | .panic _ => .panic .any
    | _ => .stuck
  else .stuck

/-- What one cell can hold for sure. -/
def scalarHV : HV → Bool
  | .any | .agg _ | .tuple _ => false
  | _ => true

/-- The elements of what append and copy take: a slice's or a string's. -/
def elems (σ : Store) (size n : Nat) : HV → Option (List HV)
  | .slice none _ _ => some []
  | .slice (some (b, o)) _ e => if e = size then σ.loadN b o (n * size) else none
  | .str s => if size = 1 then some ((s.take n).map fun b => .int .u8 b.toNat) else none
  | _ => none

def lenH : HV → Option Nat
  | .slice _ n _ => some n
  | .str s => some s.length
  | _ => none

def appendH (P : Program) (argTypes : Array TypeId) (s x : HV) (σ : Store) : Option OpRes := do
  let st ← argTypes[0]?
  let .slice elem ← P.underlying st | none
  match argTypes[1]? with
  | some xt => match P.underlying xt with
    | some (.slice _) | some .string => pure ()
    | _ => none
  | none => none
  let size := szOf P elem
  let .slice base sLen esz := s | none
  let n ← lenH x
  if (P.info? elem).isNone then none
  if n = 0 then return .val s σ
  let ys ← elems σ size n x
  let z ← zeroHV P elem
  if z.cells.length ≠ size then none
  if !ys.all scalarHV then none
  if (2 * (sLen + n) + 768) * P.bytesOf elem > 2 ^ 48 ∨ sLen + n > 2 ^ 40 then none
  match base with
  | none => if sLen = 0 then return .val (.slice (some (σ.next, 0)) n size) (σ.pushArr ys) else none
  | some (b, o) =>
    if esz ≠ size then none
    let xs ← σ.loadN b o (sLen * size)
    let σ' ← σ.grow b o xs ys
    return .val (.slice (some (σ.next, 0)) (sLen + n) size) σ'

def copyH (P : Program) (argTypes : Array TypeId) (d x : HV) (σ : Store) : Option OpRes := do
  let dt ← argTypes[0]?
  let .slice elem ← P.underlying dt | none
  let size := szOf P elem
  let .slice base dLen esz := d | none
  let m ← lenH x
  if (P.info? elem).isNone then none
  let n := min m dLen
  if n = 0 then return .val (.int .i64 0) σ
  let ys ← elems σ size n x
  match base with
  | none => none
  | some (b, o) =>
    if esz ≠ size ∨ !ys.all scalarHV then none
    let σ' ← σ.storeN b o ys
    return .val (.int .i64 n) σ'

def builtinH (P : Program) (b : Builtin) (argTypes : Array TypeId) (args : List HV) (σ : Store) : Option OpRes :=
  match b, args with
  | .append, [s, x] => appendH P argTypes s x σ
  | .copy, [d, x] => copyH P argTypes d x σ
  | .len, [x] => do
    let t ← argTypes[0]?
    match P.underlying t, x with
    | some .string, .str s => return .val (.int .i64 s.length) σ
    | some .string, .pad p n => return .val (.int .i64 (p.length + n : Nat)) σ
    | some (.slice _), .slice _ n _ => return .val (.int .i64 n) σ
    | some (.array n _), _ => return .val (.int .i64 n) σ
    | some (.map _ _), .map none => return .val (.int .i64 0) σ
    | some (.map _ _), .map (some r) => match σ.blks.get r with
      | some (.map es _) => return .val (.int .i64 es.length) σ
      | _ => none
    | _, _ => none
  | .clear, [x] => do
    let t ← argTypes[0]?
    match P.underlying t, x with
    | some (.slice elem), .slice base n esz =>
      let z ← zeroHV P elem
      let (b, o) ← base
      if n = 0 ∨ esz ≠ szOf P elem ∨ z.cells.length ≠ esz ∨ !z.cells.all scalarHV then none
      let σ' ← σ.storeN b o (List.replicate n z.cells).flatten
      return .val (.tuple []) σ'
    | _, _ => none
  | .delete, [m, k] => do
    let t ← argTypes[0]?
    let .map kt _ ← P.underlying t | none
    match m with
    | .map (some r) => match σ.blks.get r with
      | some (.map es clock) => do
        if !keyOK P kt k then none
        if (P.underlying kt).isNone then none
        match ← findIx P kt k es with
        | some i => if i < es.length then return .val (.tuple []) { σ with blks := σ.blks.set r (.map (es.eraseIdx i) clock) } else none
        | none => return .val (.tuple []) { σ with blks := σ.blks.set r (.map es clock) }
      | _ => none
    | _ => none
  | _, _ => none

/-- How far a slice expression may reach (no further than what is there; a third index must come with a second). -/
def topOf (len : Nat) (hi mx : Option HV) : Option Nat :=
  match mx with
  | none => some len
  | some m => match intOf? m, hi with
    | some m, some _ => if 0 ≤ m ∧ m ≤ len then some m.toNat else none
    | _, _ => none

def padSlice (p : List UInt8) (n l h : Nat) : Option HV :=
  if h ≤ p.length then some (.str ((p.take h).drop l)) else if h ≤ p.length + n ∧ l ≤ p.length then some (.pad (p.drop l) (h - p.length)) else none

def sliceH (P : Program) (t : TypeId) (x : HV) (lo hi mx : Option HV) (σ : Store) : Option OpRes :=
  match P.underlying t, x with
  | some .string, .str s => do
    if mx.isSome then none
    let (l, h) ← bounds2 s.length lo hi
    return .val (.str ((s.take h).drop l)) σ
  | some .string, .pad p n => do
    if mx.isSome then none
    let (l, h) ← bounds2 (p.length + n) lo hi
    let r ← padSlice p n l h
    return .val r σ
  | some (.slice elem), .slice (some (b, o)) len esz => do
    let top ← topOf len hi mx
    let (l, h) ← bounds2 top lo hi
    if esz ≠ szOf P elem ∨ (P.info? elem).isNone then none
    return .val (.slice (some (b, o + l * szOf P elem)) (h - l) (szOf P elem)) σ
  | some (.slice elem), .slice a len esz => do
    let (l, h) ← bounds2 len lo hi
    let size := szOf P elem
    if mx.isSome ∨ (P.info? elem).isNone then none
    match a with
    | none => return .val (.slice none 0 esz) σ
    | some (b, o) => if esz ≠ size then none else return .val (.slice (some (b, o + l * size)) (h - l) size) σ
  | some (.array n elem), .ptr (some (b, o)) => do
    let (l, h) ← bounds2 n lo hi
    let size := szOf P elem
    if mx.isSome ∨ (P.info? elem).isNone then none
    let (c, _) ← σ.cells? b
    if c.length < o + n * size then none
    return .val (.slice (some (b, o + l * size)) (h - l) size) σ
  | _, _ => none

def isAny : HV → Bool
  | .any => true
  | _ => false

def eqNil (P : Program) (t : TypeId) (x y : HV) : Option Bool :=
  match P.underlying t, x, y with
  | some (.pointer _), .ptr a, .ptr none => some a.isNone
  | some (.pointer _), .ptr none, .ptr a => some a.isNone
  | some (.slice _), .slice a _ _, .slice none _ _ => some a.isNone
  | some (.slice _), .slice none _ _, .slice a _ _ => some a.isNone
  | some (.map _ _), .map a, .map none => some a.isNone
  | some (.map _ _), .map none, .map a => some a.isNone
  | some (.func _ _ _), .func _ _ _, .nilFunc => some false
  | some (.func _ _ _), .nilFunc, .func _ _ _ => some false
  | some (.interface _), .iface _ _, .nilIface => some false
  | some (.interface _), .nilIface, .iface _ _ => some false
  | _, _, _ => none


def eqAny (P : Program) (t : TypeId) (x y : HV) : Option Bool :=
  match x, y with
  | .agg xs, .agg ys => if P.eqGuardType P.depth t || !isAggB P t then none else eqT P 12 t xs ys
  | x, y => eqNil P t x y

/-- The operations that see addresses. -/
def memOp (P : Program) (o : Oper) (fr : HFrame) (σ : Store) : Option OpRes :=
  match o.op with
  | .move x | .assign x => some (.val (fr.eval x) σ)
  | .pick c a b => match fr.eval c with
    | .bool t => some (.val (if t then fr.eval a else fr.eval b) σ)
    | _ => none
  | .alloc elem => do
    let z ← zeroHV P elem
    return .val (.ptr (some (σ.next, 0))) (σ.push (.cells z.cells none))
  | .box _ x => if isAny (fr.eval x) then none else
    some (.val (.ptr (some (σ.next, 0))) (σ.push (.cells (fr.eval x).cells none)))
  | .build t parts => do
    let z ← zeroHV P t
    let ps := parts.toList.map fun (i, x) => (i, fr.eval x)
    if !(ps.all fun p => !isAny p.2) then none
    match P.underlying t with
    | some (.struct fields) =>
      if !(fields.toList.all fun f => (P.info? f.type).isSome) then none
      let cells ← fillH (fun i => (fields[i]?).map fun f => (f.offset, szOf P f.type)) z.cells ps
      return .val (.agg cells) σ
    | some (.array _ elem) =>
      if (P.info? elem).isNone then none
      let size := szOf P elem
      let cells ← fillH (fun i => some (i * size, size)) z.cells ps
      return .val (.agg cells) σ
    | _ => none
  | .buildSlice t len parts => do
    let .slice elem ← P.underlying t | none
    let size := szOf P elem
    if len * size > 2 ^ 24 then none
    let z ← zeroHV P elem
    if z.cells.length ≠ size then none
    let ps := parts.toList.map fun (i, x) => (i, fr.eval x)
    if !(ps.all fun p => !isAny p.2) then none
    let cells ← fillH (fun i => some (i * size, size)) (List.replicate len z.cells).flatten ps
    return .val (.slice (some (σ.next, 0)) len size) (σ.pushArr cells)
  | .load t a => match fr.eval a with
    | .ptr (some (b, o)) => do
      if (P.underlying t).isNone ∨ (P.info? t).isNone then none
      let l ← σ.loadN b o (szOf P t)
      if isAggB P t ∨ l.length = 1 then return .val (mkLoad P t l) σ else none
    | _ => none
  | .store t a x => match fr.eval a with
    | .ptr (some (b, o)) => do
      if (P.info? t).isNone ∨ isAny (fr.eval x) ∨ (fr.eval x).cells.length ≠ szOf P t ∨ !(fr.eval x).cells.all scalarHV then none
      let σ' ← σ.storeN b o (fr.eval x).cells
      return .val (.tuple []) σ'
    | _ => none
  | .nilCheck x => match fr.eval x with
    | .ptr none | .nilIface | .nilFunc => some (.panic .any)
    | .ptr (some a) => some (.val (.ptr (some a)) σ)
    | .func (.func f) a c => some (.val (.func (.func f) a c) σ)
    | .func (.yield l) a c => some (.val (.func (.yield l) a c) σ)
    | _ => none
  | .binOp .eql t x y _ => (eqAny P t (fr.eval x) (fr.eval y)).map fun b => .val (.bool b) σ
  | .binOp .neq t x y _ => (eqAny P t (fr.eval x) (fr.eval y)).map fun b => .val (.bool !b) σ
  | .convert src dst x => match P.underlying src, P.underlying dst, fr.eval x with
    | some (.slice e), some .string, .slice a n esz =>
      if P.underlying e matches some (.int .u8) then
        match a with
        | none => some (.val (.str []) σ)
        | some (b, o) => do
          if esz ≠ 1 then none
          let l ← σ.loadN b o n
          let s ← bytesOf? l
          return .val (.str s) σ
      else none
    | some .string, some (.slice e), .str s =>
      if P.underlying e matches some (.int .u8) then
        some (.val (.slice (some (σ.next, 0)) s.length 1) (σ.pushArr (s.map fun b => .int .u8 b.toNat)))
      else none
    | _, _, _ => none
  | .makeInterface t x => match P.underlying t with
    | some (.interface _) | none => none
    | some _ => some (.val (.iface t (fr.eval x)) σ)
  | .makeFunc fn first captured => if (fn matches .yield _) then none else some (.val (.func fn (first.toList.map fr.eval) (captured.toList.map fr.eval)) σ)
  | .makeMap _ none => some (.val (.map (some σ.next)) (σ.push (.map [] 0)))
  | .makeSlice t len cap => do
    let .slice elem ← P.underlying t | none
    let l ← intOf? (fr.eval len)
    let c ← intOf? (fr.eval cap)
    if l < 0 ∨ c < l ∨ c > 2 ^ 40 ∨ P.bytesOf elem * c.toNat > 2 ^ 48 then none
    let z ← zeroHV P elem
    let size := szOf P elem
    if z.cells.length ≠ size then none
    let cells := if size = 1 then List.replicate l.toNat (z.cells.getD 0 .any) else (List.replicate l.toNat z.cells).flatten
    return .val (.slice (some (σ.next, 0)) l.toNat size) (σ.pushArr cells)
  | .slice t x lo hi mx => sliceH P t (fr.eval x) (lo.map fr.eval) (hi.map fr.eval) (mx.map fr.eval) σ
  | .fieldAddr s x f => match fr.eval x, P.underlying s with
    | .ptr (some (b, o)), some (.struct fields) => do
      let fd ← fields[f]?
      if szOf P fd.type = 0 then none
      return .val (.ptr (some (b, o + fd.offset))) σ
    | _, _ => none
  | .field t x f => match fr.eval x, P.underlying t with
    | .agg cs, some (.struct fields) => do
      let fd ← fields[f]?
      if (P.underlying fd.type).isNone then none
      let v ← if isAggB P fd.type then some (HV.agg ((cs.drop fd.offset).take (szOf P fd.type))) else cs[fd.offset]?
      return .val v σ
    | _, _ => none
  | .indexAddr t x i => do
    let i ← intOf? (fr.eval i)
    match P.underlying t, fr.eval x with
    | some (.slice elem), .slice (some (b, o)) len esz =>
      if 0 ≤ i ∧ i < len then
        if esz = szOf P elem ∧ (P.info? elem).isSome then return .val (.ptr (some (b, o + i.toNat * esz))) σ else none
      else return .panic .any
    | some (.slice _), .slice none _ _ => return .panic .any
    | some (.array len elem), .ptr (some (b, o)) =>
      if 0 ≤ i ∧ i < len ∧ (P.info? elem).isSome then return .val (.ptr (some (b, o + i.toNat * szOf P elem))) σ else none
    | _, _ => none
  | .index t x i => do
    let i ← intOf? (fr.eval i)
    match P.underlying t, fr.eval x with
    | some .string, .str s =>
      if 0 ≤ i then match s[i.toNat]? with
        | some c => return .val (.int .u8 c.toNat) σ
        | none => return .panic .any
      else return .panic .any
    | some .string, .pad p n =>
      if 0 ≤ i then match p[i.toNat]? with
        | some c => return .val (.int .u8 c.toNat) σ
        | none => if i.toNat < p.length + n then return .val (.int .u8 0) σ else none
      else none
    | some (.array len elem), .agg cs =>
      if 0 ≤ i ∧ i < len ∧ (P.underlying elem).isSome then
        let v ← if isAggB P elem then some (HV.agg ((cs.drop (i.toNat * szOf P elem)).take (szOf P elem))) else cs[i.toNat * szOf P elem]?
        return .val v σ
      else none
    | _, _ => none
  | .lookup t m k ok => do
    let .map kt et ← P.underlying t | none
    let z ← zeroHV P et
    if (P.underlying kt).isNone then none
    let r ← match fr.eval m with
      | .map none => if keyOK P kt (fr.eval k) then some none else none
      | .map (some r) => match σ.blks.get r with
        | some (.map es _) => if keyOK P kt (fr.eval k) then (findIx P kt (fr.eval k) es).map fun i => i.bind fun i => (es[i]?).map (·.val) else none
        | some (.omap es) => if keyOK P kt (fr.eval k) then findU P kt (fr.eval k) es else none
        | _ => none
      | _ => none
    match r with
    | some v => return .val (if ok then .tuple [v, .bool true] else v) σ
    | none => return .val (if ok then .tuple [z, .bool false] else z) σ
  | .mapUpdate t m k v | .insert t m k v => do
    let .map kt _ ← P.underlying t | none
    if (P.underlying kt).isNone then none
    match fr.eval m with
    | .map (some r) => match σ.blks.get r with
      | some (.map es clock) => do
        if !keyOK P kt (fr.eval k) then none
        let (es', c') ← updK P kt (fr.eval k) (fr.eval v) clock es
        return .val (.tuple []) { σ with blks := σ.blks.set r (.map es' c') }
      | _ => none
    | _ => none
  | .range t x => match P.underlying t, fr.eval x with
    | some (.map _ _), .map none => some (.val (.ptr (some (σ.next, 0))) (σ.push (.iter none 0 [] 0)))
    | some (.map _ _), .map (some m) => match σ.blks.get m with
      | some (.map _ clock) => some (.val (.ptr (some (σ.next, 0))) (σ.push (.iter (some m) clock [] clock)))
      | _ => none
    | _, _ => none
  | .next it false => match fr.eval it with
    | .ptr (some (r, 0)) => match σ.blks.get r with
      | some (.iter none _ _ _) => some (.val (.tuple [.bool false]) σ)
      | some (.iter (some m) since seen last) => match σ.blks.get m with
        | some (.map es clock) =>
          if !seen.isEmpty && !es.isEmpty && es.all (fun e => decide (e.born ≥ last)) then none else
          let left := es.filter fun e => !seen.contains e.born
          let old := left.filter fun e => decide (e.born < since)
          let new := left.filter fun e => decide (e.born ≥ since)
          some (.alts ((if old.isEmpty then [(.tuple [.bool false], σ)] else []) ++ (old ++ new).map fun e =>
            (.tuple [.bool true, e.key, e.val], { σ with blks := σ.blks.set r (.iter (some m) since (seen ++ [e.born]) clock) })))
        | _ => none
      | _ => none
    | _ => none
  | .entry it => match fr.eval it with
    | .ptr (some (r, 0)) => match σ.blks.get r with
      | some (.iter (some m) _ seen stepped) => match σ.blks.get m with
        | some (.map es clock) => do
          let stamp ← seen.getLast?
          if clock ≠ stepped then none
          let e ← es.find? fun e => e.born == stamp
          return .val (.tuple [e.key, e.val]) σ
        | _ => none
      | _ => none
    | _ => none
  | .typeAssert x _ asserted ok => do
    let u ← P.underlying asserted
    match u, fr.eval x with
    | .interface want, .iface t v =>
      let i ← P.info? t
      match Instr.missingMethod want i.methods with
      | none => return .val (if ok then .tuple [.iface t v, .bool true] else .iface t v) σ
      | some _ => match ok, zeroHV P asserted with
        | true, some .nilIface => return .val (.tuple [.nilIface, .bool false]) σ
        | _, _ => none
    | .interface _, .nilIface => match ok, zeroHV P asserted with
      | true, some .nilIface => return .val (.tuple [.nilIface, .bool false]) σ
      | _, _ => none
    | _, .nilIface => do
      let z ← zeroHV P asserted
      if ok then return .val (.tuple [z, .bool false]) σ else none
    | _, .iface t v =>
      if t = asserted then return .val (if ok then .tuple [v, .bool true] else v) σ else do
      let z ← zeroHV P asserted
      if ok then return .val (.tuple [z, .bool false]) σ else none
    | _, _ => none
  | .extract x i => match fr.eval x with
    | .tuple vs => (vs[i]?).map fun v => .val v σ
    | _ => none
  | .call { callee := .value f, args, .. } => some (.call (fr.eval f) (args.toList.map fr.eval))
  | .call { callee := .builtin b, args, argTypes } => builtinH P b argTypes (args.toList.map fr.eval) σ
  | .panic x => match fr.eval x with
    | .iface t v => some (.panic (.iface t v))
    | _ => none
  | _ => none

def evalOp0 (P : Program) (o : Oper) (fr : HFrame) (σ : Store) : OpRes :=
  match memOp P o fr σ with
  | some r => r
  | none => pureOp P o fr σ

end
end Go.HI

/- How an abstract store is found in the machine's memory: the relation, and its first laws. -/
namespace Go.HI
noncomputable section

structure Loc where
  blk : Nat
  base : Nat
  tot : Nat

abbrev Ren := Nat → Option Loc

mutual
def VRel (ρ : Ren) : HV → Value → Prop
  | .any, _ => True
  | .bool b, v => v = .bool b
  | .int k n, v => v = .int k n
  | .str s, v => v = .string ⟨⟨s⟩⟩
  | .pad p n, v => v = .string ⟨⟨p ++ List.replicate n 0⟩⟩
  | .ptr none, v => v = .pointer none
  | .ptr (some (b, o)), v => ∃ L, ρ b = some L ∧ v = .pointer (some ⟨L.blk, L.base + o, none⟩)
  | .slice none n _, v => n = 0 ∧ v = .slice none 0 0
  | .slice (some (b, o)) n e, v =>
    (∃ L cap, ρ b = some L ∧ n ≤ cap ∧ L.base + o + cap * e ≤ L.tot ∧ v = .slice (some ⟨L.blk, L.base + o, none⟩) n cap) ∨
    (n = 0 ∧ ∃ a, v = .slice (some a) 0 0)
  | .map none, v => v = .map none
  | .map (some r), v => ∃ L, ρ r = some L ∧ v = .map (some L.blk)
  | .func fn first cap, v => ∃ fn' a c, v = .func fn' a c ∧
      (match fn with
       | .yield l => ∃ L, ρ l = some L ∧ fn' = .yield L.blk
       | _ => fn' = fn) ∧ VsRel ρ first a.toList ∧ VsRel ρ cap c.toList
  | .nilFunc, v => v = .nilFunc
  | .iface t x, v => ∃ x', v = .iface t x' ∧ VRel ρ x x'
  | .nilIface, v => v = .nilIface
  | .agg cs, v => ∃ vs, v = .agg vs ∧ VsRel ρ cs vs.toList
  | .tuple cs, v => ∃ vs, v = .tuple vs ∧ VsRel ρ cs vs.toList
def VsRel (ρ : Ren) : List HV → List Value → Prop
  | [], vs => vs = []
  | h :: hs, vs => ∃ v vs', vs = v :: vs' ∧ VRel ρ h v ∧ VsRel ρ hs vs'
end

def Ren.sub (ρ ρ' : Ren) : Prop := ∀ b L, ρ b = some L → ρ' b = some L
theorem Ren.sub.refl (ρ : Ren) : ρ.sub ρ := fun _ _ h => h
theorem Ren.sub.trans {a b c : Ren} (h : a.sub b) (k : b.sub c) : a.sub c := fun x L hx => k x L (h x L hx)

mutual
theorem VRel.mono {ρ ρ' : Ren} (hs : ρ.sub ρ') : ∀ (h : HV) (v : Value), VRel ρ h v → VRel ρ' h v
  | .any, _, _ => by simp [VRel]
  | .bool _, _, h => by simpa [VRel] using h
  | .int _ _, _, h => by simpa [VRel] using h
  | .str _, _, h => by simpa [VRel] using h
  | .pad _ _, _, h => by simpa [VRel] using h
  | .ptr none, _, h => by simpa [VRel] using h
  | .ptr (some (b, o)), v, h => by
    simp only [VRel] at h ⊢
    obtain ⟨L, h1, h2⟩ := h
    exact ⟨L, hs _ _ h1, h2⟩
  | .slice none _ _, _, h => by simpa [VRel] using h
  | .slice (some (b, o)) n e, v, h => by
    simp only [VRel] at h ⊢
    rcases h with ⟨L, cap, h1, h2⟩ | h
    · exact .inl ⟨L, cap, hs _ _ h1, h2⟩
    · exact .inr h
  | .map none, _, h => by simpa [VRel] using h
  | .map (some r), v, h => by
    simp only [VRel] at h ⊢
    obtain ⟨L, h1, h2⟩ := h
    exact ⟨L, hs _ _ h1, h2⟩
  | .func fn first cap, v, h => by
    simp only [VRel] at h ⊢
    obtain ⟨fn', a, c, h1, h2, h3, h4⟩ := h
    refine ⟨fn', a, c, h1, ?_, VsRel.mono hs _ _ h3, VsRel.mono hs _ _ h4⟩
    cases fn with
    | yield l => obtain ⟨L, h5, h6⟩ := h2; exact ⟨L, hs _ _ h5, h6⟩
    | _ => exact h2
  | .nilFunc, _, h => by simpa [VRel] using h
  | .iface t x, v, h => by
    simp only [VRel] at h ⊢
    obtain ⟨x', h1, h2⟩ := h
    exact ⟨x', h1, VRel.mono hs _ _ h2⟩
  | .nilIface, _, h => by simpa [VRel] using h
  | .agg cs, v, h => by
    simp only [VRel] at h ⊢
    obtain ⟨vs, h1, h2⟩ := h
    exact ⟨vs, h1, VsRel.mono hs _ _ h2⟩
  | .tuple cs, v, h => by
    simp only [VRel] at h ⊢
    obtain ⟨vs, h1, h2⟩ := h
    exact ⟨vs, h1, VsRel.mono hs _ _ h2⟩
theorem VsRel.mono {ρ ρ' : Ren} (hs : ρ.sub ρ') : ∀ (h : List HV) (v : List Value), VsRel ρ h v → VsRel ρ' h v
  | [], _, h => by simpa [VsRel] using h
  | x :: xs, vs, h => by
    simp only [VsRel] at h ⊢
    obtain ⟨v, vs', h1, h2, h3⟩ := h
    exact ⟨v, vs', h1, VRel.mono hs _ _ h2, VsRel.mono hs _ _ h3⟩
end

/-! ### Lists -/
section
variable {ρ : Ren}
theorem VsRel.length : ∀ {h : List HV} {v : List Value}, VsRel ρ h v → h.length = v.length
  | [], _, h => by simp only [VsRel] at h; simp [h]
  | x :: xs, vs, h => by
    simp only [VsRel] at h
    obtain ⟨v, vs', rfl, _, h3⟩ := h
    simp [h3.length]
@[simp] theorem VsRel.nil : VsRel ρ [] [] := by simp [VsRel]
@[simp] theorem VsRel.cons_iff {h : HV} {hs : List HV} {v : Value} {vs : List Value} : VsRel ρ (h :: hs) (v :: vs) ↔ VRel ρ h v ∧ VsRel ρ hs vs := by
  simp only [VsRel, List.cons.injEq]
  constructor
  · rintro ⟨v', vs', ⟨rfl, rfl⟩, h1, h2⟩; exact ⟨h1, h2⟩
  · rintro ⟨h1, h2⟩; exact ⟨v, vs, ⟨rfl, rfl⟩, h1, h2⟩
@[simp] theorem VsRel.nil_cons {v : Value} {vs : List Value} : ¬ VsRel ρ [] (v :: vs) := by simp [VsRel]
@[simp] theorem VsRel.cons_nil {h : HV} {hs : List HV} : ¬ VsRel ρ (h :: hs) [] := by simp [VsRel]

theorem VsRel.iff_get : ∀ {h : List HV} {v : List Value}, VsRel ρ h v ↔ h.length = v.length ∧ ∀ (i : Nat) (x : HV) (y : Value), h[i]? = some x → v[i]? = some y → VRel ρ x y
  | [], [] => by simp
  | [], _ :: _ => by simp
  | _ :: _, [] => by simp
  | a :: as, b :: bs => by
    rw [VsRel.cons_iff, VsRel.iff_get (h := as) (v := bs)]
    constructor
    · rintro ⟨h1, h2, h3⟩
      refine ⟨by simp [h2], fun i x y hx hy => ?_⟩
      cases i with
      | zero => simp at hx hy; subst hx; subst hy; exact h1
      | succ i => simp at hx hy; exact h3 i x y hx hy
    · rintro ⟨h1, h2⟩
      exact ⟨h2 0 a b (by simp) (by simp), by simpa using h1, fun i x y hx hy => h2 (i + 1) x y (by simpa using hx) (by simpa using hy)⟩

theorem VsRel.get {h : List HV} {v : List Value} (hr : VsRel ρ h v) {i : Nat} {x : HV} (hx : h[i]? = some x) : ∃ y, v[i]? = some y ∧ VRel ρ x y := by
  obtain ⟨h1, h2⟩ := VsRel.iff_get.1 hr
  have hi : i < h.length := by
    rcases Nat.lt_or_ge i h.length with h' | h'
    · exact h'
    · simp [List.getElem?_eq_none h'] at hx
  have hi' : i < v.length := by omega
  exact ⟨v[i], by simp [hi'], h2 i _ _ hx (by simp [hi'])⟩

theorem VsRel.append {a b : List HV} {a' b' : List Value} (h : VsRel ρ a a') (k : VsRel ρ b b') : VsRel ρ (a ++ b) (a' ++ b') := by
  induction a generalizing a' with
  | nil => cases a' with
    | nil => simpa using k
    | cons => simp at h
  | cons x xs ih => cases a' with
    | nil => simp at h
    | cons y ys =>
      rw [VsRel.cons_iff] at h
      simp only [List.cons_append, VsRel.cons_iff]
      exact ⟨h.1, ih h.2⟩

theorem VsRel.take {a : List HV} {a' : List Value} (h : VsRel ρ a a') (n : Nat) : VsRel ρ (a.take n) (a'.take n) := by
  induction n generalizing a a' with
  | zero => simp
  | succ n ih => cases a with
    | nil => cases a' with
      | nil => simp
      | cons => simp at h
    | cons x xs => cases a' with
      | nil => simp at h
      | cons y ys => rw [VsRel.cons_iff] at h; simp only [List.take_succ_cons, VsRel.cons_iff]; exact ⟨h.1, ih h.2⟩

theorem VsRel.drop {a : List HV} {a' : List Value} (h : VsRel ρ a a') (n : Nat) : VsRel ρ (a.drop n) (a'.drop n) := by
  induction n generalizing a a' with
  | zero => simpa using h
  | succ n ih => cases a with
    | nil => cases a' with
      | nil => simp
      | cons => simp at h
    | cons x xs => cases a' with
      | nil => simp at h
      | cons y ys => rw [VsRel.cons_iff] at h; simp only [List.drop_succ_cons]; exact ih h.2

theorem VsRel.replicate {x : HV} {v : Value} (h : VRel ρ x v) (n : Nat) : VsRel ρ (List.replicate n x) (List.replicate n v) := by
  induction n with
  | zero => simp
  | succ n ih => simp only [List.replicate_succ, VsRel.cons_iff]; exact ⟨h, ih⟩

theorem VsRel.map {α : Type} {f : α → HV} {g : α → Value} (l : List α) (h : ∀ x ∈ l, VRel ρ (f x) (g x)) : VsRel ρ (l.map f) (l.map g) := by
  induction l with
  | nil => simp
  | cons x xs ih => simp only [List.map_cons, VsRel.cons_iff]; exact ⟨h x (by simp), ih fun y hy => h y (by simp [hy])⟩

theorem VsRel.splice {c vs : List HV} {c' vs' : List Value} (h : VsRel ρ c c') (k : VsRel ρ vs vs') (o : Nat) :
    VsRel ρ (splice c o vs) (c'.take o ++ vs' ++ c'.drop (o + vs'.length)) := by
  unfold HI.splice
  rw [← k.length]
  exact ((h.take o).append k).append (h.drop _)
end

/-! ### Values without addresses -/
mutual
theorem VRel.of_plain {ρ : Ren} : ∀ (h : HV) (v : Value), h.plain = some v → VRel ρ h v
  | .any, _, h => by simp [HV.plain] at h
  | .bool _, _, h => by simp [HV.plain] at h; simp [VRel, h]
  | .int _ _, _, h => by simp [HV.plain] at h; simp [VRel, h]
  | .str _, _, h => by simp [HV.plain] at h; simp [VRel, h]
  | .pad .., _, h => by simp [HV.plain] at h
  | .ptr none, _, h => by simp [HV.plain] at h; simp [VRel, h]
  | .ptr (some _), _, h => by simp [HV.plain] at h
  | .slice .., _, h => by simp [HV.plain] at h
  | .map none, _, h => by simp [HV.plain] at h; simp [VRel, h]
  | .map (some _), _, h => by simp [HV.plain] at h
  | .func .., _, h => by simp [HV.plain] at h
  | .nilFunc, _, h => by simp [HV.plain] at h; simp [VRel, h]
  | .iface t x, _, h => by
    simp only [HV.plain, Option.map_eq_some_iff] at h
    obtain ⟨x', h1, h2⟩ := h
    simp only [VRel]
    exact ⟨x', h2.symm, VRel.of_plain x x' h1⟩
  | .nilIface, _, h => by simp [HV.plain] at h; simp [VRel, h]
  | .agg cs, _, h => by
    simp only [HV.plain, Option.map_eq_some_iff] at h
    obtain ⟨l, h1, h2⟩ := h
    simp only [VRel]
    exact ⟨⟨l⟩, h2.symm, VsRel.of_plains cs l h1⟩
  | .tuple cs, _, h => by
    simp only [HV.plain, Option.map_eq_some_iff] at h
    obtain ⟨l, h1, h2⟩ := h
    simp only [VRel]
    exact ⟨⟨l⟩, h2.symm, VsRel.of_plains cs l h1⟩
theorem VsRel.of_plains {ρ : Ren} : ∀ (h : List HV) (v : List Value), HV.plains h = some v → VsRel ρ h v
  | [], _, h => by simp [HV.plains] at h; simp [VsRel, h]
  | x :: xs, vs, h => by
    simp only [HV.plains] at h
    split at h
    · rename_i a l h1 h2
      simp at h
      subst h
      rw [VsRel.cons_iff]
      exact ⟨VRel.of_plain x a h1, VsRel.of_plains xs l h2⟩
    · simp at h
end

mutual
theorem VRel.plain_eq {ρ : Ren} : ∀ (h : HV) (v v' : Value), h.plain = some v → VRel ρ h v' → v' = v
  | .any, _, _, h, _ => by simp [HV.plain] at h
  | .bool _, _, _, h, k => by simp [HV.plain] at h; simp [VRel] at k; rw [k, h]
  | .int _ _, _, _, h, k => by simp [HV.plain] at h; simp [VRel] at k; rw [k, h]
  | .str _, _, _, h, k => by simp [HV.plain] at h; simp [VRel] at k; rw [k, h]
  | .pad .., _, _, h, _ => by simp [HV.plain] at h
  | .ptr none, _, _, h, k => by simp [HV.plain] at h; simp [VRel] at k; rw [k, h]
  | .ptr (some _), _, _, h, _ => by simp [HV.plain] at h
  | .slice .., _, _, h, _ => by simp [HV.plain] at h
  | .map none, _, _, h, k => by simp [HV.plain] at h; simp [VRel] at k; rw [k, h]
  | .map (some _), _, _, h, _ => by simp [HV.plain] at h
  | .func .., _, _, h, _ => by simp [HV.plain] at h
  | .nilFunc, _, _, h, k => by simp [HV.plain] at h; simp [VRel] at k; rw [k, h]
  | .iface t x, _, _, h, k => by
    simp only [HV.plain, Option.map_eq_some_iff] at h
    obtain ⟨x', h1, h2⟩ := h
    simp only [VRel] at k
    obtain ⟨x'', h3, h4⟩ := k
    rw [h3, ← h2, VRel.plain_eq x x' x'' h1 h4]
  | .nilIface, _, _, h, k => by simp [HV.plain] at h; simp [VRel] at k; rw [k, h]
  | .agg cs, _, _, h, k => by
    simp only [HV.plain, Option.map_eq_some_iff] at h
    obtain ⟨l, h1, h2⟩ := h
    simp only [VRel] at k
    obtain ⟨vs, h3, h4⟩ := k
    rw [h3, ← h2, ← VsRel.plains_eq cs l _ h1 h4]
  | .tuple cs, _, _, h, k => by
    simp only [HV.plain, Option.map_eq_some_iff] at h
    obtain ⟨l, h1, h2⟩ := h
    simp only [VRel] at k
    obtain ⟨vs, h3, h4⟩ := k
    rw [h3, ← h2, ← VsRel.plains_eq cs l _ h1 h4]
theorem VsRel.plains_eq {ρ : Ren} : ∀ (h : List HV) (v v' : List Value), HV.plains h = some v → VsRel ρ h v' → v' = v
  | [], _, _, h, k => by simp [HV.plains] at h; simp [VsRel] at k; rw [k, h]
  | x :: xs, vs, vs', h, k => by
    simp only [HV.plains] at h
    split at h
    · rename_i a l h1 h2
      simp at h
      subst h
      cases vs' with
      | nil => simp at k
      | cons y ys =>
        rw [VsRel.cons_iff] at k
        rw [VRel.plain_eq x a y h1 k.1, VsRel.plains_eq xs l ys h2 k.2]
    · simp at h
end

theorem VRel.of_scalar {ρ : Ren} {v : Value} {h : HV} (e : HV.ofScalar v = some h) : VRel ρ h v := by
  unfold HV.ofScalar at e
  split at e <;> simp at e <;> subst e <;> simp [VRel]
theorem VsRel.of_scalars {ρ : Ren} : ∀ {v : List Value} {h : List HV}, HV.ofScalars v = some h → VsRel ρ h v
  | [], _, e => by simp [HV.ofScalars] at e; subst e; simp
  | x :: xs, _, e => by
    simp only [HV.ofScalars] at e
    split at e
    · rename_i a l h1 h2
      simp at e
      subst e
      rw [VsRel.cons_iff]
      exact ⟨VRel.of_scalar h1, VsRel.of_scalars h2⟩
    · simp at e
theorem VRel.of_value {ρ : Ren} {v : Value} {h : HV} (e : HV.ofValue v = some h) : VRel ρ h v := by
  unfold HV.ofValue at e
  split at e
  · rename_i cs
    simp only [Option.map_eq_some_iff] at e
    obtain ⟨l, h1, rfl⟩ := e
    simp only [VRel]
    exact ⟨cs, rfl, VsRel.of_scalars h1⟩
  · rename_i cs
    simp only [Option.map_eq_some_iff] at e
    obtain ⟨l, h1, rfl⟩ := e
    simp only [VRel]
    exact ⟨cs, rfl, VsRel.of_scalars h1⟩
  · exact VRel.of_scalar e

theorem VRel.cells {ρ : Ren} {h : HV} {v : Value} (hr : VRel ρ h v) (hn : isAny h = false) : VsRel ρ h.cells v.cells.toList := by
  cases h with
  | any => simp [isAny] at hn
  | agg cs => simp only [VRel] at hr; obtain ⟨vs, rfl, h⟩ := hr; simpa [HV.cells, Value.cells] using h
  | bool b => have hr' := hr; simp only [VRel] at hr; subst hr; simpa [HV.cells, Value.cells] using hr'
  | int b => have hr' := hr; simp only [VRel] at hr; subst hr; simpa [HV.cells, Value.cells] using hr'
  | str b => have hr' := hr; simp only [VRel] at hr; subst hr; simpa [HV.cells, Value.cells] using hr'
  | pad b => have hr' := hr; simp only [VRel] at hr; subst hr; simpa [HV.cells, Value.cells] using hr'
  | nilFunc => have hr' := hr; simp only [VRel] at hr; subst hr; simpa [HV.cells, Value.cells] using hr'
  | nilIface => have hr' := hr; simp only [VRel] at hr; subst hr; simpa [HV.cells, Value.cells] using hr'
  | tuple cs => have hr' := hr; simp only [VRel] at hr; obtain ⟨vs, rfl, h⟩ := hr; simpa [HV.cells, Value.cells] using hr'
  | iface t x => have hr' := hr; simp only [VRel] at hr; obtain ⟨vs, rfl, h⟩ := hr; simpa [HV.cells, Value.cells] using hr'
  | func f a c => have hr' := hr; simp only [VRel] at hr; obtain ⟨_, _, _, rfl, h⟩ := hr; simpa [HV.cells, Value.cells] using hr'
  | ptr a =>
    have hr' := hr
    cases a with
    | none => simp only [VRel] at hr; subst hr; simpa [HV.cells, Value.cells] using hr'
    | some a => obtain ⟨b, o⟩ := a; simp only [VRel] at hr; obtain ⟨L, _, rfl⟩ := hr; simpa [HV.cells, Value.cells] using hr'
  | map a =>
    have hr' := hr
    cases a with
    | none => simp only [VRel] at hr; subst hr; simpa [HV.cells, Value.cells] using hr'
    | some a => simp only [VRel] at hr; obtain ⟨L, _, rfl⟩ := hr; simpa [HV.cells, Value.cells] using hr'
  | slice a n e =>
    have hr' := hr
    cases a with
    | none => simp only [VRel] at hr; obtain ⟨_, rfl⟩ := hr; simpa [HV.cells, Value.cells] using hr'
    | some a =>
      obtain ⟨b, o⟩ := a
      simp only [VRel] at hr
      rcases hr with ⟨L, cap, _, _, _, rfl⟩ | ⟨_, a, rfl⟩ <;> simpa [HV.cells, Value.cells] using hr'

/-! ### Blocks, worlds -/
def EntRel (ρ : Ren) (e : HEntry) (e' : MapEntry) : Prop := VRel ρ e.key e'.key ∧ VRel ρ e.val e'.val ∧ e.born = e'.born

def EntsRel (ρ : Ren) : List HEntry → List MapEntry → Prop
  | [], es => es = []
  | e :: es, l => ∃ e' es', l = e' :: es' ∧ EntRel ρ e e' ∧ EntsRel ρ es es'

def PairsRel (ρ : Ren) : List (HV × HV) → List MapEntry → Prop
  | [], es => es = []
  | e :: es, l => ∃ e' es', l = e' :: es' ∧ (VRel ρ e.1 e'.key ∧ VRel ρ e.2 e'.val) ∧ PairsRel ρ es es'

def SlotsRel (ρ : Ren) (fr : HFrame) (tmps : Array Value) : Prop :=
  tmps.size = fr.nt ∧ (∀ t, t < fr.nt → VRel ρ (fr.get t) (tmps.getD t undef)) ∧ ∀ g, fr.gl.contains g = true → ∃ tot, ρ g = some ⟨g, 0, tot⟩

def CellsAt (w : World) (L : Loc) (cs : Array Value) : Prop :=
  ∃ ty fz, w.heap[L.blk]? = some (.cells cs ty fz) ∧ cs.size = L.tot ∧ ∀ i, i < cs.size → ¬ (fz.1 ≤ i ∧ i < fz.2)

/-- Bytes, and so many zeros. -/
def padCells (p : List UInt8) (n : Nat) : List HV := (p ++ List.replicate n 0).map fun (b : UInt8) => .int .u8 b.toNat

def BRel (ρ : Ren) (σ : Store) (w : World) (L : Loc) : HBlk → Prop
  | .cells c k => σ.validK k = true → ∃ cs, CellsAt w L cs ∧ L.base + c.length ≤ L.tot ∧ VsRel ρ c ((cs.toList.drop L.base).take c.length)
  | .map es clk => ∃ es', w.heap[L.blk]? = some (.map es' clk) ∧ EntsRel ρ es es'.toList
  | .iter m since seen last => L.base = 0 ∧ ∃ m', w.heap[L.blk]? = some (.mapIter m' since ⟨seen⟩ last) ∧
      (match m with | none => m' = none | some r => ∃ Lm, ρ r = some Lm ∧ m' = some Lm.blk)
  | .loop st pend fr ps assign body => ∃ fn tmps D, w.heap[L.blk]? = some (.loop { state := st, pending := pend, fn, tmps, params := ps, assign, body, defers := D }) ∧ SlotsRel ρ fr tmps
  | .omap es => ∃ es' clk l, w.heap[L.blk]? = some (.map es' clk) ∧ l.Perm es'.toList ∧ PairsRel ρ es l
  | .pad p n => ∃ cs, CellsAt w L cs ∧ L.base + (padCells p n).length ≤ L.tot ∧ VsRel ρ (padCells p n) ((cs.toList.drop L.base).take (padCells p n).length)

structure WF (σ : Store) : Prop where
  fresh : ∀ b, σ.next ≤ b → σ.blks.get b = none
  famFresh : ∀ f, σ.next ≤ f → σ.fams.get f = none
  fam : ∀ b c f p v, σ.blks.get b = some (.cells c (some (f, p, v))) → ∃ F, σ.fams.get f = some F ∧ v ≤ F.last ∧ (F.floor ≤ v → p + c.length ≤ F.top)
  ver : ∀ b b' c c' f p p' v, σ.blks.get b = some (.cells c (some (f, p, v))) → σ.blks.get b' = some (.cells c' (some (f, p', v))) → b = b'

structure Rel (ρ : Ren) (σ : Store) (w : World) : Prop where
  wf : WF σ
  dom : ∀ b L, ρ b = some L → b < σ.next ∧ L.blk < w.heap.size
  blk : ∀ b L x, ρ b = some L → σ.blks.get b = some x → BRel ρ σ w L x
  inj : ∀ b b' L L' x x', ρ b = some L → ρ b' = some L' → σ.blks.get b = some x → σ.blks.get b' = some x' → b ≠ b' → L.blk = L'.blk → L.tot = L'.tot ∧
    ∃ c c' f p p' v v', x = .cells c (some (f, p, v)) ∧ x' = .cells c' (some (f, p', v')) ∧ L.base + p' = L'.base + p
  glob : ∀ g, σ.globs.contains g = true → ∃ tot, ρ g = some ⟨g, 0, tot⟩

/-- What a stretch of the run leaves as it was, and what is new. -/
structure Fr (N N' : Nat) (ρ ρ' : Ren) (w w' : World) : Prop where
  sub : ρ.sub ρ'
  size : w.heap.size ≤ w'.heap.size
  keep : ∀ B, B < w.heap.size → (∀ b L, ρ b = some L → L.blk ≠ B) → w'.heap[B]? = w.heap[B]?
  shape : ∀ (B : Nat) (cs : Array Value) (ty : TypeId) (fz : Nat × Nat), w.heap[B]? = some (Obj.cells cs ty fz) → ∃ cs' : Array Value, w'.heap[B]? = some (.cells cs' ty fz) ∧ cs'.size = cs.size
  new : ∀ b L, ρ b = none → ρ' b = some L → w.heap.size ≤ L.blk ∨ ∃ b₀ L₀, ρ b₀ = some L₀ ∧ L₀.blk = L.blk
  tape : w'.tape = w.tape
  os : w'.os = w.os
  output : w'.output = w.output
  le : N ≤ N'
  fresh : ∀ b, b < N → ρ b = none → ρ' b = none

theorem Fr.refl {N : Nat} (ρ : Ren) (w : World) : Fr N N ρ ρ w w :=
  ⟨.refl _, Nat.le_refl _, fun _ _ _ => rfl, fun _ cs ty fz h => ⟨cs, h, rfl⟩, fun b L h h' => (by rw [h] at h'; cases h'), rfl, rfl, rfl, Nat.le_refl _, fun _ _ h => h⟩

theorem Fr.trans {N N' N'' : Nat} {ρ ρ' ρ'' : Ren} {w w' w'' : World} (h : Fr N N' ρ ρ' w w') (k : Fr N' N'' ρ' ρ'' w' w'') : Fr N N'' ρ ρ'' w w'' where
  sub := h.sub.trans k.sub
  size := Nat.le_trans h.size k.size
  keep := fun B hB hn => by
    rw [k.keep B (Nat.lt_of_lt_of_le hB h.size), h.keep B hB hn]
    intro b L hb
    cases hb' : ρ b with
    | some L' => have := h.sub b L' hb'; rw [hb] at this; cases this; exact hn b L hb'
    | none =>
      rcases h.new b L hb' hb with h1 | ⟨b₀, L₀, h1, h2⟩
      · omega
      · rw [← h2]; exact hn b₀ L₀ h1
  shape := fun B cs ty fz hB => by
    obtain ⟨cs', h1, h2⟩ := h.shape B cs ty fz hB
    obtain ⟨cs'', h3, h4⟩ := k.shape B cs' ty fz h1
    exact ⟨cs'', h3, h4.trans h2⟩
  new := fun b L hb hb'' => by
    cases hb' : ρ' b with
    | some L' =>
      have := k.sub b L' hb'
      rw [hb''] at this
      cases this
      exact h.new b L hb hb'
    | none =>
      rcases k.new b L hb' hb'' with h1 | ⟨b₀, L₀, h1, h2⟩
      · exact .inl (Nat.le_trans h.size h1)
      · cases hb0 : ρ b₀ with
        | some L' =>
          have := h.sub b₀ L' hb0
          rw [h1] at this
          cases this
          exact .inr ⟨b₀, L₀, hb0, h2⟩
        | none =>
          rcases h.new b₀ L₀ hb0 h1 with h3 | ⟨b₁, L₁, h3, h4⟩
          · exact .inl (by omega)
          · exact .inr ⟨b₁, L₁, h3, h4.trans h2⟩
  tape := k.tape.trans h.tape
  os := k.os.trans h.os
  output := k.output.trans h.output
  le := Nat.le_trans h.le k.le
  fresh := fun b hb hn => k.fresh b (Nat.lt_of_lt_of_le hb h.le) (h.fresh b hb hn)

end
end Go.HI

/- How an abstract store is found in the machine's memory: new blocks, stores, draws. -/
namespace Go.HI
noncomputable section

theorem EntRel.mono {ρ ρ' : Ren} (hs : ρ.sub ρ') {e : HEntry} {e' : MapEntry} (h : EntRel ρ e e') : EntRel ρ' e e' :=
  ⟨h.1.mono hs, h.2.1.mono hs, h.2.2⟩
theorem EntsRel.mono {ρ ρ' : Ren} (hs : ρ.sub ρ') : ∀ {es : List HEntry} {es' : List MapEntry}, EntsRel ρ es es' → EntsRel ρ' es es'
  | [], _, h => h
  | _ :: _, _, ⟨e', es', h1, h2, h3⟩ => ⟨e', es', h1, h2.mono hs, h3.mono hs⟩
theorem PairsRel.mono {ρ ρ' : Ren} (hs : ρ.sub ρ') : ∀ {es : List (HV × HV)} {es' : List MapEntry}, PairsRel ρ es es' → PairsRel ρ' es es'
  | [], _, h => h
  | _ :: _, _, ⟨e', es', h1, h2, h3⟩ => ⟨e', es', h1, ⟨h2.1.mono hs, h2.2.mono hs⟩, h3.mono hs⟩
theorem SlotsRel.mono {ρ ρ' : Ren} (hs : ρ.sub ρ') {fr : HFrame} {t : Array Value} (h : SlotsRel ρ fr t) : SlotsRel ρ' fr t :=
  ⟨h.1, fun i hi => (h.2.1 i hi).mono hs, fun g hg => let ⟨tot, ht⟩ := h.2.2 g hg; ⟨tot, hs _ _ ht⟩⟩

theorem BRel.keep {ρ ρ' : Ren} {σ σ' : Store} {w w' : World} {L : Loc} {x : HBlk} (hs : ρ.sub ρ') (hk : ∀ c k, x = .cells c k → σ'.validK k = true → σ.validK k = true)
    (hw : w'.heap[L.blk]? = w.heap[L.blk]?) (h : BRel ρ σ w L x) : BRel ρ' σ' w' L x := by
  cases x with
  | cells c k =>
    intro hv
    obtain ⟨cs, ⟨ty, fz, h1, h2, h3⟩, h4, h5⟩ := h (hk c k rfl hv)
    exact ⟨cs, ⟨ty, fz, hw.trans h1, h2, h3⟩, h4, h5.mono hs⟩
  | map es clk => obtain ⟨es', h1, h2⟩ := h; exact ⟨es', hw.trans h1, h2.mono hs⟩
  | iter m since seen last =>
    obtain ⟨h0, m', h1, h2⟩ := h
    refine ⟨h0, m', hw.trans h1, ?_⟩
    cases m with
    | none => exact h2
    | some r => obtain ⟨Lm, h3, h4⟩ := h2; exact ⟨Lm, hs _ _ h3, h4⟩
  | loop st pend fr ps assign body => obtain ⟨fn, tmps, D, h1, h2⟩ := h; exact ⟨fn, tmps, D, hw.trans h1, h2.mono hs⟩
  | omap es => obtain ⟨es', clk, l, h1, h2, h3⟩ := h; exact ⟨es', clk, l, hw.trans h1, h2, h3.mono hs⟩
  | pad p n => obtain ⟨cs, ⟨ty, fz, h1, h2, h3⟩, h4, h5⟩ := h; exact ⟨cs, ⟨ty, fz, hw.trans h1, h2, h3⟩, h4, h5.mono hs⟩

/-! ### A draw -/
def World.sameHeap (w w' : World) : Prop := w'.heap = w.heap ∧ w'.tape = w.tape ∧ w'.os = w.os ∧ w'.output = w.output

theorem Rel.same {ρ : Ren} {σ : Store} {w w' : World} (h : Rel ρ σ w) (hw : w'.heap = w.heap) : Rel ρ σ w' where
  wf := h.wf
  dom := fun b L hb => by rw [hw]; exact h.dom b L hb
  blk := fun b L x hb hx => (h.blk b L x hb hx).keep (.refl _) (fun _ _ _ h => h) (by rw [hw])
  inj := h.inj
  glob := h.glob

theorem Fr.same {N : Nat} {ρ : Ren} {w w' : World} (h : World.sameHeap w w') : Fr N N ρ ρ w w' :=
  ⟨.refl _, by rw [h.1]; exact Nat.le_refl _, fun _ _ _ => by rw [h.1], fun _ cs ty fz hh => ⟨cs, by rw [h.1]; exact hh, rfl⟩, fun b L h h' => (by rw [h] at h'; cases h'), h.2.1, h.2.2.1, h.2.2.2, Nat.le_refl _, fun _ _ h => h⟩

/-! ### A new block -/
def Ren.add (ρ : Ren) (b : Nat) (L : Loc) : Ren := fun b' => if b' = b then some L else ρ b'
theorem Ren.add_same (ρ : Ren) (b : Nat) (L : Loc) : ρ.add b L b = some L := by simp [Ren.add]
theorem Ren.add_ne (ρ : Ren) {b b' : Nat} (L : Loc) (h : b' ≠ b) : ρ.add b L b' = ρ b' := by simp [Ren.add, h]

theorem Rel.none_next {ρ : Ren} {σ : Store} {w : World} (h : Rel ρ σ w) : ρ σ.next = none := by
  cases hn : ρ σ.next with
  | none => rfl
  | some L => have := (h.dom _ _ hn).1; omega

theorem Rel.sub_add {ρ : Ren} {σ : Store} {w : World} (h : Rel ρ σ w) (L : Loc) : ρ.sub (ρ.add σ.next L) := fun b L' hb => by
  rw [Ren.add_ne]
  · exact hb
  · rintro rfl; rw [h.none_next] at hb; cases hb

theorem heap_alloc_lt (w : World) (o : Obj) {k : Nat} (h : k < w.heap.size) : (w.alloc o).heap[k]? = w.heap[k]? := by
  show (w.heap.push o)[k]? = _
  rw [Array.getElem?_push, if_neg (by omega)]
theorem heap_alloc_new (w : World) (o : Obj) : (w.alloc o).heap[w.heap.size]? = some o := by
  show (w.heap.push o)[w.heap.size]? = _
  rw [Array.getElem?_push, if_pos rfl]
theorem heap_alloc_size (w : World) (o : Obj) : (w.alloc o).heap.size = w.heap.size + 1 := by
  show (w.heap.push o).size = _
  simp

theorem Fr.alloc {ρ : Ren} {σ : Store} {w : World} (h : Rel ρ σ w) (o : Obj) (tot : Nat) : Fr σ.next (σ.next + 1) ρ (ρ.add σ.next ⟨w.heap.size, 0, tot⟩) w (w.alloc o) where
  sub := h.sub_add _
  size := by rw [heap_alloc_size]; omega
  keep := fun B hB _ => heap_alloc_lt w o hB
  shape := fun B cs ty fz hB => ⟨cs, by
    have : B < w.heap.size := by
      rcases Nat.lt_or_ge B w.heap.size with h' | h'
      · exact h'
      · simp [Array.getElem?_eq_none h'] at hB
    rw [heap_alloc_lt w o this]; exact hB, rfl⟩
  new := fun b L hb hb' => by
    by_cases e : b = σ.next
    · subst e; rw [Ren.add_same] at hb'; cases hb'; exact .inl (Nat.le_refl _)
    · rw [Ren.add_ne _ _ e, hb] at hb'; cases hb'
  tape := rfl
  os := rfl
  output := rfl
  le := Nat.le_succ _
  fresh := fun b hb hn => by rw [Ren.add_ne _ _ (by omega)]; exact hn

def HBlk.single : HBlk → Prop
  | .cells _ (some _) => False
  | _ => True

theorem WF.push {σ : Store} (h : WF σ) {x : HBlk} (hx : x.single) : WF (σ.push x) where
  fresh := fun b hb => by
    simp only [Store.push] at hb ⊢
    rw [T.get_set, if_neg (by omega)]
    exact h.fresh b (by omega)
  famFresh := fun f hf => h.famFresh f (by simp only [Store.push] at hf; omega)
  fam := fun b c f p v hb => by
    simp only [Store.push, T.get_set] at hb
    split at hb
    · simp only [Option.some.injEq] at hb; subst hb; exact hx.elim
    · exact h.fam b c f p v hb
  ver := fun b b' c c' f p p' v hb hb' => by
    simp only [Store.push, T.get_set] at hb hb'
    split at hb
    · simp only [Option.some.injEq] at hb; subst hb; exact hx.elim
    · split at hb'
      · simp only [Option.some.injEq] at hb'; subst hb'; exact hx.elim
      · exact h.ver b b' c c' f p p' v hb hb'

theorem Rel.alloc {ρ : Ren} {σ : Store} {w : World} (h : Rel ρ σ w) {x : HBlk} (hx : x.single) (o : Obj) (tot : Nat)
    (hB : BRel ρ σ (w.alloc o) ⟨w.heap.size, 0, tot⟩ x) : Rel (ρ.add σ.next ⟨w.heap.size, 0, tot⟩) (σ.push x) (w.alloc o) where
  wf := h.wf.push hx
  dom := fun b L hb => by
    rw [heap_alloc_size]
    by_cases e : b = σ.next
    · subst e; rw [Ren.add_same] at hb; cases hb; simp [Store.push]
    · rw [Ren.add_ne _ _ e] at hb; have := h.dom b L hb; simp only [Store.push]; omega
  blk := fun b L y hb hy => by
    simp only [Store.push, T.get_set] at hy
    by_cases e : b = σ.next
    · subst e
      rw [Ren.add_same] at hb
      cases hb
      rw [if_pos rfl] at hy
      cases hy
      exact hB.keep (h.sub_add _) (fun _ _ _ h => h) rfl
    · rw [Ren.add_ne _ _ e] at hb
      rw [if_neg e] at hy
      exact (h.blk b L y hb hy).keep (h.sub_add _) (fun _ _ _ h => h) (heap_alloc_lt w o (h.dom b L hb).2)
  inj := fun b b' L L' x1 x2 hb hb' hx1 hx2 hne hblk => by
    by_cases e : b = σ.next
    · subst e
      rw [Ren.add_same] at hb
      cases hb
      rw [Ren.add_ne _ _ (Ne.symm hne)] at hb'
      have := (h.dom b' L' hb').2
      simp at hblk
      omega
    · rw [Ren.add_ne _ _ e] at hb
      by_cases e' : b' = σ.next
      · subst e'
        rw [Ren.add_same] at hb'
        cases hb'
        have := (h.dom b L hb).2
        simp at hblk
        omega
      · rw [Ren.add_ne _ _ e'] at hb'
        simp only [Store.push, T.get_set, if_neg e] at hx1
        simp only [Store.push, T.get_set, if_neg e'] at hx2
        exact h.inj b b' L L' x1 x2 hb hb' hx1 hx2 hne hblk
  glob := fun g hg => let ⟨tot, ht⟩ := h.glob g hg; ⟨tot, h.sub_add _ _ _ ht⟩

/-! ### A new array -/
theorem WF.pushArr {σ : Store} (h : WF σ) (c : List HV) : WF (σ.pushArr c) where
  fresh := fun b hb => by
    simp only [Store.pushArr] at hb ⊢
    rw [T.get_set, if_neg (by omega)]
    exact h.fresh b (by omega)
  famFresh := fun f hf => by
    simp only [Store.pushArr] at hf ⊢
    rw [T.get_set, if_neg (by omega)]
    exact h.famFresh f (by omega)
  fam := fun b c' f p v hb => by
    simp only [Store.pushArr, T.get_set] at hb ⊢
    split at hb
    · simp only [Option.some.injEq, HBlk.cells.injEq, Prod.mk.injEq] at hb
      obtain ⟨rfl, rfl, rfl, rfl⟩ := hb
      exact ⟨_, if_pos rfl, by simp, fun _ => by simp⟩
    · obtain ⟨F, h1, h2, h3⟩ := h.fam b c' f p v hb
      refine ⟨F, ?_, h2, h3⟩
      rw [if_neg]
      · exact h1
      · rintro rfl; rw [h.famFresh _ (Nat.le_refl _)] at h1; cases h1
  ver := fun b b' c1 c2 f p p' v hb hb' => by
    simp only [Store.pushArr, T.get_set] at hb hb'
    split at hb
    · rename_i e1
      split at hb'
      · rename_i e2; rw [e1, e2]
      · simp only [Option.some.injEq, HBlk.cells.injEq, Prod.mk.injEq] at hb
        obtain ⟨_, rfl, _, _⟩ := hb
        obtain ⟨F, h1, _⟩ := h.fam _ _ _ _ _ hb'
        rw [h.famFresh _ (Nat.le_refl _)] at h1; cases h1
    · split at hb'
      · simp only [Option.some.injEq, HBlk.cells.injEq, Prod.mk.injEq] at hb'
        obtain ⟨_, rfl, _, _⟩ := hb'
        obtain ⟨F, h1, _⟩ := h.fam _ _ _ _ _ hb
        rw [h.famFresh _ (Nat.le_refl _)] at h1; cases h1
      · exact h.ver b b' c1 c2 f p p' v hb hb'

theorem Rel.validK_pushArr {ρ : Ren} {σ : Store} {w : World} (h : Rel ρ σ w) {b : Nat} {c c' : List HV} {k : Option (Nat × Nat × Nat)} (hb : σ.blks.get b = some (.cells c k))
    (hv : (σ.pushArr c').validK k = true) : σ.validK k = true := by
  cases k with
  | none => rfl
  | some k =>
    obtain ⟨f, p, v⟩ := k
    obtain ⟨F, h1, _⟩ := h.wf.fam b c f p v hb
    simp only [Store.validK, Store.pushArr, T.get_set] at hv ⊢
    rw [if_neg] at hv
    · exact hv
    · rintro rfl; rw [h.wf.famFresh _ (Nat.le_refl _)] at h1; cases h1

theorem Rel.allocArr {ρ : Ren} {σ : Store} {w : World} (h : Rel ρ σ w) (c : List HV) (cs : Array Value) (ty : TypeId) (fz : Nat × Nat) (hz : ∀ i, i < cs.size → ¬ (fz.1 ≤ i ∧ i < fz.2)) (hl : c.length ≤ cs.size)
    (hc : VsRel ρ c (cs.toList.take c.length)) :
    Rel (ρ.add σ.next ⟨w.heap.size, 0, cs.size⟩) (σ.pushArr c) (w.alloc (.cells cs ty fz)) where
  wf := h.wf.pushArr c
  dom := fun b L hb => by
    rw [heap_alloc_size]
    by_cases e : b = σ.next
    · subst e; rw [Ren.add_same] at hb; cases hb; simp [Store.pushArr]
    · rw [Ren.add_ne _ _ e] at hb; have := h.dom b L hb; simp only [Store.pushArr]; omega
  blk := fun b L y hb hy => by
    simp only [Store.pushArr, T.get_set] at hy
    by_cases e : b = σ.next
    · subst e
      rw [Ren.add_same] at hb
      cases hb
      rw [if_pos rfl] at hy
      cases hy
      intro _
      refine ⟨cs, ⟨ty, fz, heap_alloc_new w _, rfl, hz⟩, by simpa using hl, ?_⟩
      simpa using hc.mono (h.sub_add _)
    · rw [Ren.add_ne _ _ e] at hb
      rw [if_neg e] at hy
      exact (h.blk b L y hb hy).keep (h.sub_add _) (fun c' k hx hv => h.validK_pushArr (hx ▸ hy) hv) (heap_alloc_lt w _ (h.dom b L hb).2)
  inj := fun b b' L L' x1 x2 hb hb' hx1 hx2 hne hblk => by
    by_cases e : b = σ.next
    · subst e
      rw [Ren.add_same] at hb
      cases hb
      rw [Ren.add_ne _ _ (Ne.symm hne)] at hb'
      have := (h.dom b' L' hb').2
      simp at hblk
      omega
    · rw [Ren.add_ne _ _ e] at hb
      by_cases e' : b' = σ.next
      · subst e'
        rw [Ren.add_same] at hb'
        cases hb'
        have := (h.dom b L hb).2
        simp at hblk
        omega
      · rw [Ren.add_ne _ _ e'] at hb'
        simp only [Store.pushArr, T.get_set, if_neg e] at hx1
        simp only [Store.pushArr, T.get_set, if_neg e'] at hx2
        exact h.inj b b' L L' x1 x2 hb hb' hx1 hx2 hne hblk
  glob := fun g hg => let ⟨tot, ht⟩ := h.glob g hg; ⟨tot, h.sub_add _ _ _ ht⟩

/-! ### Reading -/
theorem Store.cells?_some {σ : Store} {b : Nat} {c : List HV} {k : Option (Nat × Nat × Nat)} (h : σ.cells? b = some (c, k)) : σ.blks.get b = some (.cells c k) ∧ σ.validK k = true := by
  unfold Store.cells? at h
  split at h
  · rename_i c' k' hb
    split at h
    · rename_i hv
      simp only [Option.some.injEq, Prod.mk.injEq] at h
      obtain ⟨rfl, rfl⟩ := h
      exact ⟨hb, hv⟩
    · cases h
  · cases h

theorem Rel.cellsAt {ρ : Ren} {σ : Store} {w : World} (h : Rel ρ σ w) {b : Nat} {L : Loc} (hL : ρ b = some L) {c : List HV} {k : Option (Nat × Nat × Nat)} (hc : σ.cells? b = some (c, k)) :
    ∃ cs, CellsAt w L cs ∧ L.base + c.length ≤ L.tot ∧ VsRel ρ c ((cs.toList.drop L.base).take c.length) := by
  obtain ⟨h1, h2⟩ := Store.cells?_some hc
  exact h.blk b L _ hL h1 h2

theorem Rel.loadN {ρ : Ren} {σ : Store} {w : World} (h : Rel ρ σ w) {b o n : Nat} {L : Loc} (hL : ρ b = some L) {l : List HV} (hl : σ.loadN b o n = some l) :
    ∃ cs, CellsAt w L cs ∧ L.base + o + n ≤ cs.size ∧ l.length = n ∧ VsRel ρ l ((cs.toList.drop (L.base + o)).take n) := by
  unfold Store.loadN at hl
  split at hl
  · rename_i c k hc
    split at hl
    · rename_i hon
      simp only [Option.some.injEq] at hl
      subst hl
      obtain ⟨cs, h1, h2, h3⟩ := h.cellsAt hL hc
      obtain ⟨ty, fz, h4, h5, h6⟩ := h1
      refine ⟨cs, ⟨ty, fz, h4, h5, h6⟩, by omega, by simp; omega, ?_⟩
      have := (h3.drop o).take n
      rw [List.drop_take, List.take_take, List.drop_drop] at this
      rwa [show min n (c.length - o) = n by omega] at this
    · cases hl
  · cases hl

/-! ### Writing -/
/-- w' is w with cells of one block written over. -/
structure Over (w w' : World) (B off : Nat) (vs : List Value) : Prop where
  here : ∀ cs ty fz, w.heap[B]? = some (.cells cs ty fz) → w'.heap[B]? = some (.cells ⟨cs.toList.take off ++ vs ++ cs.toList.drop (off + vs.length)⟩ ty fz)
  other : ∀ B', B' ≠ B → w'.heap[B']? = w.heap[B']?
  size : w'.heap.size = w.heap.size
  tape : w'.tape = w.tape
  os : w'.os = w.os
  output : w'.output = w.output

theorem Over.fr {N : Nat} {ρ : Ren} {w w' : World} {b : Nat} {L : Loc} {off : Nat} {vs : List Value} (hL : ρ b = some L) (h : Over w w' L.blk off vs)
    (hb : ∀ (cs : Array Value) ty fz, w.heap[L.blk]? = some (.cells cs ty fz) → off + vs.length ≤ cs.size) : Fr N N ρ ρ w w' where
  sub := .refl _
  size := by rw [h.size]; exact Nat.le_refl _
  keep := fun B _ hn => h.other B (fun e => hn b L hL e.symm)
  shape := fun B cs ty fz hB => by
    by_cases e : B = L.blk
    · subst e
      refine ⟨_, h.here cs ty fz hB, ?_⟩
      have := hb cs ty fz hB
      simp
      omega
    · exact ⟨cs, (h.other B e).trans hB, rfl⟩
  new := fun b L h h' => (by rw [h] at h'; cases h')
  tape := h.tape
  os := h.os
  output := h.output
  le := Nat.le_refl _
  fresh := fun _ _ h => h

theorem take_drop_over (l vs : List Value) (off base n : Nat) (h : off + vs.length ≤ l.length) (hd : base + n ≤ off ∨ off + vs.length ≤ base) :
    ((l.take off ++ vs ++ l.drop (off + vs.length)).drop base).take n = (l.drop base).take n := by
  apply List.ext_getElem?
  intro i
  simp only [List.getElem?_take, List.getElem?_drop]
  split
  · rename_i hi
    rcases hd with hd | hd
    · rw [List.append_assoc, List.getElem?_append_left (by simp; omega), List.getElem?_take, if_pos (by omega)]
    · rw [List.getElem?_append_right (by simp; omega), List.getElem?_drop]
      congr 1
      simp
      omega
  · rfl

theorem take_drop_in (l vs : List Value) (off base n o : Nat) (h : off + vs.length ≤ l.length) (ho : off = base + o) (hn : o + vs.length ≤ n) (hb : base + n ≤ l.length) :
    ((l.take off ++ vs ++ l.drop (off + vs.length)).drop base).take n = ((l.drop base).take n).take o ++ vs ++ ((l.drop base).take n).drop (o + vs.length) := by
  subst ho
  apply List.ext_getElem?
  intro i
  simp only [List.getElem?_take, List.getElem?_drop]
  by_cases h1 : i < o
  · rw [if_pos (by omega), List.append_assoc, List.getElem?_append_left (by simp; omega), List.getElem?_take, if_pos (by omega),
      List.append_assoc, List.getElem?_append_left (by simp; omega), List.getElem?_take, if_pos h1, List.getElem?_take, if_pos (by omega), List.getElem?_drop]
  · by_cases h2 : i < o + vs.length
    · rw [if_pos (by omega), List.append_assoc, List.getElem?_append_right (by simp; omega), List.getElem?_append_left (by simp; omega),
        List.append_assoc, List.getElem?_append_right (by simp; omega), List.getElem?_append_left (by simp; omega)]
      congr 1
      simp
      omega
    · rw [List.getElem?_append_right (by simp; omega), List.getElem?_append_right (by simp; omega), List.getElem?_drop, List.getElem?_drop, List.getElem?_take, List.getElem?_drop]
      have e1 : (((l.drop base).take n).take o ++ vs).length = o + vs.length := by simp; omega
      have e2 : (l.take (base + o) ++ vs).length = base + o + vs.length := by simp; omega
      rw [e1, e2]
      by_cases h3 : i < n
      · rw [if_pos h3, if_pos (by omega)]
        congr 1
        omega
      · rw [if_neg h3, if_neg (by omega)]

theorem WF.store {σ σ' : Store} (h : WF σ) {b o : Nat} {vs : List HV} (hs : σ.storeN b o vs = some σ') : WF σ' ∧ σ'.next = σ.next ∧ σ'.globs = σ.globs ∧
    ∃ c k, σ.cells? b = some (c, k) ∧ o + vs.length ≤ c.length ∧ (∀ b', σ'.blks.get b' = if b' = b then some (.cells (splice c o vs) k) else σ.blks.get b') ∧
      (∀ b' c' k', σ.blks.get b' = some (.cells c' k') → σ'.validK k' = true → σ.validK k' = true ∧ (∀ f p v p' v', k = some (f, p, v) → k' = some (f, p', v') → b' = b)) := by
  unfold Store.storeN at hs
  split at hs
  · rename_i c k hc
    obtain ⟨hb, hv⟩ := Store.cells?_some hc
    split at hs
    · rename_i hlen
      have hsp : (splice c o vs).length = c.length := by simp [splice]; omega
      split at hs
      · rename_i k
        simp only [Option.some.injEq] at hs
        subst hs
        refine ⟨⟨?_, h.famFresh, ?_, ?_⟩, rfl, rfl, c, none, hc, hlen, fun b' => T.get_set .., fun b' c' k' _ hk' => ⟨hk', fun f p v p' v' e => by cases e⟩⟩
        · intro b' hb'
          simp only [T.get_set]
          split
          · rename_i e; subst e; rw [h.fresh _ hb'] at hb; cases hb
          · exact h.fresh b' hb'
        · intro b' c' f p v hb'
          simp only [T.get_set] at hb'
          split at hb'
          · simp at hb'
          · exact h.fam b' c' f p v hb'
        · intro b1 b2 c1 c2 f p p' v h1 h2
          simp only [T.get_set] at h1 h2
          split at h1
          · simp at h1
          · split at h2
            · simp at h2
            · exact h.ver b1 b2 c1 c2 f p p' v h1 h2
      · rename_i f p v
        split at hs
        · rename_i F hF
          split at hs
          · rename_i hlast
            simp only [Option.some.injEq] at hs
            subst hs
            obtain ⟨F', hF', hle, htop⟩ := h.fam b c f p v hb
            rw [hF] at hF'
            cases hF'
            have hfl : F.floor ≤ v := by simpa [Store.validK, hF] using hv
            have hver : ∀ b' c' p' v', σ.blks.get b' = some (.cells c' (some (f, p', v'))) → v ≤ v' → b' = b := by
              intro b' c' p' v' hb' hle'
              obtain ⟨F2, h1, h2, _⟩ := h.fam b' c' f p' v' hb'
              rw [hF] at h1
              cases h1
              have : v' = v := by omega
              subst this
              exact h.ver b' b c' c f p' p _ hb' hb
            refine ⟨⟨?_, ?_, ?_, ?_⟩, rfl, rfl, c, _, hc, hlen, fun b' => T.get_set .., ?_⟩
            · intro b' hb'
              simp only [T.get_set]
              split
              · rename_i e; subst e; rw [h.fresh _ hb'] at hb; cases hb
              · exact h.fresh b' hb'
            · intro f' hf'
              simp only [T.get_set]
              split
              · rename_i e; subst e; rw [h.famFresh _ hf'] at hF; cases hF
              · exact h.famFresh f' hf'
            · intro b' c' f' p' v' hb'
              simp only [T.get_set] at hb' ⊢
              split at hb'
              · simp only [Option.some.injEq, HBlk.cells.injEq, Prod.mk.injEq] at hb'
                obtain ⟨rfl, rfl, rfl, rfl⟩ := hb'
                exact ⟨_, if_pos rfl, hle, fun _ => by rw [hsp]; exact htop hfl⟩
              · obtain ⟨F2, h1, h2, h3⟩ := h.fam b' c' f' p' v' hb'
                by_cases e : f' = f
                · subst e
                  rw [hF] at h1
                  cases h1
                  exact ⟨_, if_pos rfl, h2, fun hvv => h3 (by simp at hvv; omega)⟩
                · exact ⟨F2, by rw [if_neg e]; exact h1, h2, h3⟩
            · intro b1 b2 c1 c2 f' p1 p2 v1 h1 h2
              simp only [T.get_set] at h1 h2
              split at h1
              · rename_i e1
                split at h2
                · rename_i e2; rw [e1, e2]
                · simp only [Option.some.injEq, HBlk.cells.injEq, Prod.mk.injEq] at h1
                  obtain ⟨_, rfl, _, rfl⟩ := h1
                  rw [e1]; exact (hver b2 c2 p2 _ h2 (Nat.le_refl _)).symm
              · split at h2
                · rename_i e2
                  simp only [Option.some.injEq, HBlk.cells.injEq, Prod.mk.injEq] at h2
                  obtain ⟨_, rfl, _, rfl⟩ := h2
                  rw [e2]; exact hver b1 c1 p1 _ h1 (Nat.le_refl _)
                · exact h.ver b1 b2 c1 c2 f' p1 p2 v1 h1 h2
            · intro b' c' k' hb' hk'
              cases k' with
              | none => exact ⟨rfl, fun _ _ _ _ _ _ e => by cases e⟩
              | some k' =>
                obtain ⟨f', p', v'⟩ := k'
                simp only [Store.validK, T.get_set] at hk' ⊢
                by_cases e : f' = f
                · subst e
                  simp at hk'
                  refine ⟨by simp [hF]; omega, fun f2 p2 v2 p3 v3 e1 e2 => ?_⟩
                  exact hver b' c' p' v' hb' hk'
                · rw [if_neg e] at hk'
                  refine ⟨hk', fun f2 p2 v2 p3 v3 e1 e2 => ?_⟩
                  simp only [Option.some.injEq, Prod.mk.injEq] at e1 e2
                  exact absurd (e2.1.trans e1.1.symm) e
          · cases hs
        · cases hs
    · cases hs
  · cases hs

theorem Rel.store {ρ : Ren} {σ σ' : Store} {w w' : World} (h : Rel ρ σ w) {b o : Nat} {vs : List HV} (hs : σ.storeN b o vs = some σ') {L : Loc} (hL : ρ b = some L)
    {vs' : List Value} (hv : VsRel ρ vs vs') (hw : Over w w' L.blk (L.base + o) vs') : Rel ρ σ' w' ∧ Fr σ.next σ'.next ρ ρ w w' := by
  obtain ⟨hwf, hnext, hglob, c, k, hc, hlen, hget, hval⟩ := h.wf.store hs
  obtain ⟨cs, ⟨ty, fz, hcs, htot, hfz⟩, hfit, hrel⟩ := h.cellsAt hL hc
  obtain ⟨hb, hvb⟩ := Store.cells?_some hc
  have hvl := hv.length
  have hb0 : L.base + o + vs'.length ≤ cs.size := by omega
  refine ⟨⟨hwf, fun b' L' hb' => by rw [hnext, hw.size]; exact h.dom b' L' hb', ?_, ?_, fun g hg => h.glob g (hglob ▸ hg)⟩, by rw [hnext]; exact hw.fr hL fun cs2 ty2 fz2 h2 => by rw [hcs] at h2; cases h2; exact hb0⟩
  · intro b' L' x hb' hx
    rw [hget] at hx
    by_cases e : b' = b
    · subst e
      rw [if_pos rfl] at hx
      cases hx
      rw [hL] at hb'
      cases hb'
      intro _
      refine ⟨_, ⟨ty, fz, hw.here cs ty fz hcs, ?_, ?_⟩, ?_, ?_⟩
      · simp; omega
      · intro i hi; exact hfz i (by simp at hi; omega)
      · simp [splice]; omega
      · have hsp : (splice c o vs).length = c.length := by simp [splice]; omega
        rw [hsp]
        have := hrel.splice hv o
        rw [← take_drop_in cs.toList vs' (L.base + o) L.base c.length o (by simpa using hb0) rfl (by omega) (by simp; omega)] at this
        exact this
    · rw [if_neg e] at hx
      have hold := h.blk b' L' x hb' hx
      by_cases e2 : L'.blk = L.blk
      · obtain ⟨_, c1, c2, f, p, p', v, v', h1, h2, h3⟩ := h.inj b' b L' L x _ hb' hL hx hb e e2
        subst h1
        cases h2
        intro hv'
        exact absurd ((hval b' _ _ hx hv').2 _ _ _ _ _ rfl rfl) e
      · refine hold.keep (.refl _) (fun c' k' hx' hk' => ?_) (hw.other _ e2)
        subst hx'
        exact (hval b' c' k' hx hk').1
  · intro b1 b2 L1 L2 x1 x2 h1 h2 hx1 hx2 hne hblk
    have fix : ∀ b' x', σ'.blks.get b' = some x' → ∃ x'', σ.blks.get b' = some x'' ∧ ∀ c'' f p v, x'' = .cells c'' (some (f, p, v)) → ∃ c', x' = .cells c' (some (f, p, v)) := by
      intro b' x' hx'
      rw [hget] at hx'
      by_cases e : b' = b
      · subst e
        rw [if_pos rfl] at hx'
        cases hx'
        exact ⟨_, hb, fun c'' f p v he => by cases he; exact ⟨_, rfl⟩⟩
      · rw [if_neg e] at hx'
        exact ⟨x', hx', fun c'' f p v he => ⟨c'', he⟩⟩
    obtain ⟨y1, hy1, f1⟩ := fix _ _ hx1
    obtain ⟨y2, hy2, f2⟩ := fix _ _ hx2
    obtain ⟨ht, c1, c2, f, p, p', v, v', h3, h4, h5⟩ := h.inj b1 b2 L1 L2 y1 y2 h1 h2 hy1 hy2 hne hblk
    obtain ⟨c1', h3'⟩ := f1 _ _ _ _ h3
    obtain ⟨c2', h4'⟩ := f2 _ _ _ _ h4
    exact ⟨ht, c1', c2', f, p, p', v, v', h3', h4', h5⟩

end
end Go.HI

/- How an abstract store is found in the machine's memory: append; objects. -/
namespace Go.HI
noncomputable section

theorem WF.grow {σ σ' : Store} (h : WF σ) {b o : Nat} {xs ys : List HV} (hs : σ.grow b o xs ys = some σ') (hx : σ.loadN b o xs.length = some xs) :
    WF σ' ∧ σ'.next = σ.next + 1 ∧ σ'.globs = σ.globs ∧ ∃ c f p v F, σ.cells? b = some (c, some (f, p, v)) ∧ σ.fams.get f = some F ∧ F.floor ≤ v ∧ o + xs.length ≤ c.length ∧
      (∀ b', σ'.blks.get b' = if b' = σ.next then some (.cells (xs ++ ys) (some (f, p + o, F.last + 1))) else σ.blks.get b') ∧
      (∀ b' c' k', σ.blks.get b' = some (.cells c' k') → σ'.validK k' = true → σ.validK k' = true ∧ (∀ p' v', k' = some (f, p', v') → p' + c'.length ≤ p + o + xs.length)) := by
  unfold Store.grow at hs
  split at hs
  · rename_i c f p v hc
    obtain ⟨hb, hv⟩ := Store.cells?_some hc
    split at hs
    · rename_i F hF
      simp only [Option.some.injEq] at hs
      obtain ⟨F', hF', hle, htop⟩ := h.fam b c f p v hb
      rw [hF] at hF'
      cases hF'
      have hfl : F.floor ≤ v := by simpa [Store.validK, hF] using hv
      have hlt : f < σ.next := by
        rcases Nat.lt_or_ge f σ.next with h' | h'
        · exact h'
        · rw [h.famFresh f h'] at hF; cases hF
      have hox : o + xs.length ≤ c.length := by
        unfold Store.loadN at hx
        rw [hc] at hx
        simp only at hx
        split at hx
        · assumption
        · cases hx
      obtain ⟨G, hG⟩ : ∃ G : Fam, G = (if F.top ≤ p + o + xs.length then { F with last := F.last + 1, top := p + o + xs.length + ys.length } else { floor := F.last + 1, last := F.last + 1, top := p + o + xs.length + ys.length }) := ⟨_, rfl⟩
      rw [← hG] at hs
      have hGl : G.last = F.last + 1 := by rw [hG]; split <;> rfl
      have hGt : G.top = p + o + xs.length + ys.length := by rw [hG]; split <;> rfl
      have hGf : ∀ v', v' ≤ F.last → G.floor ≤ v' → F.floor ≤ v' ∧ F.top ≤ p + o + xs.length := by
        intro v' h1 h2
        rw [hG] at h2
        split at h2
        · exact ⟨h2, by assumption⟩
        · simp at h2; omega
      subst hs
      refine ⟨⟨?_, ?_, ?_, ?_⟩, rfl, rfl, c, f, p, v, F, hc, hF, hfl, hox, fun b' => T.get_set .., ?_⟩
      · intro b' hb'
        simp only [T.get_set] at hb' ⊢
        rw [if_neg (by omega)]
        exact h.fresh b' (by omega)
      · intro f' hf'
        simp only [T.get_set] at hf' ⊢
        rw [if_neg (by omega)]
        exact h.famFresh f' (by omega)
      · intro b' c' f' p' v' hb'
        simp only [T.get_set] at hb' ⊢
        split at hb'
        · simp only [Option.some.injEq, HBlk.cells.injEq, Prod.mk.injEq] at hb'
          obtain ⟨rfl, rfl, rfl, rfl⟩ := hb'
          exact ⟨G, if_pos rfl, by omega, fun _ => by simp; omega⟩
        · obtain ⟨F2, h1, h2, h3⟩ := h.fam b' c' f' p' v' hb'
          by_cases e : f' = f
          · subst e
            rw [hF] at h1
            cases h1
            refine ⟨G, if_pos rfl, by omega, fun hvv => ?_⟩
            obtain ⟨h4, h5⟩ := hGf v' h2 hvv
            have := h3 h4
            omega
          · exact ⟨F2, by rw [if_neg e]; exact h1, h2, h3⟩
      · intro b1 b2 c1 c2 f' p1 p2 v1 h1 h2
        simp only [T.get_set] at h1 h2
        have hold : ∀ b' c' p', σ.blks.get b' = some (.cells c' (some (f, p', F.last + 1))) → False := by
          intro b' c' p' hb'
          obtain ⟨F2, h1, h2, _⟩ := h.fam b' c' f p' _ hb'
          rw [hF] at h1
          cases h1
          omega
        split at h1
        · rename_i e1
          split at h2
          · rename_i e2; rw [e1, e2]
          · simp only [Option.some.injEq, HBlk.cells.injEq, Prod.mk.injEq] at h1
            obtain ⟨_, rfl, _, rfl⟩ := h1
            exact (hold b2 c2 p2 h2).elim
        · split at h2
          · simp only [Option.some.injEq, HBlk.cells.injEq, Prod.mk.injEq] at h2
            obtain ⟨_, rfl, _, rfl⟩ := h2
            exact (hold b1 c1 p1 h1).elim
          · exact h.ver b1 b2 c1 c2 f' p1 p2 v1 h1 h2
      · intro b' c' k' hb' hk'
        cases k' with
        | none => exact ⟨rfl, fun _ _ e => by cases e⟩
        | some k' =>
          obtain ⟨f', p', v'⟩ := k'
          obtain ⟨F2, h1, h2, h3⟩ := h.fam b' c' f' p' v' hb'
          simp only [Store.validK, T.get_set] at hk' ⊢
          by_cases e : f' = f
          · subst e
            rw [hF] at h1
            cases h1
            simp at hk'
            obtain ⟨h4, h5⟩ := hGf v' h2 hk'
            refine ⟨by simp [hF]; exact h4, fun p2 v2 e2 => ?_⟩
            simp only [Option.some.injEq, Prod.mk.injEq] at e2
            have := h3 h4
            omega
          · rw [if_neg e] at hk'
            refine ⟨hk', fun p2 v2 e2 => ?_⟩
            simp only [Option.some.injEq, Prod.mk.injEq] at e2
            exact absurd e2.1 e
    · cases hs
  · cases hs

theorem Rel.sub_add1 {ρ : Ren} {σ : Store} {w : World} (h : Rel ρ σ w) (L : Loc) : ρ.sub (ρ.add σ.next L) := h.sub_add L

/-- append, a new array having been made. -/
theorem Rel.growNew {ρ : Ren} {σ σ' : Store} {w : World} (h : Rel ρ σ w) {b o : Nat} {xs ys : List HV} (hs : σ.grow b o xs ys = some σ') (hx : σ.loadN b o xs.length = some xs)
    (cs : Array Value) (ty : TypeId) (hl : (xs ++ ys).length ≤ cs.size) (hc : VsRel ρ (xs ++ ys) (cs.toList.take (xs ++ ys).length)) :
    Rel (ρ.add σ.next ⟨w.heap.size, 0, cs.size⟩) σ' (w.alloc (.cells cs ty)) := by
  obtain ⟨hwf, hnext, hglob, c, f, p, v, F, hcb, hF, hfl, hox, hget, hval⟩ := h.wf.grow hs hx
  refine ⟨hwf, ?_, ?_, ?_, fun g hg => let ⟨tot, ht⟩ := h.glob g (hglob ▸ hg); ⟨tot, h.sub_add _ _ _ ht⟩⟩
  · intro b' L hb'
    rw [heap_alloc_size, hnext]
    by_cases e : b' = σ.next
    · subst e; rw [Ren.add_same] at hb'; cases hb'; simp
    · rw [Ren.add_ne _ _ e] at hb'; have := h.dom b' L hb'; omega
  · intro b' L y hb' hy
    rw [hget] at hy
    by_cases e : b' = σ.next
    · subst e
      rw [Ren.add_same] at hb'
      cases hb'
      rw [if_pos rfl] at hy
      cases hy
      intro _
      refine ⟨cs, ⟨ty, (0, 0), heap_alloc_new w _, rfl, fun i _ => by simp⟩, by simpa using hl, ?_⟩
      simpa using hc.mono (h.sub_add _)
    · rw [Ren.add_ne _ _ e] at hb'
      rw [if_neg e] at hy
      exact (h.blk b' L y hb' hy).keep (h.sub_add _) (fun c' k hx hv => (hval b' c' k (hx ▸ hy) hv).1) (heap_alloc_lt w _ (h.dom b' L hb').2)
  · intro b1 b2 L1 L2 x1 x2 h1 h2 hx1 hx2 hne hblk
    by_cases e : b1 = σ.next
    · subst e
      rw [Ren.add_same] at h1
      cases h1
      rw [Ren.add_ne _ _ (Ne.symm hne)] at h2
      have := (h.dom b2 L2 h2).2
      simp at hblk
      omega
    · rw [Ren.add_ne _ _ e] at h1
      by_cases e' : b2 = σ.next
      · subst e'
        rw [Ren.add_same] at h2
        cases h2
        have := (h.dom b1 L1 h1).2
        simp at hblk
        omega
      · rw [Ren.add_ne _ _ e'] at h2
        rw [hget, if_neg e] at hx1
        rw [hget, if_neg e'] at hx2
        exact h.inj b1 b2 L1 L2 x1 x2 h1 h2 hx1 hx2 hne hblk

theorem take_over_prefix (l vs : List Value) (base n : Nat) (h : base + n + vs.length ≤ l.length) :
    ((l.take (base + n) ++ vs ++ l.drop (base + n + vs.length)).drop base).take (n + vs.length) = (l.drop base).take n ++ vs := by
  apply List.ext_getElem?
  intro i
  simp only [List.getElem?_take, List.getElem?_drop]
  by_cases h1 : i < n
  · rw [if_pos (by omega), List.append_assoc, List.getElem?_append_left (by simp; omega), List.getElem?_take, if_pos (by omega), List.getElem?_append_left (by simp; omega), List.getElem?_take, if_pos h1, List.getElem?_drop]
  · by_cases h2 : i < n + vs.length
    · rw [if_pos h2, List.append_assoc, List.getElem?_append_right (by simp; omega), List.getElem?_append_left (by simp; omega), List.getElem?_append_right (by simp; omega)]
      congr 1
      simp
      omega
    · rw [if_neg h2, List.getElem?_eq_none]
      simp
      omega

/-- append in place. -/
theorem Rel.growIn {ρ : Ren} {σ σ' : Store} {w w' : World} (h : Rel ρ σ w) {b o : Nat} {xs ys : List HV} (hs : σ.grow b o xs ys = some σ') (hx : σ.loadN b o xs.length = some xs)
    {L : Loc} (hL : ρ b = some L) {ys' : List Value} (hy : VsRel ρ ys ys') (hfit : L.base + o + xs.length + ys.length ≤ L.tot) (hw : Over w w' L.blk (L.base + o + xs.length) ys') :
    Rel (ρ.add σ.next ⟨L.blk, L.base + o, L.tot⟩) σ' w' ∧ Fr σ.next σ'.next ρ (ρ.add σ.next ⟨L.blk, L.base + o, L.tot⟩) w w' := by
  obtain ⟨hwf, hnext, hglob, c, f, p, v, F, hcb, hF, hfl, hox, hget, hval⟩ := h.wf.grow hs hx
  obtain ⟨hb, hvb⟩ := Store.cells?_some hcb
  obtain ⟨cs, ⟨ty, fz, hcs, htot, hfz⟩, hfit2, hrel⟩ := h.cellsAt hL hcb
  have hyl := hy.length
  have hb0 : L.base + o + xs.length + ys'.length ≤ cs.size := by omega
  have hnb : b ≠ σ.next := by
    rintro rfl
    rw [h.wf.fresh _ (Nat.le_refl _)] at hb; cases hb
  have hxs : VsRel ρ xs ((cs.toList.drop (L.base + o)).take xs.length) := by
    obtain ⟨cs2, ⟨ty2, fz2, hcs2, _⟩, _, _, h5⟩ := h.loadN hL hx
    rw [hcs] at hcs2
    cases hcs2
    exact h5
  have hfr := hw.fr (N := σ.next) (ρ := ρ) hL fun cs2 ty2 fz2 h2 => by rw [hcs] at h2; cases h2; exact hb0
  refine ⟨⟨hwf, ?_, ?_, ?_, fun g hg => let ⟨tot, ht⟩ := h.glob g (hglob ▸ hg); ⟨tot, h.sub_add _ _ _ ht⟩⟩, ?_⟩
  · intro b' L' hb'
    rw [hw.size, hnext]
    by_cases e : b' = σ.next
    · subst e; rw [Ren.add_same] at hb'; cases hb'; exact ⟨by omega, (h.dom b L hL).2⟩
    · rw [Ren.add_ne _ _ e] at hb'; have := h.dom b' L' hb'; omega
  · intro b' L' y hb' hy'
    rw [hget] at hy'
    by_cases e : b' = σ.next
    · subst e
      rw [Ren.add_same] at hb'
      cases hb'
      rw [if_pos rfl] at hy'
      cases hy'
      intro _
      refine ⟨_, ⟨ty, fz, hw.here cs ty fz hcs, by simp; omega, fun i hi => hfz i (by simp at hi; omega)⟩, by simp; omega, ?_⟩
      simp only [List.length_append]
      rw [hyl]
      have := take_over_prefix cs.toList ys' (L.base + o) xs.length (by simpa using hb0)
      rw [this]
      exact (hxs.append hy).mono (h.sub_add _)
    · rw [Ren.add_ne _ _ e] at hb'
      rw [if_neg e] at hy'
      have hold := h.blk b' L' y hb' hy'
      by_cases e2 : L'.blk = L.blk
      · -- the block of the same family, or b itself
        have hsame : ∃ c' p' v', y = .cells c' (some (f, p', v')) ∧ L'.base + p = L.base + p' ∧ L'.tot = L.tot := by
          by_cases e3 : b' = b
          · subst e3
            rw [hb] at hy'
            rw [hL] at hb'
            cases hb'
            cases hy'
            exact ⟨c, p, v, rfl, rfl, rfl⟩
          · obtain ⟨ht, c1, c2, f1, p1, p2, v1, v2, h1, h2, h3⟩ := h.inj b' b L' L y _ hb' hL hy' hb e3 e2
            subst h1
            cases h2
            exact ⟨c1, p1, v1, rfl, h3, ht⟩
        obtain ⟨c', p', v', rfl, hpos, htot'⟩ := hsame
        intro hv'
        obtain ⟨hvold, hpre⟩ := hval b' c' _ hy' hv'
        have hpre := hpre p' v' rfl
        obtain ⟨cs2, ⟨ty2, fz2, hcs2, htot2, _⟩, hf2, hr2⟩ := hold hvold
        rw [e2, hcs] at hcs2
        cases hcs2
        refine ⟨_, ⟨ty, fz, by rw [e2]; exact hw.here cs ty fz hcs, by simp; omega, fun i hi => hfz i (by simp at hi; omega)⟩, hf2, ?_⟩
        have := take_drop_over cs.toList ys' (L.base + o + xs.length) L'.base c'.length (by simpa using hb0) (.inl (by omega))
        rw [this]
        exact hr2.mono (h.sub_add _)
      · exact hold.keep (h.sub_add _) (fun c' k' hx' hk' => (hval b' c' k' (hx' ▸ hy') hk').1) (hw.other _ e2)
  · intro b1 b2 L1 L2 x1 x2 h1 h2 hx1 hx2 hne hblk
    have key : ∀ b2 L2 x2, ρ b2 = some L2 → b2 ≠ σ.next → σ'.blks.get b2 = some x2 → L.blk = L2.blk → L.tot = L2.tot ∧ ∃ c2 p2 v2, x2 = .cells c2 (some (f, p2, v2)) ∧ L.base + p2 = L2.base + p := by
      intro b2 L2 x2 h2 hn2 hx2 hblk
      rw [hget, if_neg hn2] at hx2
      by_cases e3 : b2 = b
      · subst e3
        rw [hL] at h2
        cases h2
        rw [hb] at hx2
        cases hx2
        exact ⟨rfl, c, p, v, rfl, rfl⟩
      · obtain ⟨ht, c1, c2, f1, p1, p2, v1, v2, h3, h4, h5⟩ := h.inj b b2 L L2 _ x2 hL h2 hb hx2 (Ne.symm e3) hblk
        cases h3
        exact ⟨ht, c2, p2, v2, h4, h5⟩
    by_cases e : b1 = σ.next
    · subst e
      rw [Ren.add_same] at h1
      cases h1
      rw [Ren.add_ne _ _ (Ne.symm hne)] at h2
      obtain ⟨ht, c2, p2, v2, h3, h4⟩ := key b2 L2 x2 h2 (Ne.symm hne) hx2 hblk
      rw [hget, if_pos rfl] at hx1
      cases hx1
      exact ⟨ht, _, c2, f, _, p2, _, v2, rfl, h3, by simp; omega⟩
    · rw [Ren.add_ne _ _ e] at h1
      by_cases e' : b2 = σ.next
      · subst e'
        rw [Ren.add_same] at h2
        cases h2
        obtain ⟨ht, c2, p2, v2, h3, h4⟩ := key b1 L1 x1 h1 e hx1 hblk.symm
        rw [hget, if_pos rfl] at hx2
        cases hx2
        exact ⟨ht.symm, c2, _, f, p2, _, v2, _, h3, rfl, by simp; omega⟩
      · rw [Ren.add_ne _ _ e'] at h2
        rw [hget, if_neg e] at hx1
        rw [hget, if_neg e'] at hx2
        exact h.inj b1 b2 L1 L2 x1 x2 h1 h2 hx1 hx2 hne hblk
  · refine ⟨h.sub_add _, hfr.size, hfr.keep, hfr.shape, fun b' L' hb' hb'' => ?_, hfr.tape, hfr.os, hfr.output, by rw [hnext]; omega, fun b' hb' hn => by rw [Ren.add_ne _ _ (by omega)]; exact hn⟩
    by_cases e : b' = σ.next
    · subst e
      rw [Ren.add_same] at hb''
      cases hb''
      exact .inr ⟨b, L, hL, rfl⟩
    · rw [Ren.add_ne _ _ e, hb'] at hb''; cases hb''

/-! ### Objects -/
def HBlk.obj : HBlk → Prop
  | .cells .. => False
  | .pad .. => False
  | _ => True

theorem Rel.obj_unique {ρ : Ren} {σ : Store} {w : World} (h : Rel ρ σ w) {r : Nat} {L : Loc} (hL : ρ r = some L) {x : HBlk} (hx : σ.blks.get r = some x) (hox : x.obj)
    {b' : Nat} {L' : Loc} {x' : HBlk} (hb' : ρ b' = some L') (hx' : σ.blks.get b' = some x') (hne : b' ≠ r) : L'.blk ≠ L.blk := by
  intro e
  obtain ⟨_, c1, c2, f, p, p', v, v', _, h2, _⟩ := h.inj b' r L' L x' x hb' hL hx' hx hne e
  subst h2
  exact hox

theorem Rel.putObj {ρ : Ren} {σ : Store} {w : World} (h : Rel ρ σ w) {r : Nat} {L : Loc} (hL : ρ r = some L) {x y : HBlk} (hx : σ.blks.get r = some x) (hox : x.obj) (hoy : y.obj)
    (o : Obj) (ho : ∀ cs ty fz, w.heap[L.blk]? ≠ some (.cells cs ty fz)) (hB : BRel ρ σ (w.putObj L.blk o) L y) :
    Rel ρ { σ with blks := σ.blks.set r y } (w.putObj L.blk o) ∧ Fr σ.next σ.next ρ ρ w (w.putObj L.blk o) := by
  have hsz : (w.putObj L.blk o).heap.size = w.heap.size := by simp [World.putObj]
  have hother : ∀ B, B ≠ L.blk → (w.putObj L.blk o).heap[B]? = w.heap[B]? := fun B hB => World.putObj_heap_other hB
  have hr : r < σ.next := (h.dom r L hL).1
  refine ⟨⟨⟨?_, h.wf.famFresh, ?_, ?_⟩, ?_, ?_, ?_, h.glob⟩, ⟨.refl _, by rw [hsz]; exact Nat.le_refl _, fun B _ hn => hother B (fun e => hn r L hL e.symm), ?_, fun b L h h' => (by rw [h] at h'; cases h'), rfl, rfl, rfl, Nat.le_refl _, fun _ _ h => h⟩⟩
  · intro b hb
    simp only [T.get_set] at hb ⊢
    rw [if_neg (by omega)]
    exact h.wf.fresh b hb
  · intro b c f p v hb
    simp only [T.get_set] at hb
    split at hb
    · simp only [Option.some.injEq] at hb; subst hb; exact hoy.elim
    · exact h.wf.fam b c f p v hb
  · intro b b' c c' f p p' v hb hb'
    simp only [T.get_set] at hb hb'
    split at hb
    · simp only [Option.some.injEq] at hb; subst hb; exact hoy.elim
    · split at hb'
      · simp only [Option.some.injEq] at hb'; subst hb'; exact hoy.elim
      · exact h.wf.ver b b' c c' f p p' v hb hb'
  · intro b L' hb; rw [hsz]; exact h.dom b L' hb
  · intro b L' z hb hz
    simp only [T.get_set] at hz
    by_cases e : b = r
    · subst e
      rw [if_pos rfl] at hz
      cases hz
      rw [hL] at hb
      cases hb
      exact hB.keep (.refl _) (fun _ _ _ h => h) rfl
    · rw [if_neg e] at hz
      exact (h.blk b L' z hb hz).keep (.refl _) (fun _ _ _ h => h) (hother _ (h.obj_unique hL hx hox hb hz e))
  · intro b1 b2 L1 L2 x1 x2 h1 h2 hx1 hx2 hne hblk
    simp only [T.get_set] at hx1 hx2
    by_cases n1 : b1 = r
    · subst n1
      rw [if_neg (Ne.symm hne)] at hx2
      rw [hL] at h1
      cases h1
      exact absurd hblk.symm (h.obj_unique hL hx hox h2 hx2 (Ne.symm hne))
    · rw [if_neg n1] at hx1
      by_cases n2 : b2 = r
      · subst n2
        rw [hL] at h2
        cases h2
        exact absurd hblk (h.obj_unique hL hx hox h1 hx1 n1)
      · rw [if_neg n2] at hx2
        exact h.inj b1 b2 L1 L2 x1 x2 h1 h2 hx1 hx2 hne hblk
  · intro B cs ty fz hBc
    by_cases e : B = L.blk
    · subst e; exact absurd hBc (ho cs ty fz)
    · exact ⟨cs, by rw [hother B e]; exact hBc, rfl⟩

end
end Go.HI

/- The operations over the abstract heap are the machine's: memory's runs, and the first operations. -/
namespace Go.HI
noncomputable section

/-! ### Runs -/
section runs
variable {P : Program}

theorem cell_of {w : World} {L : Loc} {cs : Array Value} (h : CellsAt w L cs) (o : Nat) : w.cell? ⟨L.blk, o, none⟩ = cs[o]? := by
  obtain ⟨ty, fz, h1, _, _⟩ := h
  simp [World.cell?, h1]

theorem frozen_of {w : World} {L : Loc} {cs : Array Value} (h : CellsAt w L cs) {o : Nat} (ho : o < cs.size) : w.frozen? ⟨L.blk, o, none⟩ = false := by
  obtain ⟨ty, fz, h1, _, h3⟩ := h
  have := h3 o ho
  simp only [World.frozen?, h1]
  simpa using fun h => Nat.le_of_not_lt fun h' => this ⟨h, h'⟩

theorem addr_add (B o j : Nat) : (⟨B, o, none⟩ : Addr).add j = ⟨B, o + j, none⟩ := by
  unfold Addr.add
  split <;> simp_all

theorem loadCells_at {w : World} {L : Loc} {cs : Array Value} (h : CellsAt w L cs) (off n : Nat) (hn : off + n ≤ cs.size) :
    (loadCells ⟨L.blk, off, none⟩ n).run P w = .ok ⟨(cs.toList.drop off).take n⟩ w := by
  have hl : ((cs.toList.drop off).take n).length = n := by simp; omega
  have := run_loadCells_list (P := P) (w := w) ⟨L.blk, off, none⟩ ((cs.toList.drop off).take n) (fun j v hv => by
    rw [addr_add, cell_of h]
    simp only [List.getElem?_take, List.getElem?_drop] at hv
    split at hv
    · simpa using hv
    · cases hv)
  rw [hl] at this
  exact this

def oneCells (vs : List Value) : Prop := ∀ v ∈ vs, v.oneCell' = true

theorem over_nil (w : World) (B off : Nat) : Over w w B off [] :=
  ⟨fun cs ty fz h => by simpa using h, fun _ _ => rfl, rfl, rfl, rfl, rfl⟩

theorem over_cons {w w' : World} {B off : Nat} {v : Value} {vs : List Value} (h : Over (w.setCell ⟨B, off, none⟩ v) w' B (off + 1) vs)
    (hb : ∀ cs ty fz, w.heap[B]? = some (.cells cs ty fz) → off < cs.size) : Over w w' B off (v :: vs) where
  here := fun cs ty fz hB => by
    have h1 : (w.setCell ⟨B, off, none⟩ v).heap[B]? = some (.cells (cs.setIfInBounds off v) ty fz) := by
      simp [World.setCell, Array.getElem?_modify, hB]
    rw [h.here _ _ _ h1]
    have hoff := hb cs ty fz hB
    congr 2
    apply congrArg Array.mk
    apply List.ext_getElem?
    intro i
    have hl : ((cs.toList.set off v).take (off + 1)) = cs.toList.take off ++ [v] := by
      rw [List.set_eq_take_append_cons_drop, if_pos (by simpa using hoff), List.take_append, List.length_take, Array.length_toList, List.take_of_length_le (by simp; omega)]
      rw [show off + 1 - min off cs.size = 1 by omega]
      simp
    simp only [Array.toList_setIfInBounds]
    rw [hl]
    rw [List.drop_set_of_lt (by omega)]
    simp only [List.length_cons, List.append_assoc, List.cons_append, List.nil_append]
    rw [show off + 1 + vs.length = off + (vs.length + 1) by omega]
  other := fun B' hne => by
    rw [h.other B' hne]
    simp only [World.setCell, Array.getElem?_modify]
    rw [if_neg (fun e => hne e.symm)]
  size := by rw [h.size]; simp [World.setCell]
  tape := h.tape
  os := h.os
  output := h.output

theorem storeCells_at : ∀ (vs : List Value) (w : World) (B off i : Nat) (cs : Array Value) (ty : TypeId) (fz : Nat × Nat), w.heap[B]? = some (.cells cs ty fz) →
    (∀ j, j < cs.size → ¬ (fz.1 ≤ j ∧ j < fz.2)) → off + i + vs.length ≤ cs.size → oneCells vs →
    ∃ w', (storeCells ⟨B, off, none⟩ vs i).run P w = .ok () w' ∧ Over w w' B (off + i) vs
  | [], w, B, off, i, _, _, _, _, _, _, _ => ⟨w, by simp [storeCells], over_nil _ _ _⟩
  | v :: vs, w, B, off, i, cs, ty, fz, hB, hz, hn, ho => by
    have hlt : off + i < cs.size := by simp at hn; omega
    have hc : w.cell? ⟨B, off + i, none⟩ = some cs[off + i] := by simp [World.cell?, hB, hlt]
    have hf : w.frozen? ⟨B, off + i, none⟩ = false := by
      have := hz (off + i) hlt
      simp only [World.frozen?, hB]
      simpa using fun h => Nat.le_of_not_lt fun h' => this ⟨h, h'⟩
    have hB' : (w.setCell ⟨B, off + i, none⟩ v).heap[B]? = some (.cells (cs.setIfInBounds (off + i) v) ty fz) := by
      simp [World.setCell, Array.getElem?_modify, hB]
    obtain ⟨w', h1, h2⟩ := storeCells_at vs (w.setCell ⟨B, off + i, none⟩ v) B off (i + 1) (cs.setIfInBounds (off + i) v) ty fz hB' (fun j hj => hz j (by simpa using hj)) (by simp at hn ⊢; omega) (fun x hx => ho x (by simp [hx]))
    refine ⟨w', ?_, over_cons (by rw [show off + i + 1 = off + (i + 1) by omega]; exact h2) (fun cs2 ty2 fz2 h3 => by rw [hB] at h3; cases h3; exact hlt)⟩
    simp only [storeCells, addr_add, Sem.run_bind, run_store P w _ v .plain (ho v (by simp)), hc, hf, Bool.false_eq_true, if_false, Result.andThen_ok]
    exact h1

theorem storeCells_loc {w : World} {L : Loc} {cs : Array Value} (h : CellsAt w L cs) (off : Nat) (vs : List Value) (hn : off + vs.length ≤ cs.size) (ho : oneCells vs) :
    ∃ w', (storeCells ⟨L.blk, off, none⟩ vs).run P w = .ok () w' ∧ Over w w' L.blk off vs := by
  obtain ⟨ty, fz, h1, h2, h3⟩ := h
  exact storeCells_at vs w L.blk off 0 cs ty fz h1 h3 (by simpa using hn) ho

theorem typeInfo_run {t : TypeId} {i : TypeInfo} (h : P.info? t = some i) (w : World) : (typeInfo t).run P w = .ok i w := by simp [typeInfo, h]
theorem underlying_run {t : TypeId} {d : TypeDesc} (h : P.underlying t = some d) (w : World) : (underlying t).run P w = .ok d w := by simp [underlying, h]
theorem sizeOf_run {t : TypeId} {i : TypeInfo} (h : P.info? t = some i) (w : World) : (sizeOf t).run P w = .ok (szOf P t) w := by
  simp [sizeOf, typeInfo, h, szOf, Program.cellsOf]
theorem isAgg_run {t : TypeId} {d : TypeDesc} (h : P.underlying t = some d) (w : World) : (isAgg t).run P w = .ok (isAggB P t) w := by
  unfold isAgg isAggB
  simp only [Sem.run_bind, underlying_run h, Result.andThen_ok, h]
  cases d <;> rfl

theorem info_of_underlying {t : TypeId} {d : TypeDesc} (h : P.underlying t = some d) : ∃ i, P.info? t = some i := by
  unfold Program.underlying at h
  cases hi : P.info? t with
  | some i => exact ⟨i, rfl⟩
  | none => simp [hi] at h

/-- The zero value, abstract and real. -/
theorem zero_run {ρ : Ren} {t : TypeId} {z : HV} (h : zeroHV P t = some z) : ∃ v, VRel ρ z v ∧ isAny z = false ∧ (∀ w, (zeroValue t).run P w = .ok v w) ∧ ∃ i, P.info? t = some i := by
  unfold zeroHV at h
  cases hi : P.info? t with
  | none => simp [hi] at h
  | some i =>
    cases hz : i.zero with
    | none => simp [hi, hz] at h
    | some v =>
      simp [hi, hz] at h
      refine ⟨v, VRel.of_value h, ?_, fun w => by simp [zeroValue, typeInfo, hi, hz], i, rfl⟩
      unfold HV.ofValue at h
      split at h
      · simp only [Option.map_eq_some_iff] at h; obtain ⟨_, _, rfl⟩ := h; rfl
      · simp only [Option.map_eq_some_iff] at h; obtain ⟨_, _, rfl⟩ := h; rfl
      · unfold HV.ofScalar at h
        split at h <;> simp at h <;> subst h <;> rfl

theorem newRow_run (t : TypeId) (cs : Array Value) (w : World) : (newRow t cs).run P w = .ok ⟨w.heap.size, 0, none⟩ (w.alloc (.cells cs t)) := by
  simp [newRow]
theorem newVar_run (t : TypeId) (v : Value) (w : World) : (newVar t v).run P w = .ok ⟨w.heap.size, 0, none⟩ (w.alloc (.cells v.cells t)) := newRow_run t _ w

theorem loadVar_at {w : World} {L : Loc} {cs : Array Value} (h : CellsAt w L cs) {t : TypeId} (hu : (P.underlying t).isSome = true) (off : Nat) (hn : off + szOf P t ≤ cs.size)
    (h1 : isAggB P t = true ∨ szOf P t = 1) :
    (loadVar t ⟨L.blk, off, none⟩).run P w = .ok (if isAggB P t then .agg ⟨(cs.toList.drop off).take (szOf P t)⟩ else cs.getD off undef) w := by
  obtain ⟨d, hd⟩ := Option.isSome_iff_exists.1 hu
  obtain ⟨i, hi⟩ := info_of_underlying hd
  unfold loadVar
  simp only [Sem.run_bind, isAgg_run hd, Result.andThen_ok]
  cases hb : isAggB P t with
  | true =>
    simp only [if_true, Sem.run_bind, sizeOf_run hi, Result.andThen_ok, loadCells_at h off _ hn]
    rfl
  | false =>
    rcases h1 with h1 | h1
    · rw [hb] at h1; cases h1
    · have hlt : off < cs.size := by omega
      simp only [Bool.false_eq_true, if_false, run_load, cell_of h]
      simp [hlt]

theorem storeVar_at {w : World} {L : Loc} {cs : Array Value} (h : CellsAt w L cs) {t : TypeId} {i : TypeInfo} (hi : P.info? t = some i) (off : Nat) (v : Value) (hv : v.cells.size = szOf P t)
    (hn : off + szOf P t ≤ cs.size) (ho : oneCells v.cells.toList) :
    ∃ w', (storeVar t ⟨L.blk, off, none⟩ v).run P w = .ok () w' ∧ Over w w' L.blk off v.cells.toList := by
  obtain ⟨w', h1, h2⟩ := storeCells_loc (P := P) h off v.cells.toList (by simp; omega) ho
  refine ⟨w', ?_, h2⟩
  unfold storeVar
  simp only [Sem.run_bind, sizeOf_run hi, Result.andThen_ok]
  rw [if_neg (by simp [hv])]
  exact h1
end runs

theorem VRel.oneCell {ρ : Ren} {h : HV} {v : Value} (hs : scalarHV h = true) (hr : VRel ρ h v) : v.oneCell' = true := by
  cases h with
  | any => simp [scalarHV] at hs
  | agg => simp [scalarHV] at hs
  | tuple => simp [scalarHV] at hs
  | bool b => simp only [VRel] at hr; subst hr; rfl
  | int b => simp only [VRel] at hr; subst hr; rfl
  | str b => simp only [VRel] at hr; subst hr; rfl
  | pad b => simp only [VRel] at hr; subst hr; rfl
  | nilFunc => simp only [VRel] at hr; subst hr; rfl
  | nilIface => simp only [VRel] at hr; subst hr; rfl
  | iface t x => simp only [VRel] at hr; obtain ⟨_, rfl, _⟩ := hr; rfl
  | func f a c => simp only [VRel] at hr; obtain ⟨_, _, _, rfl, _⟩ := hr; rfl
  | ptr a =>
    cases a with
    | none => simp only [VRel] at hr; subst hr; rfl
    | some a => obtain ⟨b, o⟩ := a; simp only [VRel] at hr; obtain ⟨L, _, rfl⟩ := hr; rfl
  | map a =>
    cases a with
    | none => simp only [VRel] at hr; subst hr; rfl
    | some a => simp only [VRel] at hr; obtain ⟨L, _, rfl⟩ := hr; rfl
  | slice a n e =>
    cases a with
    | none => simp only [VRel] at hr; obtain ⟨_, rfl⟩ := hr; rfl
    | some a =>
      obtain ⟨b, o⟩ := a
      simp only [VRel] at hr
      rcases hr with ⟨L, cap, _, _, _, rfl⟩ | ⟨_, a, rfl⟩ <;> rfl

theorem VsRel.oneCells {ρ : Ren} : ∀ {h : List HV} {v : List Value}, h.all scalarHV = true → VsRel ρ h v → oneCells v
  | [], [], _, _ => fun _ h => by cases h
  | [], _ :: _, _, h => by simp at h
  | _ :: _, [], _, h => by simp at h
  | x :: xs, y :: ys, hs, hr => by
    simp only [List.all_cons, Bool.and_eq_true] at hs
    rw [VsRel.cons_iff] at hr
    intro v hv
    simp only [List.mem_cons] at hv
    rcases hv with rfl | hv
    · exact VRel.oneCell hs.1 hr.1
    · exact VsRel.oneCells hs.2 hr.2 v hv

/-! ### What an operation owes -/
def ValOK (N : Nat) (ρ : Ren) (w : World) (run : Result Next) (v : HV) (σ' : Store) : Prop :=
  ∃ v' w' ρ', (run = .ok (.value v') w' ∨ (run = .ok .skip w' ∧ v' = undef)) ∧ VRel ρ' v v' ∧ Rel ρ' σ' w' ∧ Fr N σ'.next ρ ρ' w w'

def ResOK (P : Program) (ρ : Ren) (w : World) (σ : Store) (s : Sem Next) : OpRes → Prop
  | .val v σ' => ValOK σ.next ρ w (s.run P w) v σ'
  | .alts l => ∃ v σ', (v, σ') ∈ l ∧ ValOK σ.next ρ w (s.run P w) v σ'
  | .panic v => ∃ v' w', s.run P w = .halt (.panic v') w' ∧ VRel ρ v v' ∧ Rel ρ σ w' ∧ Fr σ.next σ.next ρ ρ w w'
  | .call fv args => ∃ fv' args', VRel ρ fv fv' ∧ VsRel ρ args args'.toList ∧ s = (do let d ← Deferred.ofValue fv' args'; invoke d.target d.args)
  | .stuck => True

def OpOK (P : Program) (o : Oper) (fr : HFrame) (σ : Store) (r : OpRes) : Prop :=
  ∀ ρ w (a : Act), Rel ρ σ w → SlotsRel ρ fr a.tmps → ResOK P ρ w σ (execOp a.eval o) r

theorem SlotsRel.eval {ρ : Ren} {fr : HFrame} {a : Act} (h : SlotsRel ρ fr a.tmps) (x : Operand) : VRel ρ (fr.eval x) (a.eval x) := by
  cases x with
  | tmp t =>
    simp only [HFrame.eval, Act.eval]
    split
    · rename_i ht; exact h.2.1 t ht
    · simp [VRel]
  | const v =>
    simp only [HFrame.eval, Act.eval]
    cases hv : HV.ofValue v with
    | none => simp [VRel]
    | some x => exact VRel.of_value hv
  | global g =>
    simp only [HFrame.eval, Act.eval]
    split
    · rename_i hg
      obtain ⟨tot, ht⟩ := h.2.2 g hg
      simp only [VRel]
      exact ⟨_, ht, by simp⟩
    · simp [VRel]
  | func f =>
    simp only [HFrame.eval, Act.eval, VRel]
    exact ⟨_, _, _, rfl, rfl, by simp, by simp⟩

theorem ValOK.pure {ρ : Ren} {w : World} {σ : Store} {run : Result Next} {v : HV} {v' : Value} (hR : Rel ρ σ w) (h : run = .ok (.value v') w) (hv : VRel ρ v v') : ValOK σ.next ρ w run v σ :=
  ⟨v', w, ρ, .inl h, hv, hR, .refl _ _⟩

/-! ### Pure programs -/
theorem runPure_val {α : Type} {P : Program} : ∀ (s : Sem α) (x : α), runPure P s = .val x → ∀ w, s.run P w = .ok x w
  | .pure a, x, h, w => by simp [runPure] at h; subst h; rfl
  | .program k, x, h, w => by simp only [runPure] at h; exact runPure_val (k P) x h w
  | .halt e, x, h, w => by cases e <;> simp [runPure] at h
  | .load .., _, h, _ | .store .., _, h, _ | .new .., _, h, _ | .shape .., _, h, _ | .freeze .., _, h, _ | .frozen .., _, h, _ | .getObj .., _, h, _ | .setObj .., _, h, _
  | .choose .., _, h, _ | .sys .., _, h, _ | .mark .., _, h, _ => by simp [runPure] at h

theorem runPure_panic {α : Type} {P : Program} : ∀ (s : Sem α) (v : Value), runPure P s = .panic v → ∀ w, s.run P w = .halt (.panic v) w
  | .pure a, x, h, w => by simp [runPure] at h
  | .program k, x, h, w => by simp only [runPure] at h; exact runPure_panic (k P) x h w
  | .halt e, x, h, w => by cases e <;> simp [runPure] at h; subst h; rfl
  | .load .., _, h, _ | .store .., _, h, _ | .new .., _, h, _ | .shape .., _, h, _ | .freeze .., _, h, _ | .frozen .., _, h, _ | .getObj .., _, h, _ | .setObj .., _, h, _
  | .choose .., _, h, _ | .sys .., _, h, _ | .mark .., _, h, _ => by simp [runPure] at h

theorem pureOp_ok {P : Program} {o : Oper} {fr : HFrame} {σ : Store} : OpOK P o fr σ (pureOp P o fr σ) := by
  intro ρ w a hR hS
  unfold pureOp
  split
  · trivial
  rename_i hns
  split
  · rename_i hp
    have hev : ∀ x ∈ o.op.operands, a.eval x = pureEv fr x := by
      intro x hx
      have h1 := List.all_eq_true.1 hp x (by simpa using hx)
      obtain ⟨v, hv⟩ := Option.isSome_iff_exists.1 h1
      unfold pureEv
      rw [hv]
      exact VRel.plain_eq _ _ _ hv (hS.eval x)
    by_cases hsel : ∃ cs b, o.op = .select cs b
    · obtain ⟨cs, b, hsel⟩ := hsel
      simp [isSelect, hsel] at hns
    · have hex : execOp a.eval o = execOp (pureEv fr) o := execOp_congr o (fun cs b h => hsel ⟨cs, b, h⟩) hev
      rw [hex]
      split
      · rename_i v hv
        split
        · rename_i h hh
          exact ValOK.pure hR (runPure_val _ _ hv w) (VRel.of_value hh)
        · trivial
      · rename_i v hv
        exact ⟨v, w, runPure_panic _ _ hv w, by simp [VRel], hR, .refl _ _⟩
      · trivial
  · trivial

end
end Go.HI

/- The operations over the abstract heap are the machine's: making, reading, writing. -/
namespace Go.HI
noncomputable section

variable {P : Program} {o : Oper} {fr : HFrame} {σ : Store}

theorem BRel.newVar {ρ : Ren} {σ : Store} {w : World} {c : List HV} {cs : Array Value} {t : TypeId} (h : VsRel ρ c cs.toList) :
    BRel ρ σ (w.alloc (.cells cs t)) ⟨w.heap.size, 0, cs.size⟩ (.cells c none) := by
  intro _
  have hl := h.length
  refine ⟨cs, ⟨t, (0, 0), heap_alloc_new w _, rfl, fun i _ => by simp⟩, by simp at hl ⊢; omega, ?_⟩
  simp only [List.drop_zero]
  rw [List.take_of_length_le (by omega)]
  exact h

theorem ValOK.newVar {ρ : Ren} {σ : Store} {w : World} {run : Result Next} {c : List HV} {cs : Array Value} {t : TypeId} (hR : Rel ρ σ w)
    (h : run = .ok (.value (.pointer (some ⟨w.heap.size, 0, none⟩))) (w.alloc (.cells cs t))) (hc : VsRel ρ c cs.toList) :
    ValOK σ.next ρ w run (.ptr (some (σ.next, 0))) (σ.push (.cells c none)) := by
  refine ⟨_, _, ρ.add σ.next ⟨w.heap.size, 0, cs.size⟩, .inl h, ?_, hR.alloc (by simp [HBlk.single]) _ _ (BRel.newVar hc), Fr.alloc hR _ _⟩
  simp only [VRel]
  exact ⟨_, Ren.add_same _ _ _, rfl⟩

theorem ok_move {x : Operand} (h : o.op = .move x ∨ o.op = .assign x) : OpOK P o fr σ (.val (fr.eval x) σ) := fun ρ w a hR hS => by
  refine ValOK.pure hR ?_ (hS.eval x)
  rcases h with h | h <;> simp [execOp, h]

theorem ok_pick {c x y : Operand} {t : Bool} (h : o.op = .pick c x y) (hc : fr.eval c = .bool t) : OpOK P o fr σ (.val (if t then fr.eval x else fr.eval y) σ) := fun ρ w a hR hS => by
  have h1 := hS.eval c
  rw [hc] at h1
  simp only [VRel] at h1
  cases t with
  | true => exact ValOK.pure hR (v' := a.eval x) (by simp [execOp, h, h1, asBool]) (hS.eval x)
  | false => exact ValOK.pure hR (v' := a.eval y) (by simp [execOp, h, h1, asBool]) (hS.eval y)

theorem ok_alloc {elem : TypeId} {z : HV} (h : o.op = .alloc elem) (hz : zeroHV P elem = some z) :
    OpOK P o fr σ (.val (.ptr (some (σ.next, 0))) (σ.push (.cells z.cells none))) := fun ρ w a hR hS => by
  obtain ⟨v, hv, hn, hrun, i, hi⟩ := zero_run (ρ := ρ) hz
  refine ValOK.newVar (cs := v.cells) (t := elem) hR ?_ (hv.cells hn)
  simp [execOp, h, Instr.alloc, hrun, newVar_run]

theorem ok_box {elem : TypeId} {x : Operand} (h : o.op = .box elem x) (hx : isAny (fr.eval x) = false) :
    OpOK P o fr σ (.val (.ptr (some (σ.next, 0))) (σ.push (.cells (fr.eval x).cells none))) := fun ρ w a hR hS => by
  refine ValOK.newVar (cs := (a.eval x).cells) (t := elem) hR ?_ ((hS.eval x).cells hx)
  simp [execOp, h, Instr.box, newVar_run]

/-! ### Filling -/
theorem foldl_fill (off : Nat) : ∀ (vs : List Value) (k : Nat) (cs : Array Value), off + k + vs.length ≤ cs.size →
    ((vs.zipIdx k).foldl (fun cs (c, j) => cs.setIfInBounds (off + j) c) cs).toList = cs.toList.take (off + k) ++ vs ++ cs.toList.drop (off + k + vs.length)
  | [], k, cs, _ => by simp
  | v :: vs, k, cs, h => by
    simp only [List.zipIdx_cons, List.foldl_cons]
    rw [foldl_fill off vs (k + 1) _ (by simp at h ⊢; omega)]
    simp only [Array.toList_setIfInBounds, List.length_cons] at h ⊢
    have h1 : (cs.toList.set (off + k) v).take (off + (k + 1)) = cs.toList.take (off + k) ++ [v] := by
      rw [List.set_eq_take_append_cons_drop, if_pos (by simp; omega), List.take_append, List.length_take, Array.length_toList, List.take_of_length_le (by simp; omega)]
      rw [show off + (k + 1) - min (off + k) cs.size = 1 by omega]
      simp
    rw [h1, List.drop_set_of_lt (by omega)]
    rw [show off + (k + 1) + vs.length = off + k + (vs.length + 1) by omega]
    simp

theorem fill_ok {ρ : Ren} {pl pl' : Nat → Option (Nat × Nat)} (hpl : ∀ i, pl i = pl' i) : ∀ (ps : List (Nat × HV)) (ps' : List (Nat × Value)) (c : List HV) (cs : Array Value) (c' : List HV),
    ps.map (·.1) = ps'.map (·.1) → VsRel ρ (ps.map (·.2)) (ps'.map (·.2)) → ps.all (fun p => !isAny p.2) = true → VsRel ρ c cs.toList → fillH pl c ps = some c' →
    ∃ cs', Instr.fill pl' cs ps' = some cs' ∧ VsRel ρ c' cs'.toList
  | [], [], c, cs, c', _, _, _, hc, h => by simp only [fillH, Option.some.injEq] at h; subst h; exact ⟨cs, rfl, hc⟩
  | [], _ :: _, _, _, _, h, _, _, _, _ => by simp at h
  | _ :: _, [], _, _, _, h, _, _, _, _ => by simp at h
  | (i, x) :: ps, (i', v) :: ps', c, cs, c', he, hr, hn, hc, h => by
    simp only [List.map_cons, List.cons.injEq] at he
    simp only [List.map_cons, VsRel.cons_iff] at hr
    simp only [List.all_cons, Bool.and_eq_true, Bool.not_eq_true'] at hn
    obtain ⟨rfl, he⟩ := he
    simp only [fillH] at h
    simp only [Instr.fill]
    rw [← hpl]
    cases hp : pl i with
    | none => simp [hp] at h
    | some q =>
      obtain ⟨off, size⟩ := q
      simp only [hp] at h ⊢
      have hxc := hr.1.cells hn.1
      have hl := hxc.length
      have hcl := hc.length
      split at h
      · cases h
      · rename_i hcond
        simp only [ne_eq, Bool.or_eq_true, decide_eq_true_eq, not_or, Decidable.not_not, Nat.not_lt] at hcond
        simp only [Array.length_toList] at hl hcl
        rw [if_neg (by simp; omega)]
        refine fill_ok hpl ps ps' _ _ c' he hr.2 hn.2 ?_ h
        have h3 := foldl_fill off v.cells.toList 0 cs (by simp; omega)
        simp only [Array.foldl_toList] at h3
        rw [show (v.cells.zipIdx.foldl (fun cs (x : Value × Nat) => cs.setIfInBounds (off + x.2) x.1) cs).toList = cs.toList.take off ++ v.cells.toList ++ cs.toList.drop (off + v.cells.toList.length) from ?_]
        · exact hc.splice hxc off
        · rw [← Array.foldl_toList]
          simpa using h3

theorem parts_ok {ρ : Ren} {a : Act} (hS : SlotsRel ρ fr a.tmps) (parts : Array (Nat × Operand)) :
    (parts.toList.map fun (i, x) => (i, fr.eval x)).map (·.1) = (parts.map fun (i, x) => (i, a.eval x)).toList.map (·.1) ∧
    VsRel ρ ((parts.toList.map fun (i, x) => (i, fr.eval x)).map (·.2)) ((parts.map fun (i, x) => (i, a.eval x)).toList.map (·.2)) := by
  refine ⟨by simp [Function.comp_def], ?_⟩
  simp only [Array.toList_map, List.map_map]
  exact VsRel.map _ fun x _ => hS.eval x.2

theorem mapM_run {α β : Type} (f : α → Sem β) (g : α → β) (w : World) : ∀ (l : List α), (∀ x ∈ l, (f x).run P w = .ok (g x) w) → (l.mapM f).run P w = .ok (l.map g) w
  | [], _ => by simp
  | x :: xs, h => by
    simp only [List.mapM_cons, Sem.run_bind, h x (by simp), Result.andThen_ok, mapM_run f g w xs (fun y hy => h y (by simp [hy])), Sem.run_pure, List.map_cons]

theorem ok_build_struct {t : TypeId} {parts : Array (Nat × Operand)} {z : HV} {fields : Array Field} {cells : List HV} (h : o.op = .build t parts) (hz : zeroHV P t = some z)
    (hu : P.underlying t = some (.struct fields)) (hi : fields.toList.all (fun f => (P.info? f.type).isSome) = true)
    (hn : (parts.toList.map fun (i, x) => (i, fr.eval x)).all (fun p => !isAny p.2) = true)
    (hf : fillH (fun i => (fields[i]?).map fun f => (f.offset, szOf P f.type)) z.cells (parts.toList.map fun (i, x) => (i, fr.eval x)) = some cells) :
    OpOK P o fr σ (.val (.agg cells) σ) := fun ρ w a hR hS => by
  obtain ⟨v, hv, hzn, hrun, i, hti⟩ := zero_run (ρ := ρ) hz
  obtain ⟨h1, h2⟩ := parts_ok hS parts
  have hpl : (Array.mapM (m := Sem) (fun f : Field => do pure (f.offset, ← sizeOf f.type)) fields).run P w = .ok (fields.map fun f => (f.offset, szOf P f.type)) w := by
    rw [Array.mapM_eq_mapM_toList, Sem.run_map, mapM_run (P := P) _ (fun f : Field => (f.offset, szOf P f.type)) w fields.toList]
    · simp only [Result.andThen_ok]
      congr 1
      apply Array.ext'
      simp
    · intro f hf
      obtain ⟨i, hfi⟩ := Option.isSome_iff_exists.1 (List.all_eq_true.1 hi f hf)
      simp [sizeOf_run hfi]
  obtain ⟨cs', h3, h4⟩ := fill_ok (ρ := ρ) (pl := fun i => (fields[i]?).map fun f => (f.offset, szOf P f.type)) (pl' := ((fields.map fun f => (f.offset, szOf P f.type))[·]?)) (fun i => by simp) _ _ z.cells v.cells cells h1 h2 hn (hv.cells hzn) hf
  refine ValOK.pure hR (v' := .agg cs') ?_ (by simp only [VRel]; exact ⟨cs', rfl, h4⟩)
  simp only [execOp, h, Instr.build, Sem.run_bind, hrun, Result.andThen_ok, underlying_run hu, hpl, Sem.run_pure]
  rw [h3]
  simp

theorem ok_build_array {t : TypeId} {parts : Array (Nat × Operand)} {z : HV} {n : Nat} {elem : TypeId} {cells : List HV} (h : o.op = .build t parts) (hz : zeroHV P t = some z)
    (hu : P.underlying t = some (.array n elem)) (hi : (P.info? elem).isSome = true)
    (hn : (parts.toList.map fun (i, x) => (i, fr.eval x)).all (fun p => !isAny p.2) = true)
    (hf : fillH (fun i => some (i * szOf P elem, szOf P elem)) z.cells (parts.toList.map fun (i, x) => (i, fr.eval x)) = some cells) :
    OpOK P o fr σ (.val (.agg cells) σ) := fun ρ w a hR hS => by
  obtain ⟨v, hv, hzn, hrun, i, hti⟩ := zero_run (ρ := ρ) hz
  obtain ⟨h1, h2⟩ := parts_ok hS parts
  obtain ⟨ei, hei⟩ := Option.isSome_iff_exists.1 hi
  obtain ⟨cs', h3, h4⟩ := fill_ok (ρ := ρ) (fun i => rfl) _ _ z.cells v.cells cells h1 h2 hn (hv.cells hzn) hf
  refine ValOK.pure hR (v' := .agg cs') ?_ (by simp only [VRel]; exact ⟨cs', rfl, h4⟩)
  simp only [execOp, h, Instr.build, Sem.run_bind, hrun, Result.andThen_ok, underlying_run hu, sizeOf_run hei, Sem.run_pure]
  rw [h3]
  simp

/-! ### Rows of zeros -/
theorem range_mod (l : List Value) (n : Nat) (hl : l ≠ [] ∨ n = 0) : (List.range (n * l.length)).map (fun i => (⟨l⟩ : Array Value)[i % l.length]!) = (List.replicate n l).flatten := by
  induction n with
  | zero => simp
  | succ n ih =>
    have hl' : l ≠ [] := by rcases hl with h | h; exact h; omega
    have hpos : 0 < l.length := List.length_pos_iff.2 hl'
    rw [Nat.succ_mul, List.range_add, List.map_append, ih (.inl hl'), List.replicate_succ', List.flatten_append]
    congr 1
    simp only [List.map_map, List.flatten_cons, List.flatten_nil, List.append_nil]
    apply List.ext_getElem?
    intro i
    simp only [List.getElem?_map, Function.comp_def]
    by_cases h : i < l.length
    · rw [List.getElem?_range h]
      simp only [Option.map_some, Nat.mul_add_mod_self_right]
      rw [Nat.mod_eq_of_lt h]
      simp [h]
    · rw [List.getElem?_eq_none (by simp; omega), List.getElem?_eq_none (by omega)]
      rfl

theorem zeros_ok {ρ : Ren} {z : List HV} {v : Array Value} (h : VsRel ρ z v.toList) (n size : Nat) (hs : z.length = size) :
    VsRel ρ (List.replicate n z).flatten ((Array.range (n * size)).map ((if n * size = 0 then #[] else v)[· % (if n * size = 0 then #[] else v).size]!)).toList := by
  have hl := h.length
  by_cases e : n * size = 0
  · simp only [e, if_true]
    have : (List.replicate n z).flatten = [] := by
      rcases Nat.mul_eq_zero.1 e with rfl | h0
      · simp
      · have : z = [] := by apply List.eq_nil_of_length_eq_zero; omega
        subst this
        simp
    rw [this]
    simp
  · simp only [e, if_false]
    have hv : v.size = size := by simp at hl; omega
    have hne : v.toList ≠ [] := by
      intro h0
      have : size = 0 := by rw [← hv]; simpa using congrArg List.length h0
      exact e (by simp [this])
    have := range_mod v.toList n (.inl hne)
    simp only [Array.length_toList] at this
    simp only [Array.toList_map, Array.toList_range, hv]
    rw [hv] at this
    rw [show (⟨v.toList⟩ : Array Value) = v from rfl] at this
    rw [this]
    clear this
    induction n with
    | zero => simp
    | succ n ih =>
      simp only [List.replicate_succ, List.flatten_cons]
      by_cases hn : n = 0
      · subst hn; simpa using h
      · exact h.append (ih (by intro h0; rcases Nat.mul_eq_zero.1 h0 with h1 | h1; exact hn h1; exact e (by simp [h1])))

theorem ValOK.newArr {ρ : Ren} {σ : Store} {w : World} {run : Result Next} {c : List HV} {cs : Array Value} {t : TypeId} {n size cap : Nat} {fz : Nat × Nat} (hR : Rel ρ σ w) (hz : ∀ i, i < cs.size → ¬ (fz.1 ≤ i ∧ i < fz.2))
    (h : run = .ok (.value (.slice (some ⟨w.heap.size, 0, none⟩) n cap)) (w.alloc (.cells cs t fz))) (hl : c.length ≤ cs.size) (hc : VsRel ρ c (cs.toList.take c.length)) (hn : n ≤ cap) (hcap : cap * size ≤ cs.size) :
    ValOK σ.next ρ w run (.slice (some (σ.next, 0)) n size) (σ.pushArr c) := by
  refine ⟨_, _, ρ.add σ.next ⟨w.heap.size, 0, cs.size⟩, .inl h, ?_, hR.allocArr c cs t fz hz hl hc, Fr.alloc hR _ _⟩
  simp only [VRel]
  exact .inl ⟨_, cap, Ren.add_same _ _ _, hn, by simpa using hcap, rfl⟩

theorem run_buildSlice {ρ : Ren} {w : World} {a : Act} {t : TypeId} {len : Nat} {parts : Array (Nat × Operand)} {elem : TypeId} {z : HV} {cells : List HV} (h : o.op = .buildSlice t len parts) (hu : P.underlying t = some (.slice elem))
    (hb : ¬ len * szOf P elem > 2 ^ 24) (hz : zeroHV P elem = some z) (hzl : z.cells.length = szOf P elem)
    (hn : (parts.toList.map fun (i, x) => (i, fr.eval x)).all (fun p => !isAny p.2) = true)
    (hf : fillH (fun i => some (i * szOf P elem, szOf P elem)) (List.replicate len z.cells).flatten (parts.toList.map fun (i, x) => (i, fr.eval x)) = some cells)
    (hS : SlotsRel ρ fr a.tmps) : ∃ cs' : Array Value, (execOp a.eval o).run P w = .ok (.value (.slice (some ⟨w.heap.size, 0, none⟩) len len)) (w.alloc (.cells cs' elem)) ∧ VsRel ρ cells cs'.toList ∧ cs'.size = len * szOf P elem := by
  obtain ⟨v, hv, hzn, hrun, i, hti⟩ := zero_run (ρ := ρ) hz
  obtain ⟨h1, h2⟩ := parts_ok hS parts
  have hzero := zeros_ok (hv.cells hzn) len (szOf P elem) hzl
  obtain ⟨cs', h3, h4⟩ := fill_ok (ρ := ρ) (fun i => rfl) _ _ _ ((Array.range (len * szOf P elem)).map ((if len * szOf P elem = 0 then #[] else v.cells)[· % (if len * szOf P elem = 0 then #[] else v.cells).size]!)) cells h1 h2 hn hzero hf
  have hsz : cs'.size = len * szOf P elem := by
    have : ∀ (pl : Nat → Option (Nat × Nat)) (ps : List (Nat × Value)) (c c' : Array Value), Instr.fill pl c ps = some c' → c'.size = c.size := by
      intro pl ps
      induction ps with
      | nil => intro c c' h; simp only [Instr.fill, Option.some.injEq] at h; rw [h]
      | cons p ps ih =>
        intro c c' h
        obtain ⟨i, v⟩ := p
        simp only [Instr.fill] at h
        split at h
        · cases h
        · split at h
          · cases h
          · have := ih _ _ h
            rw [this]
            have hfold : ∀ (l : List (Value × Nat)) (c : Array Value) (off : Nat), (l.foldl (fun cs (x : Value × Nat) => cs.setIfInBounds (off + x.2) x.1) c).size = c.size := by
              intro l
              induction l with
              | nil => intro c off; rfl
              | cons q l ih => intro c off; rw [List.foldl_cons, ih]; simp
            rw [← Array.foldl_toList]
            exact hfold _ _ _
    rw [this _ _ _ _ h3]
    simp
  refine ⟨cs', ?_, h4, hsz⟩
  simp only [execOp, h, Instr.buildSlice, Sem.run_bind, underlying_run hu, Result.andThen_ok, sizeOf_run hti]
  rw [if_neg hb]
  by_cases e : len * szOf P elem = 0
  · simp only [e, if_true, pure_bind] at h3 ⊢
    rw [h3]
    simp [newRow_run]
  · simp only [e, if_false, Sem.run_bind, hrun, Sem.run_pure, Result.andThen_ok] at h3 ⊢
    rw [h3]
    simp [newRow_run]

theorem ok_buildSlice {t : TypeId} {len : Nat} {parts : Array (Nat × Operand)} {elem : TypeId} {z : HV} {cells : List HV} (h : o.op = .buildSlice t len parts) (hu : P.underlying t = some (.slice elem))
    (hb : ¬ len * szOf P elem > 2 ^ 24) (hz : zeroHV P elem = some z) (hzl : z.cells.length = szOf P elem)
    (hn : (parts.toList.map fun (i, x) => (i, fr.eval x)).all (fun p => !isAny p.2) = true)
    (hf : fillH (fun i => some (i * szOf P elem, szOf P elem)) (List.replicate len z.cells).flatten (parts.toList.map fun (i, x) => (i, fr.eval x)) = some cells) :
    OpOK P o fr σ (.val (.slice (some (σ.next, 0)) len (szOf P elem)) (σ.pushArr cells)) := fun ρ w a hR hS => by
  obtain ⟨cs', hrun, h4, hsz⟩ := run_buildSlice (w := w) h hu hb hz hzl hn hf hS
  have hcl := h4.length
  exact ValOK.newArr (cs := cs') (t := elem) (cap := len) (fz := (0, 0)) hR (fun i _ => by simp) hrun (by simp at hcl; omega) (by rw [List.take_of_length_le (by omega)]; exact h4) (Nat.le_refl _) (by omega)

end
end Go.HI
