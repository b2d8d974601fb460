/- SHA-256 as numbers, and what the program's 'mixed' computes. -/
import Derived.Test.YtoadhpnmbchgcaaGreatDoorB2
import Derived.Test.YtoadhpnmbchgcaaGreatDoorProg
import Derived.KernelRfl
namespace Go.HI
open Go.Proofs
noncomputable section

noncomputable def B0 (f : FuncId) : Bool := hasBody Tryz.prog f
abbrev noSums : Sums := fun _ => none
def V0 : OpEv := evalOpQ Tryz.prog

/-! ### Words -/
def xorW (a b : Int) : Int := bitsQ Nat.xor (IntKind.u32.wrap ((BitVec.ofInt IntKind.u32.bits a ^^^ BitVec.ofInt IntKind.u32.bits b).toNat)) .u32 a b
def andW (a b : Int) : Int := bitsQ Nat.land (IntKind.u32.wrap ((BitVec.ofInt IntKind.u32.bits a &&& BitVec.ofInt IntKind.u32.bits b).toNat)) .u32 a b
def orW (a b : Int) : Int := bitsQ Nat.lor (IntKind.u32.wrap ((BitVec.ofInt IntKind.u32.bits a ||| BitVec.ofInt IntKind.u32.bits b).toNat)) .u32 a b
def addW (a b : Int) : Int := wrapQ .u32 (addQ a b)
def notW (a : Int) : Int := IntKind.u32.wrap ((BitVec.ofInt IntKind.u32.bits IntKind.u32.max ^^^ BitVec.ofInt IntKind.u32.bits a).toNat)
/-- Turned to the left. -/
def rotW (x : Int) (s : Nat) : Int := orW (shlQ .u32 x s) (shrQ x (32 - s))
def mixW (x : Int) : List Nat → Int → Int
  | [], o => o
  | n :: l, o => mixW x l (xorW o (rotW x (32 - n)))

def mixStore (l : List Nat) : Store := { blks := T.set .e 0 (.cells (l.map fun n => .int .i64 (.ofNat n)) none), next := 1, fams := .e, globs := [] }
def mixRun (x : Int) (l : List Nat) (n : Nat) : OutS := runS V0 Tryz.prog B0 noSums 60 313 [.int .u32 x, .slice (some (0, 0)) n 1] (mixStore l)
def mixEnd (x : Int) (l : List Nat) : Option (HEnd × List (Option HBlk) × List (Option Fam) × List Nat × Bool) :=
  some (.returned (.int .u32 (mixW x l 0)), [some (.cells (l.map fun n => .int .i64 (.ofNat n)) none)], [none], [], true)


theorem mix_eqs1 (x : Int) : eqsOf (mixRun x [7, 18] 2) = dupL (eqsOf (mixRun x [7, 18] 2)) := by kernel_rfl
theorem mix_view1 (x : Int) : viewOf 1 (mixRun x [7, 18] 2) = mixEnd x [7, 18] := by kernel_rfl
theorem mix_eqs2 (x : Int) : eqsOf (mixRun x [17, 19] 2) = dupL (eqsOf (mixRun x [17, 19] 2)) := by kernel_rfl
theorem mix_view2 (x : Int) : viewOf 1 (mixRun x [17, 19] 2) = mixEnd x [17, 19] := by kernel_rfl
theorem mix_eqs3 (x : Int) : eqsOf (mixRun x [6, 11, 25] 3) = dupL (eqsOf (mixRun x [6, 11, 25] 3)) := by kernel_rfl
theorem mix_view3 (x : Int) : viewOf 1 (mixRun x [6, 11, 25] 3) = mixEnd x [6, 11, 25] := by kernel_rfl
theorem mix_eqs4 (x : Int) : eqsOf (mixRun x [2, 13, 22] 3) = dupL (eqsOf (mixRun x [2, 13, 22] 3)) := by kernel_rfl
theorem mix_view4 (x : Int) : viewOf 1 (mixRun x [2, 13, 22] 3) = mixEnd x [2, 13, 22] := by kernel_rfl

theorem V0_eq : V0 = evalOp Tryz.prog := evalOpQ_eq
theorem mixed0 : Tryz.prog.follows .mixedOrders = true := by kernel_rfl
theorem B0_ok : ∀ f, B0 f = true → hasBody Tryz.prog f = true := fun _ h => h
theorem noSums_ok : SumsOK Tryz.prog noSums := fun f g h => by cases h

def intsOf (l : List Nat) : List HV := l.map fun n => .int .i64 (.ofNat n)

def mixOK (l : List Nat) (n : Nat) : Prop := ∀ x : Int, HCall Tryz.prog 313 [.int .u32 x, .slice (some (0, 0)) n 1] (mixStore l)
  (fun e σ' => e = .returned (.int .u32 (mixW x l 0)) ∧ Ended 1 [some (.cells (intsOf l) none)] [] σ')

theorem mixOK_of {l : List Nat} {n : Nat} (h1 : ∀ x, eqsOf (mixRun x l n) = dupL (eqsOf (mixRun x l n))) (h2 : ∀ x, viewOf 1 (mixRun x l n) = mixEnd x l) (h3 : HV.refsL (below 1) (intsOf l) = true) : mixOK l n := by
  intro x
  refine contract_of_view V0_eq mixed0 B0_ok noSums_ok (h1 x) (h2 x) (Nat.le_refl _) rfl ?_ ?_ ?_
  · intro y hy
    simp only [List.mem_singleton, Option.some.injEq] at hy
    subst hy
    simp only [HBlk.flat, Bool.and_true]
    exact h3
  · intro y hy; simpa using hy
  · intro g hg; cases hg

theorem mix1 : mixOK [7, 18] 2 := mixOK_of mix_eqs1 mix_view1 rfl
theorem mix2 : mixOK [17, 19] 2 := mixOK_of mix_eqs2 mix_view2 rfl
theorem mix3 : mixOK [6, 11, 25] 3 := mixOK_of mix_eqs3 mix_view3 rfl
theorem mix4 : mixOK [2, 13, 22] 3 := mixOK_of mix_eqs4 mix_view4 rfl

/-- The lists of turns that there are. -/
def turnsOf (c : List HV) : Option (List Nat) :=
  match c with
  | [.int .i64 (.ofNat a), .int .i64 (.ofNat b)] => if Nat.beq a 7 && Nat.beq b 18 then some [7, 18] else if Nat.beq a 17 && Nat.beq b 19 then some [17, 19] else none
  | [.int .i64 (.ofNat a), .int .i64 (.ofNat b), .int .i64 (.ofNat d)] => if Nat.beq a 6 && Nat.beq b 11 && Nat.beq d 25 then some [6, 11, 25] else if Nat.beq a 2 && Nat.beq b 13 && Nat.beq d 22 then some [2, 13, 22] else none
  | _ => none

theorem turnsOf_ok {c : List HV} {l : List Nat} (h : turnsOf c = some l) : c = intsOf l ∧ mixOK l l.length := by
  unfold turnsOf at h
  split at h
  · split at h
    · rename_i h1
      simp only [Bool.and_eq_true, Nat.beq_eq] at h1
      obtain ⟨rfl, rfl⟩ := h1
      cases h
      exact ⟨rfl, mix1⟩
    · split at h
      · rename_i h1
        simp only [Bool.and_eq_true, Nat.beq_eq] at h1
        obtain ⟨rfl, rfl⟩ := h1
        cases h
        exact ⟨rfl, mix2⟩
      · cases h
  · split at h
    · rename_i h1
      simp only [Bool.and_eq_true, Nat.beq_eq] at h1
      obtain ⟨⟨rfl, rfl⟩, rfl⟩ := h1
      cases h
      exact ⟨rfl, mix3⟩
    · split at h
      · rename_i h1
        simp only [Bool.and_eq_true, Nat.beq_eq] at h1
        obtain ⟨⟨rfl, rfl⟩, rfl⟩ := h1
        cases h
        exact ⟨rfl, mix4⟩
      · cases h
  · cases h

def sumMix (args : List HV) (σ : Store) : CallOut :=
  match args with
  | [.int .u32 x, .slice (some (b, 0)) m 1] => match newArr? σ b with
    | some c => match turnsOf c with
      | some l => if Nat.beq m l.length then some (.returned (.int .u32 (mixW x l 0)), σ) else none
      | none => none
    | none => none
  | _ => none

theorem sumMix_ok {args : List HV} {σ : Store} {e : HEnd} {σ' : Store} (h : sumMix args σ = some (e, σ')) : HCall Tryz.prog 313 args σ (fun e' σ'' => e' = e ∧ σ'' = σ') := by
  unfold sumMix at h
  split at h
  · rename_i x b m
    split at h
    · rename_i c hc
      split at h
      · rename_i l hl
        split at h
        · rename_i hm
          have hm := Nat.eq_of_beq_eq_true hm
          subst hm
          cases h
          obtain ⟨rfl, hok⟩ := turnsOf_ok hl
          refine HCall.withWF fun hwf => ?_
          obtain ⟨hp, hcell⟩ := newArr_pairs hwf hc
          have hsm : small σ [(0, b)] 1 [] = mixStore l := by
            simp only [small, smallT, hcell]
            rfl
          have := HCall.ofSmallPure (f := 313) (args := [.int .u32 x, .slice (some (0, 0)) l.length 1]) (e := .returned (.int .u32 (mixW x l 0))) hp ?_ (HCall.mono (hsm ▸ hok x) ?_)
          · simpa [HV.renL, HV.ren, HEnd.ren, iotaOf] using this
          · have : present (small σ [(0, b)] 1 []) 0 = true := present_small_of hp (List.mem_singleton.2 rfl)
            simp [HV.refsL, HV.refs, this]
          · rintro e' σ'' ⟨rfl, h1⟩
            refine ⟨rfl, h1.next, h1.fams, h1.globs, fun a => ?_⟩
            rw [h1.blks a, hsm]
            simp only [mixStore, T.get_set]
            cases a with
            | zero => rfl
            | succ a => simp
        · cases h
      · cases h
    · cases h
  · cases h

end
end Go.HI

/- The words of a block: what the program's 'schedule' computes. -/
namespace Go.HI
open Go.Proofs
noncomputable section

def sumsB : Sums := fun f => if Nat.beq f 313 then some sumMix else none

theorem sumsB_ok : SumsOK Tryz.prog sumsB := by
  intro f g hg args σ e σ' h R hR
  unfold sumsB at hg
  split at hg
  · rename_i hf
    have hf := Nat.eq_of_beq_eq_true hf
    subst hf
    cases hg
    exact (sumMix_ok h).mono fun e' σ'' ⟨h1, h2⟩ => by rw [h1, h2]; exact hR
  · cases hg

/-- The first words: of four bytes each. -/
def byteW (b : Nat → Int) (j : Nat) : Int :=
  orW (orW (orW (shlQ .u32 (wrapQ .u32 (b j)) 24) (shlQ .u32 (wrapQ .u32 (b (j + 1))) 16)) (shlQ .u32 (wrapQ .u32 (b (j + 2))) 8)) (wrapQ .u32 (b (j + 3)))

/-- The next word, before the ones that there are (the last one first). -/
def nextW (l : List Int) : List Int :=
  match l with
  | a1 :: a2 :: a3 :: a4 :: a5 :: a6 :: a7 :: a8 :: a9 :: a10 :: a11 :: a12 :: a13 :: a14 :: a15 :: a16 :: r =>
    addW (addW (addW a16 (xorW (mixW a15 [7, 18] 0) (shrQ a15 3))) a7) (xorW (mixW a2 [17, 19] 0) (shrQ a2 10)) :: a1 :: a2 :: a3 :: a4 :: a5 :: a6 :: a7 :: a8 :: a9 :: a10 :: a11 :: a12 :: a13 :: a14 :: a15 :: a16 :: r
  | l => l

def moreW : Nat → List Int → List Int
  | 0, l => l
  | n + 1, l => moreW n (nextW l)

def firstW (b : Nat → Int) (o : Nat) : List Int := [60, 56, 52, 48, 44, 40, 36, 32, 28, 24, 20, 16, 12, 8, 4, 0].map fun i => byteW b (o + i)

/-- All words, the last one first. -/
def wordsOf (b : Nat → Int) (o : Nat) : List Int := moreW 48 (firstW b o)

def bytesL (b : Nat → Int) (n : Nat) : List HV := (List.range n).map fun i => .int .u8 (b i)

def schedStore (b : Nat → Int) (n : Nat) : Store := { blks := T.set .e 0 (.cells (bytesL b n) none), next := 1, fams := .e, globs := [] }
def schedRun (b : Nat → Int) (n o : Nat) : OutS := runS V0 Tryz.prog B0 sumsB 600 312 [.slice (some (0, o)) 64 1] (schedStore b n)
def schedEnd (b : Nat → Int) (n o : Nat) : Option (HEnd × List (Option HBlk) × List (Option Fam) × List Nat × Bool) :=
  some (.returned (.agg ((wordsOf b o).reverse.map fun x => .int .u32 x)), [some (.cells (bytesL b n) none)], [none], [], true)

theorem sched1 (b : Nat → Int) : (eqsOf (schedRun b 64 0), viewOf 1 (schedRun b 64 0)) = (dupL (eqsOf (schedRun b 64 0)), schedEnd b 64 0) := by kernel_rfl
theorem sched2 (b : Nat → Int) : (eqsOf (schedRun b 128 0), viewOf 1 (schedRun b 128 0)) = (dupL (eqsOf (schedRun b 128 0)), schedEnd b 128 0) := by kernel_rfl
theorem sched3 (b : Nat → Int) : (eqsOf (schedRun b 128 64), viewOf 1 (schedRun b 128 64)) = (dupL (eqsOf (schedRun b 128 64)), schedEnd b 128 64) := by kernel_rfl

/-! ### The rounds -/
def roundKs : List Int := [0x428a2f98, 0x71374491, 0xb5c0fbcf, 0xe9b5dba5, 0x3956c25b, 0x59f111f1, 0x923f82a4, 0xab1c5ed5,
  0xd807aa98, 0x12835b01, 0x243185be, 0x550c7dc3, 0x72be5d74, 0x80deb1fe, 0x9bdc06a7, 0xc19bf174,
  0xe49b69c1, 0xefbe4786, 0x0fc19dc6, 0x240ca1cc, 0x2de92c6f, 0x4a7484aa, 0x5cb0a9dc, 0x76f988da,
  0x983e5152, 0xa831c66d, 0xb00327c8, 0xbf597fc7, 0xc6e00bf3, 0xd5a79147, 0x06ca6351, 0x14292967,
  0x27b70a85, 0x2e1b2138, 0x4d2c6dfc, 0x53380d13, 0x650a7354, 0x766a0abb, 0x81c2c92e, 0x92722c85,
  0xa2bfe8a1, 0xa81a664b, 0xc24b8b70, 0xc76c51a3, 0xd192e819, 0xd6990624, 0xf40e3585, 0x106aa070,
  0x19a4c116, 0x1e376c08, 0x2748774c, 0x34b0bcb5, 0x391c0cb3, 0x4ed8aa4a, 0x5b9cca4f, 0x682e6ff3,
  0x748f82ee, 0x78a5636f, 0x84c87814, 0x8cc70208, 0x90befffa, 0xa4506ceb, 0xbef9a3f7, 0xc67178f2]

def roundW (k w : Int) (v : List Int) : List Int :=
  match v with
  | [a, b, c, d, e, f, g, h] =>
    [addW (addW (addW (addW (addW h (mixW e [6, 11, 25] 0)) (xorW (andW e f) (andW (notW e) g))) k) w) (addW (mixW a [2, 13, 22] 0) (xorW (xorW (andW a b) (andW a c)) (andW b c))), a, b, c,
     addW d (addW (addW (addW (addW h (mixW e [6, 11, 25] 0)) (xorW (andW e f) (andW (notW e) g))) k) w), e, f, g]
  | v => v

def roundsW : List Int → List Int → List Int → List Int
  | k :: ks, w :: ws, v => roundsW ks ws (roundW k w v)
  | _, _, v => v

def sumsW : List Int → List Int → List Int
  | x :: xs, y :: ys => addW x y :: sumsW xs ys
  | _, _ => []

/-- A block is added. -/
def addBlock (h ws : List Int) : List Int := sumsW h (roundsW roundKs ws h)

def wordsL (h : List Int) : List HV := h.map fun x => .int .u32 x

/-! 'schedule' as a summary, of an array without a family -/
def intAt (c : List HV) (i : Nat) : Int :=
  match c[i]? with
  | some (.int _ n) => n
  | _ => 0

def byteB : HV → Bool
  | .int .u8 _ => true
  | _ => false

def wordB : HV → Bool
  | .int .u32 _ => true
  | _ => false

theorem bytes_eq {c : List HV} (h : c.all byteB = true) : c = bytesL (intAt c) c.length := by
  apply List.ext_getElem?
  intro i
  simp only [bytesL, List.getElem?_map, List.getElem?_range']
  rcases Nat.lt_or_ge i c.length with hi | hi
  · rw [List.getElem?_eq_getElem hi, List.getElem?_range hi]
    simp only [Option.map_some, Option.some.injEq, intAt, List.getElem?_eq_getElem hi]
    have := List.all_eq_true.1 h c[i] (List.getElem_mem hi)
    revert this
    generalize c[i] = x
    intro hx
    unfold byteB at hx
    split at hx
    · rfl
    · cases hx
  · rw [List.getElem?_eq_none hi, List.getElem?_eq_none (by simpa using hi)]
    rfl

theorem byteB_noRef {c : List HV} (h : c.all byteB = true) : c.all noRef = true := by
  rw [List.all_eq_true] at h ⊢
  intro x hx
  have := h x hx
  unfold byteB at this
  split at this
  · rfl
  · cases this

def schedOK (n o : Nat) : Prop := ∀ b : Nat → Int, HCall Tryz.prog 312 [.slice (some (0, o)) 64 1] (schedStore b n)
  (fun e σ' => e = .returned (.agg ((wordsOf b o).reverse.map fun x => .int .u32 x)) ∧ Ended 1 [some (.cells (bytesL b n) none)] [] σ')

theorem bytesL_noRef (b : Nat → Int) (n : Nat) : (bytesL b n).all noRef = true := by simp [bytesL, noRef]
theorem wordsL_noRef (l : List Int) : (wordsL l).all noRef = true := by simp [wordsL, noRef]

theorem schedOK_of {n o : Nat} (h : ∀ b, (eqsOf (schedRun b n o), viewOf 1 (schedRun b n o)) = (dupL (eqsOf (schedRun b n o)), schedEnd b n o)) : schedOK n o := by
  intro b
  obtain ⟨h1, h2⟩ := Prod.mk.inj (h b)
  unfold schedRun at h1 h2
  unfold schedEnd at h2
  refine contract_of_view V0_eq mixed0 B0_ok sumsB_ok h1 h2 (Nat.le_refl _) ?_ ?_ ?_ ?_
  · generalize (wordsOf b o).reverse = l
    exact noRef_refsL (wordsL_noRef l)
  · intro y hy
    simp only [List.mem_singleton, Option.some.injEq] at hy
    subst hy
    simp [HBlk.flat, noRef_refsL (bytesL_noRef b n)]
  · intro y hy; simpa using hy
  · intro g hg; cases hg

/-- Where a block can lie. -/
def placeB (n o : Nat) : Bool := (Nat.beq n 64 && Nat.beq o 0) || (Nat.beq n 128 && Nat.beq o 0) || (Nat.beq n 128 && Nat.beq o 64)

theorem place_ok {n o : Nat} (h : placeB n o = true) : schedOK n o := by
  simp only [placeB, Bool.or_eq_true, Bool.and_eq_true, Nat.beq_eq] at h
  rcases h with (⟨rfl, rfl⟩ | ⟨rfl, rfl⟩) | ⟨rfl, rfl⟩
  · exact schedOK_of sched1
  · exact schedOK_of sched2
  · exact schedOK_of sched3

def sumSched (args : List HV) (σ : Store) : CallOut :=
  match args with
  | [.slice (some (b, o)) 64 1] => match σ.blks.get b with
    | some (.cells c none) => if c.all byteB && placeB c.length o then some (.returned (.agg (wordsL (wordsOf (intAt c) o).reverse)), σ) else none
    | _ => none
  | _ => none

theorem sumSched_ok {args : List HV} {σ : Store} {e : HEnd} {σ' : Store} (h : sumSched args σ = some (e, σ')) : HCall Tryz.prog 312 args σ (fun e' σ'' => e' = e ∧ σ'' = σ') := by
  unfold sumSched at h
  split at h
  · rename_i b o
    split at h
    · rename_i c hb
      split at h
      · rename_i hc
        cases h
        simp only [Bool.and_eq_true] at hc
        refine HCall.withWF fun hwf => ?_
        have hp : PairsOK σ [(0, b)] 1 [] := by
          refine ⟨?_, ?_, ?_, ?_, ?_⟩
          · intro p hp
            simp only [List.mem_singleton] at hp
            subst hp
            exact ⟨Nat.one_pos, hwf.lt hb⟩
          · intro p hp q hq _
            simp only [List.mem_singleton] at hp hq
            rw [hp, hq]
          · intro p hp
            simp only [List.mem_singleton] at hp
            subst hp
            exact ⟨c, none, hb, byteB_noRef hc.1, rfl⟩
          · intro p hp c' f' q v' hb'
            simp only [List.mem_singleton] at hp
            subst hp
            simp only at hb'
            rw [hb] at hb'
            cases hb'
          · intro g hg; cases hg
        have hsm : small σ [(0, b)] 1 [] = schedStore (intAt c) c.length := by
          simp only [small, smallT, hb, cellsOf?, schedStore, ← bytes_eq hc.1]
        have := HCall.ofSmallPure (f := 312) (args := [.slice (some (0, o)) 64 1]) (e := .returned (.agg (wordsL (wordsOf (intAt c) o).reverse))) hp ?_ (HCall.mono (hsm ▸ place_ok hc.2 (intAt c)) ?_)
        · refine this.mono ?_
          rintro e' σ'' ⟨rfl, rfl⟩
          refine ⟨?_, rfl⟩
          simp only [HEnd.ren, HV.ren, noRef_renL (wordsL_noRef _)]
        · have : present (small σ [(0, b)] 1 []) 0 = true := present_small_of hp (List.mem_singleton.2 rfl)
          simp [HV.refsL, HV.refs, this]
        · rintro e' σ'' ⟨rfl, h1⟩
          refine ⟨rfl, h1.next, h1.fams, h1.globs, fun a => ?_⟩
          rw [h1.blks a, hsm]
          simp only [schedStore, T.get_set]
          cases a with
          | zero => rfl
          | succ a => simp
      · cases h
    · cases h
  · cases h

def sumsC : Sums := fun f => if Nat.beq f 313 then some sumMix else if Nat.beq f 312 then some sumSched else none

theorem sumsC_ok : SumsOK Tryz.prog sumsC := by
  intro f g hg args σ e σ' h R hR
  unfold sumsC at hg
  split at hg
  · rename_i hf
    have hf := Nat.eq_of_beq_eq_true hf
    subst hf
    cases hg
    exact (sumMix_ok h).mono fun e' σ'' ⟨h1, h2⟩ => by rw [h1, h2]; exact hR
  · split at hg
    · rename_i hf
      have hf := Nat.eq_of_beq_eq_true hf
      subst hf
      cases hg
      exact (sumSched_ok h).mono fun e' σ'' ⟨h1, h2⟩ => by rw [h1, h2]; exact hR
    · cases hg

end
end Go.HI
