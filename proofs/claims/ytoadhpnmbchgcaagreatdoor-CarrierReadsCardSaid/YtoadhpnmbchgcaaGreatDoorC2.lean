/- A block is added: what the program's 'add' computes. -/
import Derived.Test.YtoadhpnmbchgcaaGreatDoorC1
import Derived.Test.YtoadhpnmbchgcaaGreatDoorB7
namespace Go.HI
open Go.Proofs
noncomputable section

def ksBlk : HBlk := .cells (wordsL roundKs) none
def stateL (h : Nat → Int) : List Int := (List.range 8).map h
def addStore (b h : Nat → Int) (n : Nat) : Store :=
  { blks := T.set (T.set (T.set .e 3 ksBlk) 1 (.cells (bytesL b n) none)) 0 (.cells (wordsL (stateL h)) none), next := 4, fams := .e, globs := [3] }
def addRun (b h : Nat → Int) (n o : Nat) : OutS := runS V0 Tryz.prog B0 sumsC 600 291 [.ptr (some (0, 0)), .slice (some (1, o)) 64 1] (addStore b h n)
def addBl (b h : Nat → Int) (n o : Nat) : List (Option HBlk) := [some (.cells (wordsL (addBlock (stateL h) (wordsOf (intAt (bytesL b n)) o).reverse)) none), some (.cells (bytesL b n) none), none, some ksBlk]
def addEnd (b h : Nat → Int) (n o : Nat) : Option (HEnd × List (Option HBlk) × List (Option Fam) × List Nat × Bool) := some (.returned (.tuple []), addBl b h n o, [none, none, none, none], [3], true)
theorem add1 (b h : Nat → Int) : (eqsOf (addRun b h 64 0), viewOf 4 (addRun b h 64 0)) = (dupL (eqsOf (addRun b h 64 0)), addEnd b h 64 0) := by kernel_rfl
theorem add2 (b h : Nat → Int) : (eqsOf (addRun b h 128 0), viewOf 4 (addRun b h 128 0)) = (dupL (eqsOf (addRun b h 128 0)), addEnd b h 128 0) := by kernel_rfl
theorem add3 (b h : Nat → Int) : (eqsOf (addRun b h 128 64), viewOf 4 (addRun b h 128 64)) = (dupL (eqsOf (addRun b h 128 64)), addEnd b h 128 64) := by kernel_rfl

def addOK (n o : Nat) : Prop := ∀ b h : Nat → Int, HCall Tryz.prog 291 [.ptr (some (0, 0)), .slice (some (1, o)) 64 1] (addStore b h n) (fun e σ' => e = .returned (.tuple []) ∧ Ended 4 (addBl b h n o) [3] σ')

theorem ks_noRef : (wordsL roundKs).all noRef = true := wordsL_noRef _

theorem addOK_of {n o : Nat} (hh : ∀ b h, (eqsOf (addRun b h n o), viewOf 4 (addRun b h n o)) = (dupL (eqsOf (addRun b h n o)), addEnd b h n o)) : addOK n o := by
  intro b h
  obtain ⟨h1, h2⟩ := Prod.mk.inj (hh b h)
  unfold addRun at h1 h2
  unfold addEnd at h2
  refine contract_of_view V0_eq mixed0 B0_ok sumsC_ok h1 h2 (Nat.le_refl _) rfl ?_ ?_ ?_
  · intro y hy
    unfold addBl at hy
    simp only [List.mem_cons, Option.some.injEq, List.not_mem_nil, or_false, reduceCtorEq, false_or] at hy
    rcases hy with rfl | rfl | rfl
    · simp only [HBlk.flat, Bool.and_true]
      exact noRef_refsL (wordsL_noRef _)
    · simp only [HBlk.flat, Bool.and_true]
      exact noRef_refsL (bytesL_noRef b n)
    · simp only [ksBlk, HBlk.flat, Bool.and_true]
      exact noRef_refsL ks_noRef
  · intro y hy
    simpa using hy
  · intro g hg
    simp only [List.mem_singleton] at hg
    subst hg
    decide

theorem placeAdd_ok {n o : Nat} (h : placeB n o = true) : addOK n o := by
  simp only [placeB, Bool.or_eq_true, Bool.and_eq_true, Nat.beq_eq] at h
  rcases h with (⟨rfl, rfl⟩ | ⟨rfl, rfl⟩) | ⟨rfl, rfl⟩
  · exact addOK_of add1
  · exact addOK_of add2
  · exact addOK_of add3

end
end Go.HI

/- A block is added: as a summary. -/
namespace Go.HI
open Go.Proofs
noncomputable section

theorem roundW_length {k w : Int} {v : List Int} (h : v.length = 8) : (roundW k w v).length = 8 := by
  unfold roundW
  split
  · rfl
  · exact h
theorem roundsW_length : ∀ (ks ws v : List Int), v.length = 8 → (roundsW ks ws v).length = 8
  | [], _, v, h => by cases ‹List Int› <;> exact h
  | k :: ks, [], v, h => h
  | k :: ks, w :: ws, v, h => by rw [roundsW]; exact roundsW_length ks ws _ (roundW_length h)
theorem sumsW_length : ∀ (xs ys : List Int), xs.length = ys.length → (sumsW xs ys).length = xs.length
  | [], _, _ => by cases ‹List Int› <;> rfl
  | x :: xs, [], h => by cases h
  | x :: xs, y :: ys, h => by simp only [sumsW, List.length_cons]; rw [sumsW_length xs ys (by simpa using h)]
theorem addBlock_length {h ws : List Int} (hl : h.length = 8) : (addBlock h ws).length = 8 := by
  unfold addBlock
  rw [sumsW_length _ _ (by rw [roundsW_length _ _ _ hl, hl]), hl]

theorem words_eq {c : List HV} (h : c.all wordB = true) (hl : c.length = 8) : c = wordsL (stateL (intAt c)) := by
  apply List.ext_getElem?
  intro i
  simp only [wordsL, stateL, List.getElem?_map]
  rcases Nat.lt_or_ge i 8 with hi | hi
  · rw [List.getElem?_eq_getElem (by omega), List.getElem?_range hi]
    simp only [Option.map_some, Option.some.injEq, intAt, List.getElem?_eq_getElem (show i < c.length by omega)]
    have := List.all_eq_true.1 h c[i] (List.getElem_mem (by omega))
    revert this
    generalize c[i] = x
    intro hx
    unfold wordB at hx
    split at hx
    · rfl
    · cases hx
  · rw [List.getElem?_eq_none (by omega), List.getElem?_eq_none (by simpa using hi)]
    rfl

theorem wordB_noRef {c : List HV} (h : c.all wordB = true) : c.all noRef = true := by
  rw [List.all_eq_true] at h ⊢
  intro x hx
  have := h x hx
  unfold wordB at this
  split at this
  · rfl
  · cases this

def sumAddBl (hc ac : List HV) (o : Nat) : List (Option HBlk) := [some (.cells (wordsL (addBlock (stateL (intAt hc)) (wordsOf (intAt ac) o).reverse)) none), some (.cells ac none), none, some ksBlk]

def addCond (σ : Store) (h a o : Nat) (hc ac kc : List HV) (ka : Option (Nat × Nat × Nat)) : Bool :=
  !(Nat.beq h a) && !(Nat.beq h 3) && !(Nat.beq a 3) && hc.all wordB && Nat.beq hc.length 8 && ac.all byteB && placeB ac.length o && σ.validK ka && HV.beqs kc (wordsL roundKs) && σ.globs.contains 3

def sumAdd (args : List HV) (σ : Store) : CallOut :=
  match args with
  | [.ptr (some (h, 0)), .slice (some (a, o)) 64 1] => match σ.blks.get h with
    | some (.cells hc none) => match σ.blks.get a with
      | some (.cells ac ka) => match σ.blks.get 3 with
        | some (.cells kc none) => if addCond σ h a o hc ac kc ka then
            some (.returned (.tuple []), (σ.drop (aloneB σ [a])).merge (endStore 4 (sumAddBl hc ac o)) (ext (iotaOf [(0, h), (1, a), (3, 3)]) 4 σ.next) 4) else none
        | _ => none
      | _ => none
    | _ => none
  | _ => none

theorem drop_keep {σ : Store} {p : Nat → HBlk → Bool} {b : Nat} {x : HBlk} (h : σ.blks.get b = some x) (hp : p b x = true) : (σ.drop p).blks.get b = some x := by
  simp only [Store.drop, T.get_filtX, h, Option.filter, hp, if_true]

theorem sumAdd_ok {args : List HV} {σ : Store} {e : HEnd} {σ' : Store} (h : sumAdd args σ = some (e, σ')) : HCall Tryz.prog 291 args σ (fun e' σ'' => e' = e ∧ σ'' = σ') := by
  unfold sumAdd at h
  split at h
  · rename_i b a o
    split at h
    · rename_i hc hb
      split at h
      · rename_i ac ka ha
        split at h
        · rename_i kc hk
          split at h
          · rename_i hcond
            cases h
            simp only [addCond, Bool.and_eq_true, Bool.not_eq_true'] at hcond
            obtain ⟨⟨⟨⟨⟨⟨⟨⟨⟨n1, n2⟩, n3⟩, hw⟩, hl⟩, hby⟩, hpl⟩, hv⟩, hks⟩, hg3⟩ := hcond
            have n1 : b ≠ a := fun e => by rw [e, Nat.beq_refl] at n1; cases n1
            have n2 : b ≠ 3 := fun e => by rw [e, Nat.beq_refl] at n2; cases n2
            have n3 : a ≠ 3 := fun e => by rw [e, Nat.beq_refl] at n3; cases n3
            have hl : hc.length = 8 := Nat.eq_of_beq_eq_true hl
            have hks := HV.beqs_eq _ _ hks
            subst hks
            refine HCall.drop (aloneB σ [a]) (HCall.withWF fun hwf => ?_)
            have g1 : (σ.drop (aloneB σ [a])).blks.get b = some (.cells hc none) := drop_keep hb rfl
            have g3 : (σ.drop (aloneB σ [a])).blks.get 3 = some (.cells (wordsL roundKs) none) := drop_keep hk rfl
            have g2 : (σ.drop (aloneB σ [a])).blks.get a = some (.cells ac ka) := by
              refine drop_keep ha ?_
              cases ka with
              | none => rfl
              | some ka =>
                obtain ⟨f, p, v⟩ := ka
                simp [aloneB, famOf, ha]
            obtain ⟨σ1, hσ1⟩ : ∃ x, x = σ.drop (aloneB σ [a]) := ⟨_, rfl⟩
            have hnext : σ1.next = σ.next := by rw [hσ1]; rfl
            have hglobs : σ1.globs = σ.globs := by rw [hσ1]; rfl
            have hvalid : σ1.validK ka = true := by rw [hσ1]; exact hv
            have halone : ∀ c f q v, σ1.blks.get a = some (.cells c (some (f, q, v))) → ∀ B c' q' v', σ1.blks.get B = some (.cells c' (some (f, q', v'))) → B = a := by
              intro c f q v h1 B c' q' v' h2
              rw [hσ1] at h1 h2
              obtain ⟨h3, h4⟩ := Store.drop_get h2
              have h5 := (Store.drop_get h1).1
              simp only [aloneB, famOf, h5, List.all_cons, List.all_nil, Bool.and_true, Nat.beq_refl, Bool.not_true, Bool.false_or] at h4
              exact (Nat.eq_of_beq_eq_true h4).symm
            rw [← hσ1] at g1 g2 g3 hwf ⊢
            rw [← hnext]
            clear hσ1
            have hp : PairsOK σ1 [(0, b), (1, a), (3, 3)] 4 [3] := by
              refine ⟨?_, ?_, ?_, ?_, ?_⟩
              · intro p hp
                simp only [List.mem_cons, List.not_mem_nil, or_false] at hp
                rcases hp with rfl | rfl | rfl
                · exact ⟨by simp, hwf.lt g1⟩
                · exact ⟨by simp, hwf.lt g2⟩
                · exact ⟨by simp, hwf.lt g3⟩
              · intro p hp q hq he
                simp only [List.mem_cons, List.not_mem_nil, or_false] at hp hq
                rcases hp with rfl | rfl | rfl <;> rcases hq with rfl | rfl | rfl <;> simp_all
                all_goals omega
              · intro p hp
                simp only [List.mem_cons, List.not_mem_nil, or_false] at hp
                rcases hp with rfl | rfl | rfl
                · exact ⟨_, _, g1, wordB_noRef hw, rfl⟩
                · exact ⟨_, _, g2, byteB_noRef hby, hvalid⟩
                · exact ⟨_, _, g3, ks_noRef, rfl⟩
              · intro p hp c f q v hg
                simp only [List.mem_cons, List.not_mem_nil, or_false] at hp
                rcases hp with rfl | rfl | rfl
                · simp only at hg; rw [g1] at hg; cases hg
                · exact halone c f q v hg
                · simp only at hg; rw [g3] at hg; cases hg
              · intro g hg
                have : g = 3 := by simpa using hg
                subst this
                exact ⟨by simp, by rw [hglobs]; exact hg3⟩
            have hsm : small σ1 [(0, b), (1, a), (3, 3)] 4 [3] = addStore (intAt ac) (intAt hc) ac.length := by
              simp only [small, smallT, g1, g2, g3, cellsOf?, addStore, ← bytes_eq hby, ← words_eq hw hl, ksBlk]
            have hbl : addBl (intAt ac) (intAt hc) ac.length o = sumAddBl hc ac o := by
              simp only [addBl, sumAddBl, ← bytes_eq hby]
            have hargs : HV.renL (iotaOf [(0, b), (1, a), (3, 3)]) [.ptr (some (0, 0)), .slice (some (1, o)) 64 1] = [.ptr (some (b, 0)), .slice (some (a, o)) 64 1] := rfl
            rw [← hargs]
            refine HCall.ofSmall (n := 4) (gl := [3]) (R := fun e σ' => e = .returned (.tuple []) ∧ Ended 4 (addBl (intAt ac) (intAt hc) ac.length o) [3] σ') hp ?_ (hsm ▸ placeAdd_ok hpl (intAt ac) (intAt hc)) ?_
            · have p0 : present (small σ1 [(0, b), (1, a), (3, 3)] 4 [3]) 0 = true := present_small_of (b := b) hp (by simp)
              have p1 : present (small σ1 [(0, b), (1, a), (3, 3)] 4 [3]) 1 = true := present_small_of (b := a) hp (by simp)
              simp [HV.refsL, HV.refs, p0, p1]
            · rintro e' σ'' ⟨rfl, h1⟩
              rw [hbl] at h1
              refine ⟨⟨h1.next, h1.fams, h1.globs, ?_, ?_⟩, rfl, h1.merge⟩
              · intro x c hx
                rw [h1.blks x]
                rw [hsm] at hx
                simp only [addStore, T.get_set] at hx
                split at hx
                · rename_i e; subst e
                  cases hx
                  exact ⟨_, rfl, by simp [wordsL, addBlock_length, stateL]⟩
                · split at hx
                  · rename_i e; subst e
                    cases hx
                    exact ⟨_, rfl, by rw [← bytes_eq hby]⟩
                  · split at hx
                    · rename_i e; subst e
                      simp only [ksBlk, Option.some.injEq, HBlk.cells.injEq, and_true] at hx
                      subst hx
                      exact ⟨_, rfl, rfl⟩
                    · cases hx
              · intro x hx
                rw [h1.blks x]
                rw [hsm] at hx
                simp only [addStore, T.get_set] at hx
                split at hx
                · cases hx
                · rename_i e0
                  split at hx
                  · cases hx
                  · rename_i e1
                    split at hx
                    · cases hx
                    · rename_i e3
                      unfold sumAddBl
                      match x, e0, e1, e3 with
                      | 0, e0, _, _ => exact absurd rfl e0
                      | 1, _, e1, _ => exact absurd rfl e1
                      | 2, _, _, _ => rfl
                      | 3, _, _, e3 => exact absurd rfl e3
                      | n + 4, _, _, _ => rfl
          · cases h
        · cases h
      · cases h
    · cases h
  · cases h

end
end Go.HI

/- The table of effects of events: a map, whatever order it is filled in. -/
namespace Go.HI
open Go.Proofs
noncomputable section

noncomputable def opsE : Array Oper := match Tryz.prog.funcs[296]? with
  | some fn => match fn.body with
    | some (.seq _ (.seq (.region _ ops _) _)) => ops
    | _ => #[]
  | none => #[]

def causeA : List Int := [1, 2, 3, 4, 5, 5, 5, 6]
def causeB : List Int := [1, 1, 2, 2, 1, 2, 3, 4]
def causeV : List Int := [3, 2, 3, 6, 7, 7, 7, 8]
def keyE (k : Nat) : HV := .agg [.int .i64 (causeA.getD k 0), .int .i64 (causeB.getD k 0)]
def valE (k : Nat) : HV := .int .i64 (causeV.getD k 0)

def buildE (k : Nat) : Op := .build 429 #[(0, .const (.int .i64 (causeA.getD k 0))), (1, .const (.int .i64 (causeB.getD k 0)))]
def insertE (k : Nat) : Op := .insert 400 (.tmp 1) (.tmp (k + 2)) (.const (.int .i64 (causeV.getD k 0)))

/-- What the operations are. -/
def kindE (i : Nat) : Option (Option Tmp × Op) :=
  if i = 0 then some (some 1, .makeMap 400 none) else if i = 17 then some (some 10, .move (.tmp 1)) else if i = 18 then some (some 0, .assign (.tmp 10))
  else if i < 17 then (if i % 2 = 1 then some (some (i / 2 + 2), buildE (i / 2)) else some (none, insertE (i / 2 - 1))) else none

noncomputable def viewE (i : Nat) : Option (Option Tmp × Op) := (opsE[i]?).map fun o => (o.dst, o.op)
theorem kinds_all : (List.range 20).map viewE = (List.range 20).map kindE := by kernel_rfl
theorem guards_all : opsE.all (fun o => o.guard.isNone) = true := by kernel_rfl
theorem size_E : opsE.size = 19 := by kernel_rfl
theorem region_E : regionOK opsE (masksOf opsE) = true := by kernel_rfl
noncomputable def depB (i j : Nat) : Bool := match opsE[i]? with
  | some o => o.after.toList.any fun e => Region.binds .any e && Nat.beq e.on j
  | none => false
theorem deps_ins : (List.range 8).all (fun k => depB (2 * k + 2) 0 && depB (2 * k + 2) (2 * k + 1)) = true := by kernel_rfl
theorem deps_17 : depB 17 0 = true := by kernel_rfl
theorem deps_18 : depB 18 17 = true := by kernel_rfl
theorem keys_all : (List.range 8).all (fun j => (List.range 8).all fun k => Nat.beq j k || (keyEq Tryz.prog 429 (keyE k) (keyE j) == some false)) = true := by kernel_rfl
theorem keyOK_all : (List.range 8).all (fun k => keyOK Tryz.prog 429 (keyE k)) = true := by kernel_rfl

theorem kind_at {i : Nat} {o : Oper} (h : opsE[i]? = some o) : i < 19 ∧ kindE i = some (o.dst, o.op) ∧ o.guard = none := by
  have hi : i < 19 := by rw [← size_E]; exact (Array.getElem?_eq_some_iff.1 h).1
  refine ⟨hi, ?_, ?_⟩
  · have := congrArg (fun l => l[i]?) kinds_all
    simp only [List.getElem?_map, List.getElem?_range (show i < 20 by omega), Option.map_some] at this
    have h2 : viewE i = some (o.dst, o.op) := by simp only [viewE, h, Option.map_some]
    rw [h2] at this
    exact (Option.some.inj this).symm
  · have hg := guards_all
    rw [Array.all_eq_true] at hg
    obtain ⟨hlt, he⟩ := Array.getElem?_eq_some_iff.1 h
    have := hg i hlt
    rw [he] at this
    cases hq : o.guard with
    | none => rfl
    | some _ => rw [hq] at this; cases this

theorem dep_listed {i j : Nat} {o : Oper} {L : Array Bool} (ho : opsE[i]? = some o) (hd : depB i j = true) (hr : ∀ e ∈ o.after, Region.binds .any e = true → L.getD e.on false = true) : L.getD j false = true := by
  unfold depB at hd
  rw [ho] at hd
  simp only [List.any_eq_true, Bool.and_eq_true, Nat.beq_eq] at hd
  obtain ⟨e, he, hb, rfl⟩ := hd
  exact hr e (by simpa using he) hb

/-- The entries that are in. -/
def canonE (L : Nat → Bool) : List (HV × HV) := (List.range 8).filterMap fun j => if L (2 * j + 2) then some (keyE j, valE j) else none

theorem fm_congr {α β : Type} {f g : α → Option β} : ∀ {l : List α}, (∀ j ∈ l, g j = f j) → l.filterMap g = l.filterMap f
  | [], _ => rfl
  | a :: l, h => by
    simp only [List.filterMap_cons, h a (List.mem_cons_self ..), fm_congr fun j hj => h j (List.mem_cons_of_mem _ hj)]

theorem perm_add {α β : Type} [DecidableEq α] (f g : α → Option β) (k : α) (x : β) (hg : g k = some x) (hf : f k = none) (he : ∀ j, j ≠ k → g j = f j) : ∀ l : List α, l.Nodup → k ∈ l → (l.filterMap g).Perm (l.filterMap f ++ [x])
  | [], _, h => by cases h
  | a :: l, hn, hm => by
    have hn' := List.nodup_cons.1 hn
    by_cases e : a = k
    · subst e
      have hl : l.filterMap g = l.filterMap f := by
        exact fm_congr fun j hj => he j fun e => hn'.1 (e ▸ hj)
      simp only [List.filterMap_cons, hg, hf, hl]
      exact (List.perm_append_singleton x _).symm
    · have hk : k ∈ l := by
        rcases List.mem_cons.1 hm with h | h
        · exact absurd h.symm e
        · exact h
      have ih := perm_add f g k x hg hf he l hn'.2 hk
      simp only [List.filterMap_cons, he a e]
      cases f a with
      | none => exact ih
      | some y => exact ih.cons _

/-- The store with the map, as far as it goes. -/
def SameAs (σ τ : Store) : Prop := (∀ b, σ.blks.get b = τ.blks.get b) ∧ σ.next = τ.next ∧ σ.fams = τ.fams ∧ σ.globs = τ.globs

structure InvE (σ0 : Store) (L : Array Bool) (fr : HFrame) (σ : Store) : Prop where
  size : L.size = 19
  nt : fr.nt = 11
  start : L.getD 0 false = false → σ = σ0
  map : L.getD 0 false = true → fr.get 1 = .map (some σ0.next) ∧ ∃ es, SameAs σ (σ0.push (.map es es.length)) ∧ (es.map pairOf).Perm (canonE fun i => L.getD i false)
  keys : ∀ k, k < 8 → L.getD (2 * k + 1) false = true → fr.get (k + 2) = keyE k
  last : L.getD 17 false = true → fr.get 10 = .map (some σ0.next)
  res : L.getD 18 false = true → fr.get 0 = .map (some σ0.next)
  ins : ∀ k, k < 8 → L.getD (2 * k + 2) false = true → L.getD 0 false = true

theorem getD_set {L : Array Bool} {i j : Nat} (hi : i < L.size) : (L.setIfInBounds i true).getD j false = if j = i then true else L.getD j false := by
  simp only [Array.getD_eq_getD_getElem?]
  by_cases e : j = i
  · subst e; simp [hi]
  · rw [Array.getElem?_setIfInBounds_ne (Ne.symm e), if_neg e]

theorem put_get_ne {fr : HFrame} {d : Option Tmp} {v : HV} {t : Nat} (h : d ≠ some t) : (fr.put d v).get t = fr.get t := by
  cases d with
  | none => rfl
  | some d =>
    simp only [HFrame.put, HFrame.get, T.get_set]
    rw [if_neg]
    rintro rfl
    exact h rfl
theorem put_get_eq {fr : HFrame} {v : HV} {t : Nat} : (fr.put (some t) v).get t = v := by
  simp only [HFrame.put, HFrame.get, T.get_set]
  simp

theorem findIx_none {P : Program} {t : TypeId} {k : HV} : ∀ {es : List HEntry}, (∀ e ∈ es, keyEq P t k e.key = some false) → findIx P t k es = some none
  | [], _ => rfl
  | e :: es, h => by
    simp only [findIx, h e (List.mem_cons_self ..), findIx_none fun e he => h e (List.mem_cons_of_mem _ he)]
    rfl

theorem ready_facts {L : Array Bool} {i : Nat} (hm : i ∈ Region.ready .any opsE L) {o : Oper} (ho : opsE[i]? = some o) (hsz : L.size = 19) : L.getD i false = false ∧ ∀ j, depB i j = true → L.getD j false = true := by
  obtain ⟨hun, o', ho', hdep⟩ := mem_ready.1 hm
  have : o' = o := by rw [ho] at ho'; cases ho'; rfl
  subst this
  have hi : i < L.size := by rw [hsz]; exact (kind_at ho).1
  refine ⟨?_, fun j hd => dep_listed ho hd hdep⟩
  simp [Array.getD_eq_getD_getElem?, hi] at hun ⊢
  exact hun

theorem make_ev {o : Oper} {fr : HFrame} {σ : Store} (h : o.op = .makeMap 400 none) : evalOp Tryz.prog o fr σ = .val (.map (some σ.next)) (σ.push (.map [] 0)) := by
  unfold evalOp memOpP evalOp0
  simp only [h, memOp]

theorem move_ev {o : Oper} {fr : HFrame} {σ : Store} {x : Operand} (h : o.op = .move x ∨ o.op = .assign x) : evalOp Tryz.prog o fr σ = .val (fr.eval x) σ := by
  rcases h with h | h <;> unfold evalOp memOpP evalOp0 <;> simp only [h, memOp]

theorem build_all (o : Oper) (fr : HFrame) (σ : Store) : ∀ k, k < 8 → o.op = buildE k → evalOp Tryz.prog o fr σ = .val (keyE k) σ := by
  obtain ⟨dst, op, type, pos, after, guard⟩ := o
  intro k hk h
  simp only at h
  subst h
  rcases (show k = 0 ∨ k = 1 ∨ k = 2 ∨ k = 3 ∨ k = 4 ∨ k = 5 ∨ k = 6 ∨ k = 7 by omega) with rfl | rfl | rfl | rfl | rfl | rfl | rfl | rfl
  all_goals kernel_rfl

theorem under400 : Tryz.prog.underlying 400 = some (.map 429 3) := by kernel_rfl
theorem under429 : (Tryz.prog.underlying 429).isNone = false := by kernel_rfl

theorem insert_ev {o : Oper} {fr : HFrame} {σ : Store} {k N : Nat} {es : List HEntry} (hk : k < 8) (h : o.op = insertE k) (hnt : fr.nt = 11) (h1 : fr.get 1 = .map (some N)) (h2 : fr.get (k + 2) = keyE k)
    (hb : σ.blks.get N = some (.map es es.length)) (hes : ∀ e ∈ es, keyEq Tryz.prog 429 (keyE k) e.key = some false) :
    evalOp Tryz.prog o fr σ = .val (.tuple []) { σ with blks := σ.blks.set N (.map (es ++ [⟨keyE k, valE k, es.length⟩]) (es.length + 1)) } := by
  have hu := under400
  have hz : ∃ z, zeroHV Tryz.prog 3 = some z := ⟨.int .i64 0, by kernel_rfl⟩
  have e1 : fr.eval (.tmp 1) = .map (some N) := by simp only [HFrame.eval, hnt]; exact h1
  have e2 : fr.eval (.tmp (k + 2)) = keyE k := by
    have hlt : k + 2 < 11 := by omega
    simp only [HFrame.eval, hnt, if_pos hlt]
    exact h2
  have e3 : fr.eval (.const (.int .i64 (causeV.getD k 0))) = valE k := rfl
  have hok : keyOK Tryz.prog 429 (keyE k) = true := (List.all_eq_true.1 keyOK_all) k (List.mem_range.2 hk)
  have hup : updK Tryz.prog 429 (keyE k) (valE k) es.length es = some (es ++ [⟨keyE k, valE k, es.length⟩], es.length + 1) := by
    unfold updK
    rw [findIx_none hes]
  unfold evalOp memOpP evalOp0
  simp only [h, insertE, memOp, hu, under429, e1, e2, e3, hb, hok, hup, Option.bind_eq_bind, Option.bind_some, Bool.false_eq_true, if_false, Bool.not_true]
  rfl

theorem canon_same {L L' : Nat → Bool} (h : ∀ j, j < 8 → L' (2 * j + 2) = L (2 * j + 2)) : canonE L' = canonE L := fm_congr fun j hj => by rw [h j (List.mem_range.1 hj)]

theorem canon_mem {L : Nat → Bool} {p : HV × HV} (h : p ∈ canonE L) : ∃ j, j < 8 ∧ L (2 * j + 2) = true ∧ p = (keyE j, valE j) := by
  obtain ⟨j, hj, he⟩ := List.mem_filterMap.1 h
  split at he
  · rename_i hl
    cases he
    exact ⟨j, List.mem_range.1 hj, hl, rfl⟩
  · cases he

theorem keys_ne {j k : Nat} (hj : j < 8) (hk : k < 8) (hn : j ≠ k) : keyEq Tryz.prog 429 (keyE k) (keyE j) = some false := by
  have := (List.all_eq_true.1 ((List.all_eq_true.1 keys_all) j (List.mem_range.2 hj))) k (List.mem_range.2 hk)
  simp only [Bool.or_eq_true, Nat.beq_eq, beq_iff_eq] at this
  exact this.resolve_left hn

theorem step_E {σ0 : Store} (L : Array Bool) (fr : HFrame) (σ : Store) (i : Nat) (o : Oper) (hJ : InvE σ0 L fr σ) (hm : i ∈ Region.ready .any opsE L) (ho : opsE[i]? = some o) : wantedH opsE o fr = some true ∧ isDefer o.op = false ∧
    HStep Tryz.prog (fun v σ' => InvE σ0 (L.setIfInBounds i true) (fr.put o.dst v) σ') (fun _ _ => False) σ (evalOp Tryz.prog o fr σ) := by
  obtain ⟨hi, hkind, hg⟩ := kind_at ho
  obtain ⟨hun, hdeps⟩ := ready_facts hm ho hJ.size
  have hw : wantedH opsE o fr = some true := by unfold wantedH; rw [hg]
  have hsz : i < L.size := by rw [hJ.size]; exact hi
  have hL : ∀ j, (L.setIfInBounds i true).getD j false = if j = i then true else L.getD j false := fun j => getD_set hsz
  refine ⟨hw, ?_⟩
  have hcanon : (∀ k, k < 8 → i ≠ 2 * k + 2) → canonE (fun j => (L.setIfInBounds i true).getD j false) = canonE fun j => L.getD j false := fun h => canon_same fun j hj => by rw [hL, if_neg (Ne.symm (h j hj))]
  by_cases c0 : i = 0
  · subst c0
    simp only [kindE, if_true, Option.some.injEq, Prod.mk.injEq] at hkind
    obtain ⟨hd, hop⟩ := hkind
    refine ⟨by rw [← hop]; rfl, ?_⟩
    rw [make_ev hop.symm, ← hd]
    have hσ := hJ.start hun
    subst hσ
    refine ⟨by simpa using hJ.size, hJ.nt, fun h => ?_, fun _ => ⟨put_get_eq, [], ⟨fun _ => rfl, rfl, rfl, rfl⟩, ?_⟩, fun k hk h => ?_, fun h => ?_, fun h => ?_, fun k hk h => ?_⟩
    · rw [hL, if_pos rfl] at h; cases h
    · rw [hcanon fun k _ => by omega]
      have : canonE (fun j => L.getD j false) = [] := by
        unfold canonE
        rw [List.filterMap_eq_nil_iff]
        intro j hj
        rw [if_neg]
        intro h
        have := hJ.ins j (List.mem_range.1 hj) h
        rw [hun] at this
        cases this
      rw [this]
      exact .refl _
    · rw [hL, if_neg (by omega)] at h
      rw [put_get_ne (by simp)]
      exact hJ.keys k hk h
    · rw [hL, if_neg (by omega)] at h
      rw [put_get_ne (by simp)]
      exact hJ.last h
    · rw [hL, if_neg (by omega)] at h
      rw [put_get_ne (by simp)]
      exact hJ.res h
    · rw [hL]; rfl
  by_cases c17 : i = 17
  · subst c17
    simp only [kindE, Nat.reduceEqDiff, if_false, if_true, Option.some.injEq, Prod.mk.injEq] at hkind
    obtain ⟨hd, hop⟩ := hkind
    refine ⟨by rw [← hop]; rfl, ?_⟩
    rw [move_ev (.inl hop.symm), ← hd]
    have h0 : L.getD 0 false = true := hdeps 0 deps_17
    obtain ⟨hm1, es, hs, hp⟩ := hJ.map h0
    have e1 : fr.eval (.tmp 1) = .map (some σ0.next) := by simp only [HFrame.eval, hJ.nt]; exact hm1
    rw [e1]
    refine ⟨by simpa using hJ.size, hJ.nt, fun h => ?_, fun _ => ⟨by rw [put_get_ne (by simp)]; exact hm1, es, hs, by rw [hcanon fun k hk => by omega]; exact hp⟩, fun k hk h => ?_, fun _ => put_get_eq, fun h => ?_, fun k hk h => ?_⟩
    · rw [hL, if_neg (by omega)] at h; rw [h0] at h; cases h
    · rw [hL, if_neg (by omega)] at h
      rw [put_get_ne (by simp; omega)]
      exact hJ.keys k hk h
    · rw [hL, if_neg (by omega)] at h
      rw [put_get_ne (by simp)]
      exact hJ.res h
    · rw [hL, if_neg (by omega)]; exact h0
  by_cases c18 : i = 18
  · subst c18
    simp only [kindE, Nat.reduceEqDiff, if_false, if_true, Option.some.injEq, Prod.mk.injEq] at hkind
    obtain ⟨hd, hop⟩ := hkind
    refine ⟨by rw [← hop]; rfl, ?_⟩
    rw [move_ev (.inr hop.symm), ← hd]
    have h17 : L.getD 17 false = true := hdeps 17 deps_18
    have e1 : fr.eval (.tmp 10) = .map (some σ0.next) := by simp only [HFrame.eval, hJ.nt]; exact hJ.last h17
    rw [e1]
    refine ⟨by simpa using hJ.size, hJ.nt, fun h => ?_, fun h => ?_, fun k hk h => ?_, fun h => ?_, fun _ => put_get_eq, fun k hk h => ?_⟩
    · rw [hL, if_neg (by omega)] at h; exact hJ.start h
    · rw [hL, if_neg (by omega)] at h
      obtain ⟨hm1, es, hs, hp⟩ := hJ.map h
      exact ⟨by rw [put_get_ne (by simp)]; exact hm1, es, hs, by rw [hcanon fun k hk => by omega]; exact hp⟩
    · rw [hL, if_neg (by omega)] at h
      rw [put_get_ne (by simp)]
      exact hJ.keys k hk h
    · rw [hL, if_neg (by omega)] at h
      rw [put_get_ne (by simp)]
      exact hJ.last h
    · rw [hL, if_neg (by omega)] at h
      rw [hL, if_neg (by omega)]
      exact hJ.ins k hk h
  have hi17 : i < 17 := by omega
  simp only [kindE, if_neg c0, if_neg c17, if_neg c18, if_pos hi17] at hkind
  by_cases odd : i % 2 = 1
  · rw [if_pos odd] at hkind
    simp only [Option.some.injEq, Prod.mk.injEq] at hkind
    obtain ⟨hd, hop⟩ := hkind
    obtain ⟨k, hk, rfl⟩ : ∃ k, k < 8 ∧ i = 2 * k + 1 := ⟨i / 2, by omega, by omega⟩
    have hdiv : (2 * k + 1) / 2 = k := by omega
    rw [hdiv] at hd hop
    refine ⟨by rw [← hop]; rfl, ?_⟩
    rw [build_all o fr σ k hk hop.symm, ← hd]
    refine ⟨by simpa using hJ.size, hJ.nt, fun h => ?_, fun h => ?_, fun j hj h => ?_, fun h => ?_, fun h => ?_, fun j hj h => ?_⟩
    · rw [hL, if_neg (by omega)] at h; exact hJ.start h
    · rw [hL, if_neg (by omega)] at h
      obtain ⟨hm1, es, hs, hp⟩ := hJ.map h
      exact ⟨by rw [put_get_ne (by simp)]; exact hm1, es, hs, by rw [hcanon fun k hk => by omega]; exact hp⟩
    · rw [hL] at h
      by_cases e : j = k
      · subst e; exact put_get_eq
      · rw [if_neg (by omega)] at h
        rw [put_get_ne (by simp; omega)]
        exact hJ.keys j hj h
    · rw [hL, if_neg (by omega)] at h
      rw [put_get_ne (by simp; omega)]
      exact hJ.last h
    · rw [hL, if_neg (by omega)] at h
      rw [put_get_ne (by simp)]
      exact hJ.res h
    · rw [hL, if_neg (by omega)] at h
      rw [hL, if_neg (by omega)]
      exact hJ.ins j hj h
  · rw [if_neg odd] at hkind
    simp only [Option.some.injEq, Prod.mk.injEq] at hkind
    obtain ⟨hd, hop⟩ := hkind
    obtain ⟨k, hk, rfl⟩ : ∃ k, k < 8 ∧ i = 2 * k + 2 := ⟨i / 2 - 1, by omega, by omega⟩
    have hdiv : (2 * k + 2) / 2 - 1 = k := by omega
    rw [hdiv] at hop
    refine ⟨by rw [← hop]; rfl, ?_⟩
    have hdp := (List.all_eq_true.1 deps_ins) k (List.mem_range.2 hk)
    simp only [Bool.and_eq_true] at hdp
    have h0 : L.getD 0 false = true := hdeps 0 hdp.1
    have hkb : L.getD (2 * k + 1) false = true := hdeps (2 * k + 1) hdp.2
    obtain ⟨hm1, es, hs, hp⟩ := hJ.map h0
    have hes : ∀ e ∈ es, keyEq Tryz.prog 429 (keyE k) e.key = some false := by
      intro e he
      have : pairOf e ∈ canonE fun j => L.getD j false := hp.mem_iff.1 (List.mem_map_of_mem he)
      obtain ⟨j, hj, hl, hpe⟩ := canon_mem this
      have hne : j ≠ k := by rintro rfl; rw [hun] at hl; cases hl
      have hke : e.key = keyE j := congrArg Prod.fst hpe
      rw [hke]
      exact keys_ne hj hk hne
    have hb : σ.blks.get σ0.next = some (.map es es.length) := by
      rw [hs.1]
      simp only [Store.push, T.get_set, if_true]
    rw [insert_ev hk hop.symm hJ.nt hm1 (hJ.keys k hk hkb) hb hes, ← hd]
    refine ⟨by simpa using hJ.size, hJ.nt, fun h => ?_, fun _ => ⟨hm1, es ++ [⟨keyE k, valE k, es.length⟩], ⟨fun b => ?_, hs.2.1, hs.2.2.1, hs.2.2.2⟩, ?_⟩, fun j hj h => ?_, fun h => ?_, fun h => ?_, fun j hj h => ?_⟩
    · rw [hL, if_neg (by omega)] at h; rw [h0] at h; cases h
    · have := hs.1 b
      simp only [Store.push, T.get_set, List.length_append, List.length_cons, List.length_nil] at this ⊢
      by_cases e : b = σ0.next
      · subst e; simp
      · rw [if_neg e] at this ⊢
        rw [if_neg e]
        exact this
    · rw [List.map_append]
      refine (hp.append_right _).trans ?_
      have := perm_add (fun j => if L.getD (2 * j + 2) false then some (keyE j, valE j) else none) (fun j => if (L.setIfInBounds (2 * k + 2) true).getD (2 * j + 2) false then some (keyE j, valE j) else none) k (keyE k, valE k)
        (by show (if (L.setIfInBounds (2 * k + 2) true).getD (2 * k + 2) false = true then _ else _) = _; rw [hL, if_pos rfl]; rfl) (by show (if L.getD (2 * k + 2) false = true then _ else _) = _; rw [hun]; rfl) (fun j hj => by show (if (L.setIfInBounds (2 * k + 2) true).getD (2 * j + 2) false = true then _ else _) = (if L.getD (2 * j + 2) false = true then _ else _); rw [hL, if_neg (show ¬ (2 * j + 2 = 2 * k + 2) by omega)]) (List.range 8) List.nodup_range (List.mem_range.2 hk)
      exact this.symm
    · rw [hL, if_neg (by omega)] at h
      exact hJ.keys j hj h
    · rw [hL, if_neg (by omega)] at h
      exact hJ.last h
    · rw [hL, if_neg (by omega)] at h
      exact hJ.res h
    · rw [hL, if_neg (by omega)]; exact h0

def allE : List (HV × HV) := (List.range 8).map fun j => (keyE j, valE j)

theorem canon_all {L : Nat → Bool} (h : ∀ j, j < 8 → L (2 * j + 2) = true) : canonE L = allE := by
  unfold canonE allE
  rw [← List.filterMap_eq_map]
  exact fm_congr fun j hj => by rw [h j (List.mem_range.1 hj)]; rfl

theorem pairs_trans {ρ : Ren} {e1 e2 : List (HV × HV)} (hp : e1.Perm e2) : ∀ l, PairsRel ρ e1 l → ∃ l2, PairsRel ρ e2 l2 ∧ l2.Perm l := by
  induction hp with
  | nil => exact fun l h => ⟨l, h, .refl _⟩
  | cons x _ ih =>
    intro l h
    obtain ⟨e', es', rfl, h2, h3⟩ := h
    obtain ⟨l2, h4, h5⟩ := ih es' h3
    exact ⟨e' :: l2, ⟨_, _, rfl, h2, h4⟩, h5.cons _⟩
  | swap x y l0 =>
    intro l h
    obtain ⟨e', es', rfl, h2, f', fs', rfl, h5, h6⟩ := h
    exact ⟨f' :: e' :: fs', ⟨_, _, rfl, h5, _, _, rfl, h2, h6⟩, List.Perm.swap _ _ _⟩
  | trans _ _ ih1 ih2 =>
    intro l h
    obtain ⟨l2, h1, h2⟩ := ih1 l h
    obtain ⟨l3, h3, h4⟩ := ih2 l2 h1
    exact ⟨l3, h3, h4.trans h2⟩

theorem ents_pairs {ρ : Ren} : ∀ {es : List HEntry} {l : List MapEntry}, EntsRel ρ es l → PairsRel ρ (es.map pairOf) l
  | [], _, h => h
  | e :: es, _, ⟨e', es', h1, h2, h3⟩ => ⟨e', es', h1, ⟨h2.1, h2.2.1⟩, ents_pairs h3⟩

theorem map_omap {ρ : Ren} {σ : Store} {w : World} {L : Loc} {es : List HEntry} {clk : Nat} {ps : List (HV × HV)} (hp : (es.map pairOf).Perm ps) (h : BRel ρ σ w L (.map es clk)) : BRel ρ σ w L (.omap ps) := by
  obtain ⟨es', h1, h2⟩ := h
  obtain ⟨l2, h3, h4⟩ := pairs_trans hp _ (ents_pairs h2)
  exact ⟨es', clk, l2, h1, h4, h3⟩

/-- Answers that are propositions. -/
def AP : Ans Prop := { fail := False, both := And, same := fun v v' a => v = v' ∧ a }
theorem AP_good : AP.Good (fun p => p) := ⟨id, fun _ _ h => h, fun _ _ _ h => h⟩

theorem HWp.of_er {S : Sums} (hS : SumsOK Tryz.prog S) {n : Nat} {r : Option Nat} {c : Code} {fr : HFrame} {σ : Store} {Q : HExit → HFrame → Store → Prop} (h : (er AP V0 Tryz.prog B0 S n).code r c fr σ Q) : HWp Tryz.prog r c Q fr σ :=
  (er_ok AP_good V0_eq mixed0 B0_ok hS n n (Nat.le_refl _)).1 r c fr σ Q h

noncomputable def c0E : Code := match Tryz.f296.body with
  | some (.seq c _) => c
  | _ => .skip

theorem func_E : Tryz.prog.funcs[296]? = some Tryz.f296 := by kernel_rfl
theorem body_E : Tryz.f296.body = some (.seq c0E (.seq (.region 1 opsE true) .ret)) := by kernel_rfl
theorem nt_E : Tryz.f296.ntmps = 11 := by kernel_rfl
theorem res_E : Tryz.f296.results.toList = [.tmp 0] := by kernel_rfl
theorem c0_E (gl : List Nat) (σ : Store) (Q : HExit → HFrame → Store → Prop) : (er AP V0 Tryz.prog B0 noSums 5).code none c0E (enterH 11 gl []) σ Q = Q .normal ((enterH 11 gl []).put (some 0) (.map none)) σ := by kernel_rfl

theorem effects_ok (σ : Store) : HCall Tryz.prog 296 [] σ (fun e σ' => e = .returned (.map (some σ.next)) ∧ σ' = σ.push (.omap allE)) := by
  have h1 : HCall Tryz.prog 296 [] σ (fun e σ' => e = .returned (.map (some σ.next)) ∧ ∃ es, SameAs σ' (σ.push (.map es es.length)) ∧ (es.map pairOf).Perm allE) := by
    refine HCall.of_body func_E body_E (by simp) ?_
    rw [nt_E, res_E]
    refine HWp.seq (HWp.of_er noSums_ok (n := 5) ?_)
    rw [c0_E]
    refine HWp.seq (HWp.any mixed0 (InvE σ) ?_ step_E ?_)
    · have hz : ∀ j, (Array.replicate opsE.size false).getD j false = false := fun j => by
        simp only [Array.getD_eq_getD_getElem?, Array.getElem?_replicate]
        split <;> rfl
      refine ⟨by simp [size_E], rfl, fun _ => rfl, fun h => ?_, fun k _ h => ?_, fun h => ?_, fun h => ?_, fun k _ h => ?_⟩
      all_goals (rw [hz] at h; cases h)
    · intro L fr σ' hJ hnil
      have hall : ∀ i, i < 19 → L.getD i false = true := fun i hi => ready_all region_E (by rw [hJ.size, size_E]) hnil i (by rw [size_E]; exact hi)
      obtain ⟨_, es, hs, hp⟩ := hJ.map (hall 0 (by omega))
      rw [canon_all fun j hj => hall _ (by omega)] at hp
      refine HWp.ret ⟨.map (some σ.next), ?_, rfl, es, hs, hp⟩
      have h0 := hJ.res (hall 18 (by omega))
      have hnt : (0 : Nat) < fr.nt := by rw [hJ.nt]; decide
      simp only [resultsH, resHs, resH, if_pos hnt, h0]
  refine h1.told ?_
  rintro e σ' ⟨rfl, es, hs, hp⟩
  refine ⟨σ.push (.omap allE), ⟨rfl, rfl⟩, ?_, fun ρ w hR => ?_⟩
  · rw [hs.2.1]; rfl
  · have hR1 : Rel ρ (σ.push (.map es es.length)) w := hR.congr (fun b => (hs.1 b).symm) hs.2.1.symm hs.2.2.1.symm hs.2.2.2.symm
    have hR2 := hR1.swap (b := σ.next) (x := .map es es.length) (y := .omap allE) (by simp only [Store.push, T.get_set, if_true]) (by simp [HBlk.single]) (by simp [HBlk.single]) (fun L _ h => map_omap hp h)
    refine hR2.congr (fun b => ?_) rfl rfl rfl
    simp only [Store.push, Store.put, T.get_set]
    split <;> rfl

def sumEffects (args : List HV) (σ : Store) : CallOut :=
  match args with
  | [] => some (.returned (.map (some σ.next)), σ.push (.omap allE))
  | _ => none

theorem sumEffects_ok {args : List HV} {σ : Store} {e : HEnd} {σ' : Store} (h : sumEffects args σ = some (e, σ')) : HCall Tryz.prog 296 args σ (fun e' σ'' => e' = e ∧ σ'' = σ') := by
  unfold sumEffects at h
  split at h
  · cases h; exact effects_ok σ
  · cases h

end
end Go.HI

/- strings.Trim of zeros at the byte zero. -/
namespace Go.HI
open Go.Proofs
noncomputable section

variable {P : Program} {o : Oper} {fr : HFrame} {σ : Store} {Q : HExit → HFrame → Store → Prop} {ops : Array Oper}

theorem HOps.step {i : Nat} {rest : List Nat} {v : HV} {σ' : Store} (ho : ops[i]? = some o) (hd : isDefer o.op = false) (hw : wantedH ops o fr = some true) (he : evalOp P o fr σ = .val v σ') (h : HOps P ops Q rest (fr.put o.dst v) σ') : HOps P ops Q (i :: rest) fr σ := by
  simp only [HOps, ho, hw, he]
  exact ⟨hd, h⟩
theorem HOps.pass {i : Nat} {rest : List Nat} (ho : ops[i]? = some o) (hd : isDefer o.op = false) (hw : wantedH ops o fr = some false) (h : HOps P ops Q rest (fr.put o.dst (.tuple [])) σ) : HOps P ops Q (i :: rest) fr σ := by
  simp only [HOps, ho, hw]
  exact ⟨hd, h⟩

theorem ev_bin {op : BinOp} {t u : TypeId} {x y : Operand} {k : IntKind} {a b : Int} {v : HV} (h : o.op = .binOp op t x y u) (hx : fr.eval x = .int k a) (hy : fr.eval y = .int k b) (hv : fastInt op k a b = some v) : evalOp P o fr σ = .val v σ := by
  refine binFast_ok ?_
  unfold binFast
  simp only [h, hx, hy, if_true, hv]

theorem ev_move {x : Operand} (h : o.op = .move x ∨ o.op = .assign x) : evalOp P o fr σ = .val (fr.eval x) σ := by
  rcases h with h | h <;> unfold evalOp memOpP evalOp0 <;> simp only [h, memOp]

theorem ev_pick {c a b : Operand} {t : Bool} (h : o.op = .pick c a b) (hc : fr.eval c = .bool t) : evalOp P o fr σ = .val (if t then fr.eval a else fr.eval b) σ := by
  unfold evalOp memOpP evalOp0
  simp only [h, memOp, hc]

theorem ev_len {x : Operand} {t : TypeId} {n : Nat} (h : o.op = .call { callee := .builtin .len, args := #[x], argTypes := #[t] }) (ht : P.underlying t = some .string) (hx : (∃ p m, fr.eval x = .pad p m ∧ n = p.length + m) ∨ ∃ s, fr.eval x = .str s ∧ n = s.length) :
    evalOp P o fr σ = .val (.int .i64 (n : Nat)) σ := by
  unfold evalOp memOpP evalOp0
  rcases hx with ⟨p, m, hx, rfl⟩ | ⟨s, hx, rfl⟩ <;> simp [h, memOp, builtinH, hx, ht]

theorem ev_index {x y : Operand} {t : TypeId} {n : Nat} {k : IntKind} {i : Nat} (h : o.op = .index t x y) (ht : P.underlying t = some .string) (hx : fr.eval x = .pad [] n) (hy : fr.eval y = .int k (i : Nat)) (hi : i < n) : evalOp P o fr σ = .val (.int .u8 0) σ := by
  unfold evalOp memOpP evalOp0
  simp [h, memOp, intOf?, hx, hy, ht, hi]

theorem ev_slice {x y : Operand} {t : TypeId} {n : Nat} {k : IntKind} {i : Nat} {r : HV} (h : o.op = .slice t x none (some y) none) (ht : P.underlying t = some .string) (hx : fr.eval x = .pad [] n) (hy : fr.eval y = .int k (i : Nat)) (hi : i ≤ n) (hr : padSlice [] n 0 i = some r) : evalOp P o fr σ = .val r σ := by
  unfold evalOp memOpP evalOp0
  simp [h, memOp, sliceH, bounds2, optInt, intOf?, hx, hy, ht, hi, hr]

theorem fr_tmp {t : Nat} {v : HV} (hn : t < fr.nt) (hg : fr.get t = v) : fr.eval (.tmp t) = v := by simp only [HFrame.eval, if_pos hn, hg]

theorem get_put (fr : HFrame) (d t : Nat) (v : HV) : (fr.put (some d) v).get t = if t = d then v else fr.get t := by
  simp only [HFrame.put, HFrame.get, T.get_set]
  split <;> rfl
theorem nt_put (fr : HFrame) (d : Option Tmp) (v : HV) : (fr.put d v).nt = fr.nt := by cases d <;> rfl

abbrev OpV := Option (Option Tmp × Op × Option (Nat × Bool))
def viewOps (ops : Array Oper) (n : Nat) : List OpV := (List.range n).map fun i => (ops[i]?).map fun o => (o.dst, o.op, o.guard)

theorem view_at {n : Nat} {l : List OpV} (hv : viewOps ops n = l) {i : Nat} {d : Option Tmp} {op : Op} {g : Option (Nat × Bool)} (hi : l[i]? = some (some (d, op, g))) : ∃ o, ops[i]? = some o ∧ o.dst = d ∧ o.op = op ∧ o.guard = g := by
  subst hv
  simp only [viewOps, List.getElem?_map, Option.map_eq_some_iff] at hi
  obtain ⟨j, hj, hi⟩ := hi
  have : j = i := by
    rw [List.getElem?_eq_some_iff] at hj
    obtain ⟨h1, h2⟩ := hj
    simp at h2
    exact h2.symm
  subst this
  obtain ⟨o, ho, he⟩ := hi
  cases he
  exact ⟨o, ho, rfl, rfl, rfl⟩

theorem want_none (h : o.guard = none) : wantedH ops o fr = some true := by unfold wantedH; rw [h]
theorem want_some {j d : Nat} {w b : Bool} {oj : Oper} (h : o.guard = some (j, w)) (hj : ops[j]? = some oj) (hd : oj.dst = some d) (hn : d < fr.nt) (hb : fr.get d = .bool b) : wantedH ops o fr = some (b == w) := by
  unfold wantedH
  rw [h]
  simp only [hj, Option.bind_some, hd, if_pos hn, hb]

/-! ### trimRightByte -/
noncomputable def codeR : Code := match Tryz.f225.body with
  | some c => c
  | none => .skip
noncomputable def opsA : Array Oper := match codeR with
  | .seq _ (.seq (.block _ (.loop (.seq (.seq (.region _ ops _) _) _))) _) => ops
  | _ => #[]
noncomputable def opsB : Array Oper := match codeR with
  | .seq _ (.seq (.block _ (.loop (.seq _ (.block _ (.region _ ops _))))) _) => ops
  | _ => #[]
noncomputable def headR : Code := match codeR with
  | .seq c _ => c
  | _ => .skip
noncomputable def tailR : Code := match codeR with
  | .seq _ (.seq _ c) => c
  | _ => .skip

theorem codeR_eq : Tryz.f225.body = some (.seq headR (.seq (.block 0 (.loop (.seq (.seq (.region 1 opsA false) (.cond (.tmp 16) .skip (.exit 0))) (.block 1 (.region 2 opsB false))))) tailR)) := by kernel_rfl
theorem sizeA : opsA.size = 12 := by kernel_rfl
theorem sizeB : opsB.size = 6 := by kernel_rfl
def lenOp (x : Tmp) : Op := .call { callee := .builtin .len, args := #[.tmp x], argTypes := #[9] }
theorem viewA : viewOps opsA 12 = [some (some 5, .move (.tmp 0), none), some (some 6, lenOp 5, none), some (some 7, .binOp .gtr 3 (.tmp 6) (.const (.int .i64 0)) 3, none), some (some 8, .move (.tmp 7), none),
    some (some 9, .move (.tmp 0), some (3, true)), some (some 10, .move (.tmp 0), some (3, true)), some (some 11, lenOp 10, some (3, true)), some (some 12, .binOp .sub 3 (.tmp 11) (.const (.int .i64 1)) 3, some (3, true)),
    some (some 13, .index 9 (.tmp 9) (.tmp 12), some (3, true)), some (some 14, .move (.tmp 1), some (3, true)), some (some 15, .binOp .eql 5 (.tmp 13) (.tmp 14) 5, some (3, true)), some (some 16, .pick (.tmp 8) (.tmp 15) (.const (.bool false)), none)] := by kernel_rfl
theorem viewB : viewOps opsB 6 = [some (some 17, .move (.tmp 0), none), some (some 18, .move (.tmp 0), none), some (some 19, lenOp 18, none), some (some 20, .binOp .sub 3 (.tmp 19) (.const (.int .i64 1)) 3, none),
    some (some 21, .slice 9 (.tmp 17) none (some (.tmp 20)) none, none), some (some 0, .assign (.tmp 21), none)] := by kernel_rfl
theorem strT : Tryz.prog.underlying 9 = some .string := by kernel_rfl

/-- What is left. -/
def leftR (m : Nat) : HV := if m = 0 then .str [] else .pad [] m

theorem wrap_pred {k : Nat} (h : k < 2 ^ 40) : IntKind.i64.wrap (((k + 1 : Nat) : Int) - 1) = (k : Nat) := by
  have e : ((k + 1 : Nat) : Int) - 1 = (k : Nat) := by omega
  rw [e, ← Int.ofNat_eq_natCast, ← wrapN_eq]
  simp only [wrapN]
  have : Nat.blt k 9223372036854775808 = true := by rw [Nat.blt_eq]; omega
  rw [this]

theorem roundA (k : Nat) (hk : k < 2 ^ 40) (hn : fr.nt = 23) (h0 : fr.get 0 = .pad [] (k + 1)) (h1 : fr.get 1 = .int .u8 0)
    (hQ : ∀ fr', fr'.nt = 23 → fr'.get 0 = .pad [] (k + 1) → fr'.get 1 = .int .u8 0 → fr'.get 16 = .bool true → Q .normal fr' σ) : HOps Tryz.prog opsA Q (List.range opsA.size) fr σ := by
  rw [sizeA]
  obtain ⟨o0, a0, b0, c0, d0⟩ := view_at viewA (i := 0) rfl
  obtain ⟨o1, a1, b1, c1, d1⟩ := view_at viewA (i := 1) rfl
  obtain ⟨o2, a2, b2, c2, d2⟩ := view_at viewA (i := 2) rfl
  obtain ⟨o3, a3, b3, c3, d3⟩ := view_at viewA (i := 3) rfl
  obtain ⟨o4, a4, b4, c4, d4⟩ := view_at viewA (i := 4) rfl
  obtain ⟨o5, a5, b5, c5, d5⟩ := view_at viewA (i := 5) rfl
  obtain ⟨o6, a6, b6, c6, d6⟩ := view_at viewA (i := 6) rfl
  obtain ⟨o7, a7, b7, c7, d7⟩ := view_at viewA (i := 7) rfl
  obtain ⟨o8, a8, b8, c8, d8⟩ := view_at viewA (i := 8) rfl
  obtain ⟨o9, a9, b9, c9, d9⟩ := view_at viewA (i := 9) rfl
  obtain ⟨o10, a10, b10, c10, d10⟩ := view_at viewA (i := 10) rfl
  obtain ⟨o11, a11, b11, c11, d11⟩ := view_at viewA (i := 11) rfl
  show HOps Tryz.prog opsA Q [0, 1, 2, 3, 4, 5, 6, 7, 8, 9, 10, 11] fr σ
  refine HOps.step a0 (by rw [c0]; rfl) (want_none d0) (ev_move (.inl c0)) ?_
  rw [b0, fr_tmp (by omega) h0]
  refine HOps.step a1 (by rw [c1]; rfl) (want_none d1) (ev_len (n := k + 1) c1 strT (.inl ⟨[], k + 1, fr_tmp (by rw [nt_put]; omega) (by simp [get_put]), by simp⟩)) ?_
  rw [b1]
  refine HOps.step a2 (by rw [c2]; rfl) (want_none d2) (ev_bin (k := .i64) (a := ((k + 1 : Nat) : Int)) (b := 0) (v := .bool true) c2 (fr_tmp (by simp only [nt_put]; omega) (by simp only [get_put]; rfl)) rfl (by simp only [fastInt, Option.some.injEq, HV.bool.injEq, decide_eq_true_eq]; omega)) ?_
  rw [b2]
  refine HOps.step a3 (by rw [c3]; rfl) (want_none d3) (ev_move (.inl c3)) ?_
  rw [b3, fr_tmp (v := .bool true) (by simp only [nt_put]; omega) (by simp [get_put])]
  refine HOps.step a4 (by rw [c4]; rfl) (want_some (b := true) d4 a3 b3 (by simp only [nt_put]; omega) (by simp [get_put])) (ev_move (.inl c4)) ?_
  rw [b4, fr_tmp (v := .pad [] (k + 1)) (by simp only [nt_put]; omega) (by simp [get_put, h0])]
  refine HOps.step a5 (by rw [c5]; rfl) (want_some (b := true) d5 a3 b3 (by simp only [nt_put]; omega) (by simp [get_put])) (ev_move (.inl c5)) ?_
  rw [b5, fr_tmp (v := .pad [] (k + 1)) (by simp only [nt_put]; omega) (by simp [get_put, h0])]
  refine HOps.step a6 (by rw [c6]; rfl) (want_some (b := true) d6 a3 b3 (by simp only [nt_put]; omega) (by simp [get_put])) (ev_len (n := k + 1) c6 strT (.inl ⟨[], k + 1, fr_tmp (by simp only [nt_put]; omega) (by simp [get_put]), by simp⟩)) ?_
  rw [b6]
  refine HOps.step a7 (by rw [c7]; rfl) (want_some (b := true) d7 a3 b3 (by simp only [nt_put]; omega) (by simp [get_put])) (ev_bin (k := .i64) (a := ((k + 1 : Nat) : Int)) (b := 1) (v := .int .i64 (k : Nat)) c7 (fr_tmp (by simp only [nt_put]; omega) (by simp only [get_put]; rfl)) rfl (by simp only [fastInt]; rw [wrap_pred hk])) ?_
  rw [b7]
  refine HOps.step a8 (by rw [c8]; rfl) (want_some (b := true) d8 a3 b3 (by simp only [nt_put]; omega) (by simp [get_put])) (ev_index (n := k + 1) (i := k) (k := .i64) c8 strT (fr_tmp (by simp only [nt_put]; omega) (by simp only [get_put]; rfl)) (fr_tmp (by simp only [nt_put]; omega) (by simp only [get_put]; rfl)) (by omega)) ?_
  rw [b8]
  refine HOps.step a9 (by rw [c9]; rfl) (want_some (b := true) d9 a3 b3 (by simp only [nt_put]; omega) (by simp [get_put])) (ev_move (.inl c9)) ?_
  rw [b9, fr_tmp (v := .int .u8 0) (by simp only [nt_put]; omega) (by simp [get_put, h1])]
  refine HOps.step a10 (by rw [c10]; rfl) (want_some (b := true) d10 a3 b3 (by simp only [nt_put]; omega) (by simp [get_put])) (ev_bin (k := .u8) (a := 0) (b := 0) (v := .bool true) c10 (fr_tmp (by simp only [nt_put]; omega) (by simp only [get_put]; rfl)) (fr_tmp (by simp only [nt_put]; omega) (by simp only [get_put]; rfl)) (by simp [fastInt])) ?_
  rw [b10]
  refine HOps.step a11 (by rw [c11]; rfl) (want_none d11) (ev_pick (t := true) c11 (fr_tmp (by simp only [nt_put]; omega) (by simp [get_put]))) ?_
  rw [b11, if_pos rfl, fr_tmp (v := .bool true) (by simp only [nt_put]; omega) (by simp [get_put])]
  exact hQ _ (by simp only [nt_put]; exact hn) (by simp [get_put, h0]) (by simp [get_put, h1]) (by simp [get_put])

theorem roundB (k : Nat) (hk : k < 2 ^ 40) (hn : fr.nt = 23) (h0 : fr.get 0 = .pad [] (k + 1)) (h1 : fr.get 1 = .int .u8 0)
    (hQ : ∀ fr', fr'.nt = 23 → fr'.get 0 = leftR k → fr'.get 1 = .int .u8 0 → Q .normal fr' σ) : HOps Tryz.prog opsB Q (List.range opsB.size) fr σ := by
  rw [sizeB]
  obtain ⟨o0, a0, b0, c0, d0⟩ := view_at viewB (i := 0) rfl
  obtain ⟨o1, a1, b1, c1, d1⟩ := view_at viewB (i := 1) rfl
  obtain ⟨o2, a2, b2, c2, d2⟩ := view_at viewB (i := 2) rfl
  obtain ⟨o3, a3, b3, c3, d3⟩ := view_at viewB (i := 3) rfl
  obtain ⟨o4, a4, b4, c4, d4⟩ := view_at viewB (i := 4) rfl
  obtain ⟨o5, a5, b5, c5, d5⟩ := view_at viewB (i := 5) rfl
  have hsl : padSlice [] (k + 1) 0 k = some (leftR k) := by
    simp only [padSlice, leftR, List.length_nil]
    by_cases e : k = 0
    · subst e; rfl
    · rw [if_neg (by omega), if_pos (by omega), if_neg e]
      rfl
  show HOps Tryz.prog opsB Q [0, 1, 2, 3, 4, 5] fr σ
  refine HOps.step a0 (by rw [c0]; rfl) (want_none d0) (ev_move (.inl c0)) ?_
  rw [b0, fr_tmp (by omega) h0]
  refine HOps.step a1 (by rw [c1]; rfl) (want_none d1) (ev_move (.inl c1)) ?_
  rw [b1, fr_tmp (v := .pad [] (k + 1)) (by simp only [nt_put]; omega) (by simp [get_put, h0])]
  refine HOps.step a2 (by rw [c2]; rfl) (want_none d2) (ev_len (n := k + 1) c2 strT (.inl ⟨[], k + 1, fr_tmp (by simp only [nt_put]; omega) (by simp [get_put]), by simp⟩)) ?_
  rw [b2]
  refine HOps.step a3 (by rw [c3]; rfl) (want_none d3) (ev_bin (k := .i64) (a := ((k + 1 : Nat) : Int)) (b := 1) (v := .int .i64 (k : Nat)) c3 (fr_tmp (by simp only [nt_put]; omega) (by simp only [get_put]; rfl)) rfl (by simp only [fastInt]; rw [wrap_pred hk])) ?_
  rw [b3]
  refine HOps.step a4 (by rw [c4]; rfl) (want_none d4) (ev_slice (n := k + 1) (i := k) (k := .i64) c4 strT (fr_tmp (by simp only [nt_put]; omega) (by simp only [get_put]; rfl)) (fr_tmp (by simp only [nt_put]; omega) (by simp only [get_put]; rfl)) (by omega) hsl) ?_
  rw [b4]
  refine HOps.step a5 (by rw [c5]; rfl) (want_none d5) (ev_move (.inr c5)) ?_
  rw [b5, fr_tmp (v := leftR k) (by simp only [nt_put]; omega) (by simp [get_put])]
  exact hQ _ (by simp only [nt_put]; exact hn) (by simp [get_put]) (by simp [get_put, h1])

theorem lastA (hn : fr.nt = 23) (h0 : fr.get 0 = .str []) (hQ : ∀ fr', fr'.nt = 23 → fr'.get 0 = .str [] → fr'.get 16 = .bool false → Q .normal fr' σ) : HOps Tryz.prog opsA Q (List.range opsA.size) fr σ := by
  rw [sizeA]
  obtain ⟨o0, a0, b0, c0, d0⟩ := view_at viewA (i := 0) rfl
  obtain ⟨o1, a1, b1, c1, d1⟩ := view_at viewA (i := 1) rfl
  obtain ⟨o2, a2, b2, c2, d2⟩ := view_at viewA (i := 2) rfl
  obtain ⟨o3, a3, b3, c3, d3⟩ := view_at viewA (i := 3) rfl
  obtain ⟨o4, a4, b4, c4, d4⟩ := view_at viewA (i := 4) rfl
  obtain ⟨o5, a5, b5, c5, d5⟩ := view_at viewA (i := 5) rfl
  obtain ⟨o6, a6, b6, c6, d6⟩ := view_at viewA (i := 6) rfl
  obtain ⟨o7, a7, b7, c7, d7⟩ := view_at viewA (i := 7) rfl
  obtain ⟨o8, a8, b8, c8, d8⟩ := view_at viewA (i := 8) rfl
  obtain ⟨o9, a9, b9, c9, d9⟩ := view_at viewA (i := 9) rfl
  obtain ⟨o10, a10, b10, c10, d10⟩ := view_at viewA (i := 10) rfl
  obtain ⟨o11, a11, b11, c11, d11⟩ := view_at viewA (i := 11) rfl
  show HOps Tryz.prog opsA Q [0, 1, 2, 3, 4, 5, 6, 7, 8, 9, 10, 11] fr σ
  refine HOps.step a0 (by rw [c0]; rfl) (want_none d0) (ev_move (.inl c0)) ?_
  rw [b0, fr_tmp (by omega) h0]
  refine HOps.step a1 (by rw [c1]; rfl) (want_none d1) (ev_len (n := 0) c1 strT (.inr ⟨[], fr_tmp (by rw [nt_put]; omega) (by simp [get_put]), rfl⟩)) ?_
  rw [b1]
  refine HOps.step a2 (by rw [c2]; rfl) (want_none d2) (ev_bin (k := .i64) (a := ((0 : Nat) : Int)) (b := 0) (v := .bool false) c2 (fr_tmp (by simp only [nt_put]; omega) (by simp only [get_put]; rfl)) rfl (by simp [fastInt])) ?_
  rw [b2]
  refine HOps.step a3 (by rw [c3]; rfl) (want_none d3) (ev_move (.inl c3)) ?_
  rw [b3, fr_tmp (v := .bool false) (by simp only [nt_put]; omega) (by simp [get_put])]
  refine HOps.pass a4 (by rw [c4]; rfl) (want_some (b := false) d4 a3 b3 (by simp only [nt_put]; omega) (by simp [get_put])) ?_
  rw [b4]
  refine HOps.pass a5 (by rw [c5]; rfl) (want_some (b := false) d5 a3 b3 (by simp only [nt_put]; omega) (by simp [get_put])) ?_
  rw [b5]
  refine HOps.pass a6 (by rw [c6]; rfl) (want_some (b := false) d6 a3 b3 (by simp only [nt_put]; omega) (by simp [get_put])) ?_
  rw [b6]
  refine HOps.pass a7 (by rw [c7]; rfl) (want_some (b := false) d7 a3 b3 (by simp only [nt_put]; omega) (by simp [get_put])) ?_
  rw [b7]
  refine HOps.pass a8 (by rw [c8]; rfl) (want_some (b := false) d8 a3 b3 (by simp only [nt_put]; omega) (by simp [get_put])) ?_
  rw [b8]
  refine HOps.pass a9 (by rw [c9]; rfl) (want_some (b := false) d9 a3 b3 (by simp only [nt_put]; omega) (by simp [get_put])) ?_
  rw [b9]
  refine HOps.pass a10 (by rw [c10]; rfl) (want_some (b := false) d10 a3 b3 (by simp only [nt_put]; omega) (by simp [get_put])) ?_
  rw [b10]
  refine HOps.step a11 (by rw [c11]; rfl) (want_none d11) (ev_pick (t := false) c11 (fr_tmp (by simp only [nt_put]; omega) (by simp [get_put]))) ?_
  rw [b11]
  exact hQ _ (by simp only [nt_put]; exact hn) (by simp [get_put, h0]) (by simp [get_put]; rfl)

def measR (fr : HFrame) : Nat := match fr.get 0 with
  | .pad _ n => n
  | _ => 0

structure InvR (σ : Store) (fr : HFrame) (τ : Store) : Prop where
  nt : fr.nt = 23
  left : ∃ m, m ≤ 2 ^ 40 ∧ fr.get 0 = leftR m
  byte : fr.get 1 = .int .u8 0
  same : τ = σ

theorem loopR {r : Option Nat} {τ : Store} (hI : InvR σ fr τ) (hQ : ∀ fr', fr'.nt = 23 → fr'.get 0 = .str [] → Q (.exit 0) fr' σ) :
    HWp Tryz.prog r (.loop (.seq (.seq (.region 1 opsA false) (.cond (.tmp 16) .skip (.exit 0))) (.block 1 (.region 2 opsB false)))) Q fr τ := by
  refine HWp.loop (InvR σ) (fun fr _ => measR fr) hI ?_
  intro fr τ hI
  obtain ⟨hn, ⟨m, hm, h0⟩, h1, rfl⟩ := hI
  by_cases e : m = 0
  · subst e
    have h0 : fr.get 0 = .str [] := h0
    refine HWp.seq (HWp.seq (HWp.region (lastA hn h0 fun fr' n' g0 g16 => ?_)))
    exact HWp.cond (t := false) (fr_tmp (by omega) g16) (HWp.exit (hQ fr' n' g0))
  · obtain ⟨k, rfl⟩ : ∃ k, m = k + 1 := ⟨m - 1, by omega⟩
    have h0 : fr.get 0 = .pad [] (k + 1) := by rw [h0]; simp [leftR]
    refine HWp.seq (HWp.seq (HWp.region (roundA k (by omega) hn h0 h1 fun fr' n' g0 g1 g16 => ?_)))
    refine HWp.cond (t := true) (fr_tmp (by omega) g16) (HWp.skip ?_)
    refine HWp.block (HWp.region (roundB k (by omega) n' g0 g1 fun fr2 n2 p0 p1 => ?_))
    refine ⟨⟨n2, ⟨k, by omega, p0⟩, p1, rfl⟩, ?_⟩
    have e1 : measR fr = k + 1 := by unfold measR; rw [h0]
    have e2 : measR fr2 = k := by
      unfold measR
      rw [p0, leftR]
      by_cases e : k = 0
      · rw [if_pos e]; exact e.symm
      · rw [if_neg e]
    show measR fr2 < measR fr
    omega

theorem func_R : Tryz.prog.funcs[225]? = some Tryz.f225 := by kernel_rfl
theorem nt_R : Tryz.f225.ntmps = 23 := by kernel_rfl
theorem res_R : Tryz.f225.results.toList = [.tmp 4] := by kernel_rfl
theorem head_R (gl : List Nat) (n : Nat) (σ : Store) (Q : HExit → HFrame → Store → Prop) : (er AP V0 Tryz.prog B0 noSums 5).code none headR (enterH 23 gl [.pad [] n, .int .u8 0]) σ Q = Q .normal ((enterH 23 gl [.pad [] n, .int .u8 0]).put (some 4) (.str [])) σ := by kernel_rfl

noncomputable def opsC : Array Oper := match tailR with
  | .seq (.region _ ops _) _ => ops
  | _ => #[]
theorem tailR_eq : tailR = .seq (.region 3 opsC false) .ret := by kernel_rfl
theorem sizeC : opsC.size = 2 := by kernel_rfl
theorem viewC : viewOps opsC 2 = [some (some 22, .move (.tmp 0), none), some (some 4, .assign (.tmp 22), none)] := by kernel_rfl

theorem trimR_ok (n : Nat) (hn0 : n ≠ 0) (hn : n ≤ 2 ^ 40) (σ : Store) : HCall Tryz.prog 225 [.pad [] n, .int .u8 0] σ (fun e σ' => e = .returned (.str []) ∧ σ' = σ) := by
  refine HCall.of_body func_R codeR_eq (by rw [nt_R]; simp) ?_
  rw [nt_R, res_R]
  refine HWp.seq (HWp.of_er noSums_ok (n := 5) ?_)
  rw [head_R]
  refine HWp.seq (HWp.block (loopR (σ := σ) ⟨rfl, ⟨n, hn, ?_⟩, ?_, rfl⟩ fun fr' n' g0 => ?_))
  · simp only [leftR, if_neg hn0, get_put]
    rfl
  · simp only [get_put]
    rfl
  · show HWp Tryz.prog none tailR _ fr' σ
    rw [tailR_eq]
    refine HWp.seq (HWp.region ?_)
    rw [sizeC]
    obtain ⟨o0, a0, b0, c0, d0⟩ := view_at viewC (i := 0) rfl
    obtain ⟨o1, a1, b1, c1, d1⟩ := view_at viewC (i := 1) rfl
    show HOps Tryz.prog opsC _ [0, 1] fr' σ
    refine HOps.step a0 (by rw [c0]; rfl) (want_none d0) (ev_move (.inl c0)) ?_
    rw [b0, fr_tmp (by omega) g0]
    refine HOps.step a1 (by rw [c1]; rfl) (want_none d1) (ev_move (.inr c1)) ?_
    rw [b1, fr_tmp (v := .str []) (by simp only [nt_put]; omega) (by simp [get_put])]
    refine HWp.ret ⟨.str [], ?_, rfl, rfl⟩
    have hlt : (4 : Nat) < 23 := by decide
    simp only [resultsH, resHs, resH, nt_put, n', if_pos hlt, get_put, if_true]

def sumTrimR (args : List HV) (σ : Store) : CallOut :=
  match args with
  | [.pad [] (n + 1), .int .u8 0] => if Nat.ble n 1000000 then some (.returned (.str []), σ) else none
  | _ => none

theorem sumTrimR_ok {args : List HV} {σ : Store} {e : HEnd} {σ' : Store} (h : sumTrimR args σ = some (e, σ')) : HCall Tryz.prog 225 args σ (fun e' σ'' => e' = e ∧ σ'' = σ') := by
  unfold sumTrimR at h
  split at h
  · rename_i n
    split at h
    · rename_i hn
      cases h
      have hn : n ≤ 1000000 := by simpa [Nat.ble_eq] using hn
      exact trimR_ok (n + 1) (by omega) (by omega) σ
    · cases h
  · cases h

end
end Go.HI
