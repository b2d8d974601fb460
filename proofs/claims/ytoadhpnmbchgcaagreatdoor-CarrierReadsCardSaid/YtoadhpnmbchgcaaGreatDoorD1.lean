/- The small functions: bounds and picks. -/
import Derived.Test.YtoadhpnmbchgcaaGreatDoorNd
namespace Go.HI
open Go Go.Proofs

/-! ### Summaries in a list -/
abbrev SumF := List HV → Store → Option SEnd
def SumFOK (P : Program) (f : FuncId) (g : SumF) : Prop := ∀ args σ s, g args σ = some s → ∀ R : HEnd → Store → Prop, s.all R → HCall P f args σ R

noncomputable def sumsOf (l : List (Nat × SumF)) : SumsS := fun f => List.rec (motive := fun _ => Option SumF) none (fun p _ ih => Bool.rec ih (some p.2) (Nat.beq f p.1)) l

theorem sumsOf_ok {P : Program} : ∀ {l : List (Nat × SumF)}, (∀ p ∈ l, SumFOK P p.1 p.2) → SumsSOK P (sumsOf l)
  | [], _, f, g, hg => by cases hg
  | p :: l, h, f, g, hg => by
    replace hg : (Bool.rec (motive := fun _ => Option SumF) (sumsOf l f) (some p.2) (Nat.beq f p.1)) = some g := hg
    cases hb : Nat.beq f p.1 with
    | false => rw [hb] at hg; exact sumsOf_ok (fun q hq => h q (List.mem_cons_of_mem _ hq)) f g hg
    | true =>
      rw [hb] at hg
      cases hg
      rw [Nat.eq_of_beq_eq_true hb]
      exact h p (List.mem_cons_self ..)

theorem VS_ok : VS.OK Tryz.prog := evalOpS_ok _

noncomputable def sumsN : SumsS := sumsOf []
theorem sumsN_ok : SumsSOK Tryz.prog sumsN := sumsOf_ok fun p hp => by cases hp

/-- A call that comes to one value. -/
def Comes (f : FuncId) (args : List HV) (v : HV) : Prop := ∀ σ, HCall Tryz.prog f args σ (fun e σ' => e = .returned v ∧ σ' = σ)

theorem Comes.sum {f : FuncId} {args : List HV} {v : HV} (h : Comes f args v) {σ : Store} {R : HEnd → Store → Prop} (hR : R (.returned v) σ) : HCall Tryz.prog f args σ R :=
  (h σ).mono fun e σ' ⟨h1, h2⟩ => by rw [h1, h2]; exact hR

def i64 (n : Int) : Prop := -9223372036854775808 ≤ n ∧ n < 9223372036854775808

theorem wrapI {n : Int} (h : i64 n) : IntKind.i64.wrap n = n := by
  obtain ⟨h1, h2⟩ := h
  unfold IntKind.wrap
  have e63 : (2 : Int) ^ (64 - 1) = 9223372036854775808 := by decide
  have e64 : (2 : Int) ^ 64 = 18446744073709551616 := by decide
  dsimp only [IntKind.bits, IntKind.signed]
  simp only [Bool.true_and, decide_eq_true_eq, e63, e64]
  split <;> omega

/-! ### From low to high -/
theorem t66 (a b c : Int) (K : HEnd → Prop) : (erS VS V0 Tryz.prog B0 D0 sumsN 60).fn 66 [.int .i64 a, .int .i64 b, .int .i64 c] emptyS (fun e _ => K e) =
  br (not (ltQ a b)) (K (.returned (.bool false))) (br (not (ltQ c a)) (K (.returned (.bool false))) (K (.returned (.bool true)))) := by kernel_rfl
theorem t151 (a b c : Int) (K : HEnd → Prop) : (erS VS V0 Tryz.prog B0 D0 sumsN 60).fn 151 [.int .i64 a, .int .i64 b, .int .i64 c] emptyS (fun e _ => K e) =
  br (not (ltQ a b)) (K (.returned (.bool false))) (br (not (ltQ c a)) (K (.returned (.bool false))) (K (.returned (.bool true)))) := by kernel_rfl
theorem t203 (a b c : Int) (K : HEnd → Prop) : (erS VS V0 Tryz.prog B0 D0 sumsN 60).fn 203 [.int .i64 a, .int .i64 b, .int .i64 c] emptyS (fun e _ => K e) =
  br (not (ltQ a b)) (K (.returned (.bool false))) (br (not (ltQ c a)) (K (.returned (.bool false))) (K (.returned (.bool true)))) := by kernel_rfl

theorem within_tree {a b c : Int} : br (not (ltQ a b)) (lf (· = .returned (.bool (inQ a b c))) (.returned (.bool false))) (br (not (ltQ c a)) (lf (· = .returned (.bool (inQ a b c))) (.returned (.bool false))) (lf (· = .returned (.bool (inQ a b c))) (.returned (.bool true)))) := by
  simp only [inQ, lf]
  cases ltQ a b <;> cases ltQ c a <;> exact ⟨rfl, rfl⟩

theorem within_66 (a b c : Int) : Comes 66 [.int .i64 a, .int .i64 b, .int .i64 c] (.bool (inQ a b c)) := hcall_of_tree VS_ok sumsN_ok rfl (by rw [t66]; exact within_tree)
theorem within_151 (a b c : Int) : Comes 151 [.int .i64 a, .int .i64 b, .int .i64 c] (.bool (inQ a b c)) := hcall_of_tree VS_ok sumsN_ok rfl (by rw [t151]; exact within_tree)
theorem within_203 (a b c : Int) : Comes 203 [.int .i64 a, .int .i64 b, .int .i64 c] (.bool (inQ a b c)) := hcall_of_tree VS_ok sumsN_ok rfl (by rw [t203]; exact within_tree)

/-- A truth value: two ways. -/
def ends (b : Bool) (σ : Store) : SEnd := .ite b (.one (.returned (.bool true)) σ) (.one (.returned (.bool false)) σ)
theorem ends_ok {b : Bool} {σ : Store} {R : HEnd → Store → Prop} (h : (ends b σ).all R) : R (.returned (.bool b)) σ := by cases b <;> exact h

def sumWithin : SumF := fun args σ => match args with
  | [.int _ a, .int _ b, .int _ c] => some (ends (inQ a b c) σ)
  | _ => none
def sumWithinX : SumF := fun args σ => match args with
  | [.int .i64 a, .int .i64 b, .int .i64 c] => some (ends (inQ a b c) σ)
  | _ => none

theorem sumWithin_ok {f : FuncId} (h : ∀ a b c, Comes f [.int .i64 a, .int .i64 b, .int .i64 c] (.bool (inQ a b c))) : SumFOK Tryz.prog f sumWithinX := by
  intro args σ s hs R hR
  unfold sumWithinX at hs
  split at hs
  · cases hs
    exact (h _ _ _).sum (ends_ok hR)
  · cases hs

/-! ### Picks -/
def pickZ (c n : Int) : Int := if c < 0 then (-(c + 1)) % n else c % n

theorem t15 (c n : Int) (K : HEnd → Prop) : (erS VS V0 Tryz.prog B0 D0 sumsN 60).fn 15 [.int .i64 c, .int .i64 n] emptyS (fun e _ => K e) =
  (br (ltQ c (.ofNat 0))
   ((n ≠ (.ofNat 0)) ∧ (K (.returned (.int .i64 (Int.tmod c n)))))
   ((n ≠ (.ofNat 0)) ∧ (K (.returned (.int .i64 (Int.tmod (IntKind.wrap .i64 ((.ofNat 0) - (wrapQ .i64 (addQ c (.ofNat 1))))) n)))))) := by kernel_rfl
theorem t56 (c n : Int) (K : HEnd → Prop) : (erS VS V0 Tryz.prog B0 D0 sumsN 60).fn 56 [.int .i64 c, .int .i64 n] emptyS (fun e _ => K e) =
  (br (ltQ c (.ofNat 0))
   ((n ≠ (.ofNat 0)) ∧ (K (.returned (.int .i64 (Int.tmod c n)))))
   ((n ≠ (.ofNat 0)) ∧ (K (.returned (.int .i64 (Int.tmod (IntKind.wrap .i64 ((.ofNat 0) - (wrapQ .i64 (addQ c (.ofNat 1))))) n)))))) := by kernel_rfl

theorem tmod_of_nonneg {c n : Int} (h : 0 ≤ c) : c.tmod n = c % n := Int.tmod_eq_emod_of_nonneg h

theorem pick_tree {c n : Int} (hc : i64 c) (hn : 0 < n) : (br (ltQ c (.ofNat 0))
   ((n ≠ (.ofNat 0)) ∧ (lf (· = .returned (.int .i64 (pickZ c n))) (.returned (.int .i64 (Int.tmod c n)))))
   ((n ≠ (.ofNat 0)) ∧ (lf (· = .returned (.int .i64 (pickZ c n))) (.returned (.int .i64 (Int.tmod (IntKind.wrap .i64 ((.ofNat 0) - (wrapQ .i64 (addQ c (.ofNat 1))))) n)))))) := by
  have hn0 : n ≠ Int.ofNat 0 := by simp; omega
  rw [br_iff, ltQ_eq, wrapQ_eq, addQ_eq]
  refine ⟨fun h => ⟨hn0, rfl, ?_⟩, fun h => ⟨hn0, rfl, ?_⟩⟩
  · have h : c < 0 := by simpa using h
    have e1 : IntKind.i64.wrap (c + Int.ofNat 1) = c + 1 := wrapI ⟨by have := hc.1; simp; omega, by have := hc.2; simp; omega⟩
    have e2 : IntKind.i64.wrap (Int.ofNat 0 - (c + 1)) = -(c + 1) := by
      rw [wrapI ⟨by have := hc.1; simp; omega, by have := hc.1; simp; omega⟩]
      simp
    rw [e1, e2, tmod_of_nonneg (by omega), pickZ, if_pos h]
  · have h : ¬ c < 0 := by simpa using h
    rw [tmod_of_nonneg (by omega), pickZ, if_neg h]

theorem pick_15 {c n : Int} (hc : i64 c) (hn : 0 < n) : Comes 15 [.int .i64 c, .int .i64 n] (.int .i64 (pickZ c n)) := hcall_of_tree VS_ok sumsN_ok rfl (by rw [t15]; exact pick_tree hc hn)
theorem pick_56 {c n : Int} (hc : i64 c) (hn : 0 < n) : Comes 56 [.int .i64 c, .int .i64 n] (.int .i64 (pickZ c n)) := hcall_of_tree VS_ok sumsN_ok rfl (by rw [t56]; exact pick_tree hc hn)

def pickOK (c n : Int) : Prop := i64 c ∧ 0 < n
def sumPick : SumF := fun args σ => match args with
  | [.int .i64 c, .int .i64 n] => some (.guard (pickOK c n) (.one (.returned (.int .i64 (pickZ c n))) σ))
  | _ => none
theorem sumPick_ok {f : FuncId} (h : ∀ {c n : Int}, i64 c → 0 < n → Comes f [.int .i64 c, .int .i64 n] (.int .i64 (pickZ c n))) : SumFOK Tryz.prog f sumPick := by
  intro args σ s hs R hR
  unfold sumPick at hs
  split at hs
  · cases hs
    obtain ⟨⟨h1, h2⟩, h3⟩ : (_ ∧ _) ∧ _ := hR
    exact (h h1 h2).sum h3
  · cases hs

theorem pickZ_bounds {c n : Int} (hn : 0 < n) : 0 ≤ pickZ c n ∧ pickZ c n < n := by
  unfold pickZ
  split
  · exact ⟨Int.emod_nonneg _ (by omega), Int.emod_lt_of_pos _ hn⟩
  · exact ⟨Int.emod_nonneg _ (by omega), Int.emod_lt_of_pos _ hn⟩

end Go.HI

/- What is formed. -/
namespace Go.HI
open Go Go.Proofs
noncomputable section

def claimQ (cn cf ct ch ca : Int) : Bool := and (inQ cn 0 99999999) (and (inQ cf 0 7) (and (inQ ct 0 7) (and (not (eqQ cf ct)) (and (inQ ch 0 63) (inQ ca 0 10000000)))))
def lineQ (k a h : Int) : Bool := and (inQ k 1 7) (and (inQ a 0 10000000) (Bool.rec (eqQ h (-1)) (inQ h 0 63) (inQ k 1 2)))
def sumClaim : SumF := fun args σ => match args with
  | [.agg [.int .i64 cn, .int .i64 cf, .int .i64 ct, .int .i64 ch, .int .i64 ca, .bool _]] => some (ends (claimQ cn cf ct ch ca) σ)
  | _ => none
def sumLine : SumF := fun args σ => match args with
  | [.agg [.int .i64 k, .int .i64 a, .int .i64 h]] => some (ends (lineQ k a h) σ)
  | _ => none
def sums1S : SumsS := sumsOf [(66, sumWithinX), (151, sumWithinX), (203, sumWithinX), (15, sumPick), (56, sumPick)]
def sums2S : SumsS := sumsOf [(66, sumWithinX), (151, sumWithinX), (203, sumWithinX), (15, sumPick), (56, sumPick), (149, sumClaim), (133, sumLine)]
def VR : OpEvS := evalOpS Tryz.prog (fun o => match o.op with | .indexAddr t _ _ => Nat.beq t 244 | _ => false)
def noticeHV (so ki nu lk la lh cn cf ct ch ca : Int) (cb : Bool) (ek ea er : Int) : HV := .agg [.int .i64 so, .int .i64 ki, .int .i64 nu, .int .i64 lk, .int .i64 la, .int .i64 lh, .int .i64 cn, .int .i64 cf, .int .i64 ct, .int .i64 ch, .int .i64 ca, .bool cb, .int .i64 ek, .int .i64 ea, .int .i64 er]

theorem sums1S_ok : SumsSOK Tryz.prog sums1S := sumsOf_ok fun p hp => by
  simp only [List.mem_cons, List.not_mem_nil, or_false] at hp
  rcases hp with rfl | rfl | rfl | rfl | rfl
  · exact sumWithin_ok within_66
  · exact sumWithin_ok within_151
  · exact sumWithin_ok within_203
  · exact sumPick_ok pick_15
  · exact sumPick_ok pick_56

def goal149 (cn cf ct ch ca : Int) (cb : Bool) (K : HEnd → Prop) : Prop := (erS VS V0 Tryz.prog B0 D0 sums1S 60).fn 149 [.agg [.int .i64 cn, .int .i64 cf, .int .i64 ct, .int .i64 ch, .int .i64 ca, .bool cb]] emptyS (fun e _ => K e)
theorem t149 (cn : Int) (cf : Int) (ct : Int) (ch : Int) (ca : Int) (cb : Bool) (K : Go.HI.HEnd → Prop) : goal149 cn cf ct ch ca cb K = (br (inQ cn 0 99999999)
 (K (.returned (HV.bool .false)))
 (br (inQ cf 0 7)
 (K (.returned (HV.bool .false)))
 (br (inQ ct 0 7)
 (K (.returned (HV.bool .false)))
 (br (Bool.not (eqQ cf ct))
 (K (.returned (HV.bool .false)))
 (br (inQ ch 0 63)
 (K (.returned (HV.bool .false)))
 (br (inQ ca 0 10000000)
 (K (.returned (HV.bool .false)))
 (K (.returned (HV.bool .true))))))))) := by kernel_rfl
theorem comes_149 (cn cf ct ch ca : Int) (cb : Bool) : Comes 149 [.agg [.int .i64 cn, .int .i64 cf, .int .i64 ct, .int .i64 ch, .int .i64 ca, .bool cb]] (.bool (claimQ cn cf ct ch ca)) := hcall_of_tree VS_ok sums1S_ok rfl (by
  show goal149 cn cf ct ch ca cb (lf _)
  rw [t149]
  show br (inQ cn 0 99999999) _ (br (inQ cf 0 7) _ (br (inQ ct 0 7) _ (br (not (eqQ cf ct)) _ (br (inQ ch 0 63) _ (br (inQ ca 0 10000000) _ _)))))
  unfold claimQ
  cases inQ cn 0 99999999 <;> first | exact ⟨rfl, rfl⟩ | skip
  cases inQ cf 0 7 <;> first | exact ⟨rfl, rfl⟩ | skip
  cases inQ ct 0 7 <;> first | exact ⟨rfl, rfl⟩ | skip
  cases eqQ cf ct <;> first | exact ⟨rfl, rfl⟩ | skip
  cases inQ ch 0 63 <;> first | exact ⟨rfl, rfl⟩ | skip
  cases inQ ca 0 10000000 <;> exact ⟨rfl, rfl⟩)

def goal133 (k a h : Int) (K : HEnd → Prop) : Prop := (erS VR V0 Tryz.prog B0 D0 sums1S 60).fn 133 [.agg [.int .i64 k, .int .i64 a, .int .i64 h]] emptyS (fun e _ => K e)
theorem t133 (k : Int) (a : Int) (h : Int) (K : Go.HI.HEnd → Prop) : goal133 k a h K = (br (inQ k 1 7)
 (K (.returned (HV.bool .false)))
 (br (inQ a 0 10000000)
 (K (.returned (HV.bool .false)))
 (((HV.int .i64 k) = (HV.int .i64 k)) ∧ (((k = 7) ∨ ((k = 6) ∨ ((k = 5) ∨ ((k = 4) ∨ ((k = 3) ∨ ((k = 2) ∨ ((k = 1) ∨ ((k = 0) ∨ False)))))))) ∧ (((k = 7) → (br (eqQ h (-1))
 (K (.returned (HV.bool .false)))
 (K (.returned (HV.bool .true))))) ∧ (((k = 6) → (br (eqQ h (-1))
 (K (.returned (HV.bool .false)))
 (K (.returned (HV.bool .true))))) ∧ (((k = 5) → (br (eqQ h (-1))
 (K (.returned (HV.bool .false)))
 (K (.returned (HV.bool .true))))) ∧ (((k = 4) → (br (eqQ h (-1))
 (K (.returned (HV.bool .false)))
 (K (.returned (HV.bool .true))))) ∧ (((k = 3) → (br (eqQ h (-1))
 (K (.returned (HV.bool .false)))
 (K (.returned (HV.bool .true))))) ∧ (((k = 2) → (br (inQ h 0 63)
 (K (.returned (HV.bool .false)))
 (K (.returned (HV.bool .true))))) ∧ (((k = 1) → (br (inQ h 0 63)
 (K (.returned (HV.bool .false)))
 (K (.returned (HV.bool .true))))) ∧ (((k = 0) → (br (eqQ h (-1))
 (K (.returned (HV.bool .false)))
 (K (.returned (HV.bool .true))))) ∧ True)))))))))))) := by kernel_rfl
theorem comes_133 (k a h : Int) : Comes 133 [.agg [.int .i64 k, .int .i64 a, .int .i64 h]] (.bool (lineQ k a h)) := hcall_of_tree (V := VR) (evalOpS_ok _) sums1S_ok rfl (by
  show goal133 k a h (lf _)
  rw [t133]
  show br (inQ k 1 7) _ (br (inQ a 0 10000000) _ _)
  unfold lineQ
  rw [br_iff]
  refine ⟨fun hk => ?_, fun hk => by rw [hk]; exact ⟨rfl, rfl⟩⟩
  rw [br_iff]
  refine ⟨fun ha => ?_, fun ha => by rw [hk, ha]; exact ⟨rfl, rfl⟩⟩
  rw [hk, ha]
  have hk' := inQ_iff.1 hk
  have hc : k = 1 ∨ k = 2 ∨ k = 3 ∨ k = 4 ∨ k = 5 ∨ k = 6 ∨ k = 7 := by omega
  have no : ∀ (m n : Int) (X : Prop), m ≠ n → m = n → X := fun m n X h1 h2 => absurd h2 h1
  rcases hc with rfl | rfl | rfl | rfl | rfl | rfl | rfl
  all_goals
    refine ⟨rfl, by simp, ?_⟩
    refine ⟨?_, ?_, ?_, ?_, ?_, ?_, ?_, ?_, trivial⟩
    all_goals first
      | exact no _ _ _ (by decide)
      | (intro _
         first
           | (show br (inQ h 0 63) _ _; cases inQ h 0 63 <;> exact ⟨rfl, rfl⟩)
           | (show br (eqQ h (-1)) _ _; cases eqQ h (-1) <;> exact ⟨rfl, rfl⟩)))

theorem sums2S_ok : SumsSOK Tryz.prog sums2S := sumsOf_ok fun p hp => by
  simp only [List.mem_cons, List.not_mem_nil, or_false] at hp
  rcases hp with rfl | rfl | rfl | rfl | rfl | rfl | rfl
  · exact sumWithin_ok within_66
  · exact sumWithin_ok within_151
  · exact sumWithin_ok within_203
  · exact sumPick_ok pick_15
  · exact sumPick_ok pick_56
  · intro args σ s hs R hR
    simp only [sumClaim] at hs
    split at hs
    · cases hs
      exact (comes_149 _ _ _ _ _ _).sum (ends_ok hR)
    · cases hs
  · intro args σ s hs R hR
    simp only [sumLine] at hs
    split at hs
    · cases hs
      exact (comes_133 _ _ _).sum (ends_ok hR)
    · cases hs

end
end Go.HI

/- Notices that are formed. -/
namespace Go.HI
open Go Go.Proofs
noncomputable section

def eventQ (ek ea er ca : Int) : Bool := and (inQ ek 1 6) (and (inQ ea ca 20000000) (Bool.rec (Bool.rec (inQ er 0 0) (inQ er 1 9) (eqQ ek 6)) (inQ er 1 9) (eqQ ek 2)))
def formedQ (so ki nu lk la lh cn cf ct ch ca : Int) (cb : Bool) (ek ea er : Int) : Bool :=
  and (inQ so 0 7) (and (inQ nu 0 99999999) (Bool.rec (Bool.rec (Bool.rec false
    (and (and (lk == 0) (and (la == 0) (lh == 0))) (and (eqQ cn nu) (and (eqQ ch 0) (and (not cb) (and (claimQ cn cf ct ch ca) (eventQ ek ea er ca))))))
    (eqQ ki 3))
    (and (and (lk == 0) (and (la == 0) (lh == 0))) (and (and (ek == 0) (and (ea == 0) (er == 0))) (and (eqQ cn nu) (claimQ cn cf ct ch ca))))
    (eqQ ki 2))
    (and (and (cn == 0) (and (cf == 0) (and (ct == 0) (and (ch == 0) (and (ca == 0) (cb == false)))))) (and (and (ek == 0) (and (ea == 0) (er == 0))) (lineQ lk la lh)))
    (eqQ ki 1)))
def sumFormed : SumF := fun args σ => match args with
  | [.agg [.int .i64 so, .int .i64 ki, .int .i64 nu, .int .i64 lk, .int .i64 la, .int .i64 lh, .int .i64 cn, .int .i64 cf, .int .i64 ct, .int .i64 ch, .int .i64 ca, .bool cb, .int .i64 ek, .int .i64 ea, .int .i64 er]] => some (ends (formedQ so ki nu lk la lh cn cf ct ch ca cb ek ea er) σ)
  | _ => none

def goal57 (so ki nu lk la lh cn cf ct ch ca : Int) (cb : Bool) (ek ea er : Int) (K : HEnd → Prop) : Prop := (erS VS V0 Tryz.prog B0 D0 sums2S 60).fn 57 [noticeHV so ki nu lk la lh cn cf ct ch ca cb ek ea er] emptyS (fun e _ => K e)
theorem t57 (so : Int) (ki : Int) (nu : Int) (lk : Int) (la : Int) (lh : Int) (cn : Int) (cf : Int) (ct : Int) (ch : Int) (ca : Int) (cb : Bool) (ek : Int) (ea : Int) (er : Int) (K : Go.HI.HEnd → Prop) : goal57 so ki nu lk la lh cn cf ct ch ca cb ek ea er K = (br (inQ so 0 7)
 (K (.returned (HV.bool .false)))
 (br (inQ nu 0 99999999)
 (K (.returned (HV.bool .false)))
 (br (eqQ ki 1)
 (br (eqQ ki 2)
 (br (eqQ ki 3)
 (K (.returned (HV.bool .false)))
 (br (eqQ cn nu)
 (br (Bool.and .true (Bool.and .true (Bool.and .true (Bool.and (Bool.and (lk == 0) (Bool.and (la == 0) (Bool.and (lh == 0) .true))) .true))))
 (K (.returned (HV.bool .false)))
 (K (.returned (HV.bool .false))))
 (br (eqQ ch 0)
 (br (Bool.and .true (Bool.and .true (Bool.and .true (Bool.and (Bool.and (lk == 0) (Bool.and (la == 0) (Bool.and (lh == 0) .true))) .true))))
 (K (.returned (HV.bool .false)))
 (K (.returned (HV.bool .false))))
 (br (Bool.not cb)
 (br (Bool.and .true (Bool.and .true (Bool.and .true (Bool.and (Bool.and (lk == 0) (Bool.and (la == 0) (Bool.and (lh == 0) .true))) .true))))
 (K (.returned (HV.bool .false)))
 (K (.returned (HV.bool .false))))
 (br (Bool.and .true (Bool.and .true (Bool.and .true (Bool.and (Bool.and (lk == 0) (Bool.and (la == 0) (Bool.and (lh == 0) .true))) .true))))
 (K (.returned (HV.bool .false)))
 (br (claimQ cn cf ct ch ca)
 (K (.returned (HV.bool .false)))
 (br (eqQ ek 2)
 (br (eqQ ek 6)
 (br (inQ ek 1 6)
 (K (.returned (HV.bool .false)))
 (br (inQ ea ca 20000000)
 (K (.returned (HV.bool .false)))
 (br (inQ er 0 0)
 (K (.returned (HV.bool .false)))
 (K (.returned (HV.bool .true))))))
 (br (inQ ek 1 6)
 (K (.returned (HV.bool .false)))
 (br (inQ ea ca 20000000)
 (K (.returned (HV.bool .false)))
 (br (inQ er 1 9)
 (K (.returned (HV.bool .false)))
 (K (.returned (HV.bool .true)))))))
 (br (inQ ek 1 6)
 (K (.returned (HV.bool .false)))
 (br (inQ ea ca 20000000)
 (K (.returned (HV.bool .false)))
 (br (inQ er 1 9)
 (K (.returned (HV.bool .false)))
 (K (.returned (HV.bool .true)))))))))))))
 (br (Bool.and .true (Bool.and .true (Bool.and .true (Bool.and (Bool.and (lk == 0) (Bool.and (la == 0) (Bool.and (lh == 0) .true))) (Bool.and .true (Bool.and (Bool.and (ek == 0) (Bool.and (ea == 0) (Bool.and (er == 0) .true))) .true))))))
 (K (.returned (HV.bool .false)))
 (br (eqQ cn nu)
 (K (.returned (HV.bool .false)))
 (br (claimQ cn cf ct ch ca)
 (K (.returned (HV.bool .false)))
 (K (.returned (HV.bool .true)))))))
 (br (Bool.and .true (Bool.and .true (Bool.and .true (Bool.and .true (Bool.and (Bool.and (cn == 0) (Bool.and (cf == 0) (Bool.and (ct == 0) (Bool.and (ch == 0) (Bool.and (ca == 0) (Bool.and (cb == .false) .true)))))) (Bool.and (Bool.and (ek == 0) (Bool.and (ea == 0) (Bool.and (er == 0) .true))) .true))))))
 (K (.returned (HV.bool .false)))
 (br (lineQ lk la lh)
 (K (.returned (HV.bool .false)))
 (K (.returned (HV.bool .true)))))))) := by kernel_rfl

theorem comes_57 (so ki nu lk la lh cn cf ct ch ca : Int) (cb : Bool) (ek ea er : Int) : Comes 57 [noticeHV so ki nu lk la lh cn cf ct ch ca cb ek ea er] (.bool (formedQ so ki nu lk la lh cn cf ct ch ca cb ek ea er)) := hcall_of_tree VS_ok sums2S_ok rfl (by
  show goal57 so ki nu lk la lh cn cf ct ch ca cb ek ea er (lf _)
  rw [t57]
  unfold formedQ
  cases inQ so 0 7 <;> first | exact ⟨rfl, rfl⟩ | skip
  cases inQ nu 0 99999999 <;> first | exact ⟨rfl, rfl⟩ | skip
  cases eqQ ki 1
  · cases eqQ ki 2
    · cases eqQ ki 3 <;> first | exact ⟨rfl, rfl⟩ | skip
      cases lk == 0 <;> cases la == 0 <;> cases lh == 0 <;> cases eqQ cn nu <;> first | exact ⟨rfl, rfl⟩ | skip
      all_goals cases eqQ ch 0 <;> first | exact ⟨rfl, rfl⟩ | skip
      all_goals cases cb <;> first | exact ⟨rfl, rfl⟩ | skip
      all_goals unfold eventQ
      all_goals cases claimQ cn cf ct ch ca <;> first | exact ⟨rfl, rfl⟩ | skip
      all_goals cases eqQ ek 2 <;> cases eqQ ek 6 <;> cases inQ ek 1 6 <;> first | exact ⟨rfl, rfl⟩ | skip
      all_goals cases inQ ea ca 20000000 <;> first | exact ⟨rfl, rfl⟩ | skip
      all_goals cases inQ er 0 0 <;> cases inQ er 1 9 <;> exact ⟨rfl, rfl⟩
    · cases lk == 0 <;> cases la == 0 <;> cases lh == 0 <;> first | exact ⟨rfl, rfl⟩ | skip
      all_goals cases ek == 0 <;> cases ea == 0 <;> cases er == 0 <;> first | exact ⟨rfl, rfl⟩ | skip
      all_goals cases eqQ cn nu <;> cases claimQ cn cf ct ch ca <;> exact ⟨rfl, rfl⟩
  · cases cn == 0 <;> cases cf == 0 <;> cases ct == 0 <;> cases ch == 0 <;> cases ca == 0 <;> first | exact ⟨rfl, rfl⟩ | skip
    all_goals cases cb <;> cases ek == 0 <;> cases ea == 0 <;> cases er == 0 <;> first | exact ⟨rfl, rfl⟩ | skip
    all_goals cases lineQ lk la lh <;> exact ⟨rfl, rfl⟩)

theorem sumFormed_ok : SumFOK Tryz.prog 57 sumFormed := by
  intro args σ s hs R hR
  unfold sumFormed at hs
  split at hs
  · cases hs
    exact (comes_57 _ _ _ _ _ _ _ _ _ _ _ _ _ _ _).sum (ends_ok hR)
  · cases hs

end
end Go.HI
