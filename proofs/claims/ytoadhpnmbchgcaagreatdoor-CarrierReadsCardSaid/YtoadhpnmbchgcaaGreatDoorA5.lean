/- The evaluator is sound. -/
import Derived.Test.YtoadhpnmbchgcaaGreatDoorA4
namespace Go.HI
noncomputable section

variable {P : Program} {B : FuncId → Bool} {S : Sums}

theorem stayB_ok {ops : Array Oper} {σ : Store} {p : Float} (h : stayB P ops σ p = true) : stayOne P ops σ p := by
  unfold stayB at h
  simp only [evalOpF_eq] at h
  split at h
  · rename_i o ho
    refine ⟨o, ho, ?_⟩
    split at h
    · rename_i hg
      try rw [hg]
      simp only [Bool.and_eq_true] at h
      obtain ⟨hq, h2⟩ := h
      split at h2
      · rename_i v' σ' he
        have := evalOp_same hq he
        subst this
        have := HV.beq_eq _ _ h2
        subst this
        exact he
      · cases h2
    · rename_i b hg
      try rw [hg]
      exact lateB_ok h
  · cases h

theorem evDraw_ok {call : HV → List HV → Store → CallOut} (hc : CallOK P call) {ops : Array Oper} {M : List Nat} {frB : HFrame} {Q : HExit → HFrame → Store → Prop} : ∀ (L : List Nat) (fr : HFrame) (σ : Store) (fl : List Float) (x : HExit) (fr' : HFrame) (σ' : Store),
    evDraw P call ops M frB L fr σ fl = some (x, fr', σ') → Q x fr' σ' → HDraw P ops (xOf P ops) (yOf ops) M frB Q L fr σ fl
  | [], fr, σ, fl, x, fr', σ', h, hq => by
    simp only [evDraw, Option.some.injEq, Prod.mk.injEq] at h
    obtain ⟨rfl, rfl, rfl⟩ := h
    exact hq
  | i :: rest, fr, σ, fl, x, fr', σ', h, hq => by
    rw [evDraw] at h
    simp only [evalOpF_eq] at h
    rw [HDraw]
    split at h
    · cases h
    rename_i o ho
    try rw [ho]
    try simp only
    split at h
    · cases h
    · rename_i hw
      try rw [hw]
      exact evDraw_ok hc rest _ _ _ x fr' σ' h hq
    · rename_i hw
      try rw [hw]
      try simp only
      have hX : xOf P ops i = (!isQuiet P o.op && !isAlloc o.op) := by simp [xOf, ho]
      have hY : yOf ops i = isAlloc o.op := by simp [yOf, ho]
      rw [hX, hY]
      split at h
      · rename_i ha
        simp only [ha, Bool.not_true, Bool.and_false, Bool.false_eq_true, if_false, if_true]
        split at h
        · rename_i v σ1 he
          split at h
          · rename_i hst
            simp only [Bool.and_eq_true, List.all_eq_true] at hst
            exact ⟨v, σ1, σ.next, alloc_ghost ha he hst.1, lateB_ok hst.1, fun p hp => stayB_ok (hst.2 p hp), evDraw_ok hc rest _ _ _ x fr' σ' h hq⟩
          · cases h
        · cases h
      · rename_i ha
        have ha : isAlloc o.op = false := by simpa using ha
        simp only [ha, Bool.not_false, Bool.and_true, Bool.false_eq_true, if_false]
        split at h
        · rename_i hqt
          simp only [hqt, Bool.not_true, Bool.false_eq_true, if_false]
          split at h
          · rename_i v σ1 he
            have := evalOp_same hqt he
            subst this
            exact ⟨v, he, evDraw_ok hc rest _ _ _ x fr' σ' h hq⟩
          · cases h
        · rename_i hqt
          have hqt : isQuiet P o.op = false := by simpa using hqt
          simp only [hqt, Bool.not_false, if_true]
          split at h
          · rename_i v σ1 hs
            split at h
            · rename_i hst
              rw [List.all_eq_true] at hst
              refine evStep_ok hc hs ⟨fun p hp => ?_, evDraw_ok hc rest _ _ _ x fr' σ' h hq⟩
              have := hst p hp
              simp only [Bool.or_eq_true] at this
              rcases this with h1 | h1
              · exact .inl h1
              · exact .inr (stayB_ok h1)
            · cases h
          · rename_i v σ1 hs
            cases h
            exact evStep_ok hc hs hq
          · cases h

theorem evCall_ok {E : Ev} (hB : ∀ f, B f = true → hasBody P f = true) (h1 : CodeOK P E.code) (h2 : FnOK P E.fn) : CallOK P (evCall E B) := by
  intro fv args σ e σ' h R hR
  unfold evCall at h
  split at h
  · rename_i f first cap args σ
    split at h
    · rename_i hb
      exact HCall.value (hB _ hb) (h2 _ _ _ _ _ h R hR)
    · cases h
  · rename_i b args σ
    split at h
    · rename_i st pend lf ps assign body hb
      split at h
      · rename_i hn
        split at h
        · rename_i fr1 σ1 ha
          split at h
          · rename_i pend1 lf1 ps1 as1 bo1 hb1
            split at h
            · rename_i x fr2 σ2 hbody
              split at h
              · rename_i j st2 pend2 lf2 ps2 as2 bo2 hj hb2
                cases h
                refine HCallV.yield hb hn (h1 _ _ _ _ _ _ _ ha _ ⟨trivial, _, _, _, _, _, hb1, ?_⟩)
                exact h1 _ _ _ _ _ _ _ hbody _ ⟨j, _, _, _, _, _, _, hj, hb2, hR⟩
              · cases h
            · cases h
          · cases h
        · cases h
      · cases h
    · cases h
  · cases h

theorem evFn_ok {E : Ev} (hS : ∀ f g, S f = some g → ∀ args σ e σ', g args σ = some (e, σ') → ∀ R : HEnd → Store → Prop, R e σ' → HCall P f args σ R) (h1 : CodeOK P E.code) : FnOK P (evFn P S E) := by
  intro f args σ e σ' h R hR
  unfold evFn at h
  split at h
  · rename_i g hg
    exact hS f g hg args σ e σ' h R hR
  · split at h
    · cases h
    rename_i fn hf
    split at h
    · cases h
    rename_i c hb
    split at h
    · rename_i hn
      refine HCall.of_body hf hb hn ?_
      split at h
      · rename_i fr1 σ1 hc
        rw [Option.map_eq_some_iff] at h
        obtain ⟨v, hv, h⟩ := h
        cases h
        exact h1 _ _ _ _ _ _ _ hc _ ⟨v, hv, hR⟩
      · rename_i fr1 σ1 hc
        rw [Option.map_eq_some_iff] at h
        obtain ⟨v, hv, h⟩ := h
        cases h
        exact h1 _ _ _ _ _ _ _ hc _ ⟨v, hv, hR⟩
      · rename_i v fr1 σ1 hc
        cases h
        exact h1 _ _ _ _ _ _ _ hc _ hR
      · cases h
    · cases h

theorem ev_ok (hm : P.follows .mixedOrders = true) (hB : ∀ f, B f = true → hasBody P f = true) (hS : ∀ f g, S f = some g → ∀ args σ e σ', g args σ = some (e, σ') → ∀ R : HEnd → Store → Prop, R e σ' → HCall P f args σ R) :
    ∀ n m, m ≤ n → CodeOK P (ev P B S m).code ∧ FnOK P (ev P B S m).fn := by
  intro n
  induction n with
  | zero =>
    intro m hmn
    have : m = 0 := by omega
    subst this
    exact ⟨fun r c fr σ x fr' σ' h => by simp [ev] at h, fun f args σ e σ' h => by simp [ev] at h⟩
  | succ n ih =>
    intro m hmn
    by_cases hle : m ≤ n
    · exact ih m hle
    have : m = n + 1 := by omega
    subst this
    obtain ⟨h1, h2⟩ := ih n (Nat.le_refl _)
    have hcall := evCall_ok hB h1 h2
    refine ⟨?_, evFn_ok hS h1⟩
    intro r c fr σ x fr' σ' h Q hq
    change evCode P B (ev P B S n) r c fr σ = some (x, fr', σ') at h
    cases c with
    | skip => simp only [evCode] at h; cases h; exact HWp.skip hq
    | label l => simp only [evCode] at h; cases h; exact HWp.label hq
    | exit id => simp only [evCode] at h; cases h; exact HWp.exit hq
    | goto l => simp only [evCode] at h; cases h; exact HWp.goto hq
    | ret => simp only [evCode] at h; cases h; exact HWp.ret hq
    | seq a b =>
      simp only [evCode] at h
      refine HWp.seq ?_
      split at h
      · rename_i fr1 σ1 ha
        exact h1 _ _ _ _ _ _ _ ha _ (h1 _ _ _ _ _ _ _ h Q hq)
      · rename_i hne
        refine h1 _ _ _ _ _ _ _ h _ ?_
        cases x <;> first | exact hq | exact absurd h (hne _ _)
    | cond c a b =>
      simp only [evCode] at h
      split at h
      · rename_i hc
        exact HWp.cond hc (h1 _ _ _ _ _ _ _ h Q hq)
      · rename_i hc
        exact HWp.cond hc (h1 _ _ _ _ _ _ _ h Q hq)
      · cases h
    | block id c =>
      simp only [evCode] at h
      refine HWp.block ?_
      split at h
      · rename_i i fr1 σ1 hc
        split at h
        · rename_i hid
          cases h
          exact h1 _ _ _ _ _ _ _ hc _ (by simp only [HExit.inBlock]; rw [if_pos hid]; exact hq)
        · rename_i hid
          cases h
          exact h1 _ _ _ _ _ _ _ hc _ (by simp only [HExit.inBlock]; rw [if_neg hid]; exact hq)
      · rename_i hne
        refine h1 _ _ _ _ _ _ _ h _ ?_
        cases x <;> first | exact hq | exact absurd h (hne _ _ _)
    | loop c =>
      classical
      let I : HFrame → Store → Nat → Prop := fun fr σ m => m ≤ n + 1 ∧ (ev P B S m).code r (.loop c) fr σ = some (x, fr', σ')
      let μ : HFrame → Store → Nat := fun fr σ => if h : ∃ m, I fr σ m then Classical.choose (least h) else 0
      have hμ : ∀ fr σ, (∃ m, I fr σ m) → I fr σ (μ fr σ) ∧ ∀ k, I fr σ k → μ fr σ ≤ k := fun fr σ h => by
        simp only [μ, dif_pos h]
        exact Classical.choose_spec (least h)
      refine HWp.loop (fun fr σ => ∃ m, I fr σ m) μ ⟨n + 1, Nat.le_refl _, h⟩ ?_
      intro fr0 σ0 hI
      obtain ⟨hI1, _⟩ := hμ fr0 σ0 hI
      generalize μ fr0 σ0 = m at hI1
      obtain ⟨hmle, hev⟩ := hI1
      cases m with
      | zero => simp [ev] at hev
      | succ m =>
        change evCode P B (ev P B S m) r (.loop c) fr0 σ0 = some (x, fr', σ') at hev
        simp only [evCode] at hev
        obtain ⟨g1, _⟩ := ih m (by omega)
        split at hev
        · rename_i fr1 σ1 hc
          have hI2 : ∃ m, I fr1 σ1 m := ⟨m, by omega, hev⟩
          refine g1 _ _ _ _ _ _ _ hc _ ⟨hI2, ?_⟩
          have := (hμ fr1 σ1 hI2).2 m ⟨by omega, hev⟩
          omega
        · rename_i hne
          refine g1 _ _ _ _ _ _ _ hev _ ?_
          cases x <;> first | exact hq | exact absurd hev (hne _ _)
    | region id ops draw =>
      cases draw with
      | false =>
        simp only [evCode] at h
        refine HWp.region ?_
        have := evOps_ok hcall ops.toList 0 fr σ x fr' σ' (by simp) h hq
        rw [List.range_eq_range']
        simpa using this
      | true =>
        simp only [evCode] at h
        split at h
        · rename_i hd
          unfold drawB at hd
          rw [Bool.and_eq_true] at hd
          exact HWp.draw hm hd.1 hd.2 (evDraw_ok hcall _ _ _ _ _ _ _ h hq)
        · cases h
    | rangeFunc g ps assign body =>
      simp only [evCode] at h
      split at h
      · rename_i f first cap hg
        split at h
        · rename_i hb
          refine HWp.rangeFunc hg (hB f hb) ?_
          split at h
          · rename_i v σ2 hf
            refine h2 _ _ _ _ _ hf _ ?_
            split at h
            · rename_i st pend lf ps' as bo hblk
              split at h
              · cases h
              rename_i hst
              have hst' : st ≠ .busy := by rintro rfl; exact hst rfl
              refine ⟨st, pend, lf, ps', as, bo, hblk, hst', ?_⟩
              split at h
              · cases h; exact hq
              · exact h1 _ _ _ _ _ _ _ h Q hq
            · cases h
          · rename_i v σ2 hf
            cases h
            exact h2 _ _ _ _ _ hf _ hq
          · cases h
        · cases h
      · cases h
    | _ => simp only [evCode, reduceCtorEq] at h

end
end Go.HI
