/- The operations over the abstract heap are the machine's: all together. -/
import Derived.Test.YtoadhpnmbchgcaaGreatDoorA2
import Derived.RangeFuncRecord
namespace Go.HI
noncomputable section

variable {P : Program} {o : Oper} {fr : HFrame} {σ : Store}

theorem args_one {α β : Type} {f : α → β} {args : Array α} {x : β} (h : args.toList.map f = [x]) : ∃ a, args = #[a] ∧ f a = x := by
  cases args with
  | mk l =>
    cases l with
    | nil => simp at h
    | cons a l =>
      cases l with
      | nil => simp at h; exact ⟨a, rfl, h⟩
      | cons b l => simp at h

theorem args_two {α β : Type} {f : α → β} {args : Array α} {x y : β} (h : args.toList.map f = [x, y]) : ∃ a b, args = #[a, b] ∧ f a = x ∧ f b = y := by
  cases args with
  | mk l =>
    cases l with
    | nil => simp at h
    | cons a l =>
      cases l with
      | nil => simp at h
      | cons b l =>
        cases l with
        | nil => simp at h; exact ⟨a, b, rfl, h⟩
        | cons c l => simp at h

theorem flatten_one (n : Nat) {z : List HV} (h : z.length = 1) : List.replicate n (z.getD 0 .any) = (List.replicate n z).flatten := by
  match z, h with
  | [a], _ =>
    induction n with
    | zero => rfl
    | succ n ih => simp only [List.replicate_succ, List.flatten_cons, ← ih]; rfl

theorem isSome_of_not {α : Type} {x : Option α} (h : ¬ x.isNone = true) : x.isSome = true := by cases x <;> simp_all


theorem appendH_ok {args : Array Operand} {argTypes : Array TypeId} {x y : HV} {r : OpRes} (ho : o.op = .call { callee := .builtin .append, args, argTypes }) (ha : args.toList.map fr.eval = [x, y]) (h : appendH P argTypes x y σ = some r) : OpOK P o fr σ r := by
  obtain ⟨oa, ob, hab, rfl, rfl⟩ := args_two ha
  unfold appendH at h
  simp only [Option.bind_eq_bind, Option.bind_eq_some_iff, Option.pure_def, Option.bind_none] at h
  obtain ⟨st, ht0, u, hu, h⟩ := h
  split at h
  case h_2 => cases h
  rename_i elem
  split at h
  case h_2 => cases h
  rename_i xt ht1
  have key : ∀ {xd : TypeDesc}, P.underlying xt = some xd → (∀ k, xd ≠ .int k) → (match fr.eval oa with
      | .slice base sLen esz => (lenH (fr.eval ob)).bind fun n =>
        if (P.info? elem).isNone then none else
        if n = 0 then some (OpRes.val (fr.eval oa) σ) else
        (elems σ (szOf P elem) n (fr.eval ob)).bind fun ys => (zeroHV P elem).bind fun z =>
        if z.cells.length ≠ szOf P elem then none else if !ys.all scalarHV then none else
        if (2 * (sLen + n) + 768) * P.bytesOf elem > 2 ^ 48 ∨ sLen + n > 2 ^ 40 then none else
        (match base with
        | none => if sLen = 0 then some (.val (.slice (some (σ.next, 0)) n (szOf P elem)) (σ.pushArr ys)) else none
        | some (b, o) => if esz ≠ szOf P elem then none else (σ.loadN b o (sLen * szOf P elem)).bind fun xs => (σ.grow b o xs ys).bind fun σ' => some (.val (.slice (some (σ.next, 0)) (sLen + n) (szOf P elem)) σ'))
      | _ => none) = some r → OpOK P o fr σ r := by
    clear h
    intro xd hxu hxd h
    split at h
    case h_2 => cases h
    rename_i base sLen esz hs
    rw [Option.bind_eq_some_iff] at h
    obtain ⟨n, hn, h⟩ := h
    split at h
    · cases h
    rename_i hie
    have hie : (P.info? elem).isSome = true := by cases hq : P.info? elem <;> simp_all
    split at h
    · rename_i h0
      subst h0
      cases h
      exact ok_append_none ho hab ht0 ht1 hu hxu hxd hie hs hn
    rename_i hn0
    simp only [Option.bind_eq_some_iff] at h
    obtain ⟨ys, hys, z, hz, h⟩ := h
    split at h
    · cases h
    rename_i hzl
    split at h
    · cases h
    rename_i hsc
    split at h
    · cases h
    rename_i hbig
    have hzl : z.cells.length = szOf P elem := by simpa using hzl
    have hsc : ys.all scalarHV = true := by simpa using hsc
    have hb1 : (2 * (sLen + n) + 768) * P.bytesOf elem ≤ 2 ^ 48 := by omega
    have hb2 : sLen + n ≤ 2 ^ 40 := by omega
    split at h
    · split at h
      · rename_i h0
        subst h0
        cases h
        exact ok_append_nil ho hab ht0 ht1 hu hxu hxd hs hn hn0 hys hz hzl hb1 (by omega)
      · cases h
    · split at h
      · cases h
      rename_i hesz
      have hesz : esz = szOf P elem := by simpa using hesz
      subst hesz
      simp only [Option.bind_eq_some_iff] at h
      obtain ⟨xs, hxs, σ', hg, h⟩ := h
      cases h
      exact ok_append ho hab ht0 ht1 hu hxu hxd hs hn hn0 hys hz hzl hsc hb1 hb2 hxs hg
  split at h
  · rename_i e he
    exact key he (by simp) h
  · rename_i he
    exact key he (by simp) h
  · cases h

theorem notnot {b : Bool} (h : ¬ (!b) = true) : b = true := by cases b <;> simp_all


theorem copyH_ok {args : Array Operand} {argTypes : Array TypeId} {x y : HV} {r : OpRes} (ho : o.op = .call { callee := .builtin .copy, args, argTypes }) (ha : args.toList.map fr.eval = [x, y]) (h : copyH P argTypes x y σ = some r) : OpOK P o fr σ r := by
  obtain ⟨oa, ob, hab, rfl, rfl⟩ := args_two ha
  unfold copyH at h
  simp only [Option.bind_eq_bind, Option.bind_eq_some_iff, Option.pure_def, Option.bind_none] at h
  obtain ⟨dt, ht0, u, hu, h⟩ := h
  split at h
  case h_2 => cases h
  rename_i elem
  split at h
  case h_2 => cases h
  rename_i base dLen esz hs
  simp only [Option.bind_eq_some_iff] at h
  obtain ⟨m, hm, h⟩ := h
  split at h
  · cases h
  rename_i hie
  have hie := isSome_of_not hie
  split at h
  · rename_i hn
    cases h
    exact ok_copy_none ho hab ht0 hu hie hs hm hn
  rename_i hn0
  simp only [Option.bind_eq_some_iff] at h
  obtain ⟨ys, hys, h⟩ := h
  split at h
  · cases h
  rename_i b off
  split at h
  · cases h
  rename_i hg
  simp only [not_or] at hg
  have hesz : esz = szOf P elem := by simpa using hg.1
  subst hesz
  simp only [Option.bind_eq_some_iff] at h
  obtain ⟨σ', hst, h⟩ := h
  cases h
  exact ok_copy ho hab ht0 hu hie hs hm hn0 hys (by simpa using hg.2) hst


theorem builtinH_ok {b : Builtin} {args : Array Operand} {argTypes : Array TypeId} {r : OpRes} (ho : o.op = .call { callee := .builtin b, args, argTypes }) (h : builtinH P b argTypes (args.toList.map fr.eval) σ = some r) : OpOK P o fr σ r := by
  unfold builtinH at h
  split at h
  · rename_i s x ha
    exact appendH_ok ho ha h
  · rename_i d x ha
    exact copyH_ok ho ha h
  · rename_i x ha
    obtain ⟨oa, hab, rfl⟩ := args_one ha
    simp only [Option.bind_eq_bind, Option.bind_eq_some_iff, Option.pure_def] at h
    obtain ⟨t, ht, h⟩ := h
    split at h
    · rename_i s hu hx
      cases h
      exact ok_len ho hab ht (.inl ⟨hu, _, hx ▸ StrIs.str _, rfl⟩)
    · rename_i p n hu hx
      cases h
      exact ok_len (n := p.length + n) ho hab ht (.inl ⟨hu, _, hx ▸ StrIs.pad _ _, by simp⟩)
    · rename_i e p n z hu hx
      cases h
      exact ok_len ho hab ht (.inr (.inl ⟨⟨_, hu⟩, _, _, hx⟩))
    · rename_i n e hu
      cases h
      exact ok_len ho hab ht (.inr (.inr (.inl ⟨_, hu⟩)))
    · rename_i k e hu hx
      cases h
      exact ok_len (n := 0) ho hab ht (.inr (.inr (.inr ⟨⟨_, _, hu⟩, .inl ⟨hx, rfl⟩⟩)))
    · rename_i k e rr hu hx
      split at h
      · rename_i es c hb
        cases h
        exact ok_len ho hab ht (.inr (.inr (.inr ⟨⟨_, _, hu⟩, .inr ⟨_, _, _, hx, hb, rfl⟩⟩)))
      · cases h
    · cases h
  · rename_i x ha
    obtain ⟨oa, hab, rfl⟩ := args_one ha
    simp only [Option.bind_eq_bind, Option.bind_eq_some_iff, Option.pure_def, Option.bind_none] at h
    obtain ⟨t, ht, h⟩ := h
    split at h
    · rename_i elem base n esz hu hx
      simp only [Option.bind_eq_some_iff] at h
      obtain ⟨z, hz, ⟨b, off⟩, hbase, h⟩ := h
      simp only at h
      split at h
      · cases h
      rename_i hg
      simp only [not_or] at hg
      simp only [Option.bind_eq_some_iff] at h
      obtain ⟨σ', hst, h⟩ := h
      cases h
      subst hbase
      have hesz : esz = szOf P elem := by simpa using hg.2.1
      subst hesz
      exact ok_clear ho hab ht hu hx hg.1 hz (by simpa using hg.2.2.1) (by simpa using hg.2.2.2) hst
    · cases h
  · rename_i m k ha
    obtain ⟨om, ok', hab, rfl, rfl⟩ := args_two ha
    simp only [Option.bind_eq_bind, Option.bind_eq_some_iff, Option.pure_def, Option.bind_none] at h
    obtain ⟨t, ht, u, hu, h⟩ := h
    split at h
    case h_2 => cases h
    rename_i kt et
    split at h
    case h_2 => cases h
    rename_i rr hm
    split at h
    case h_2 => cases h
    rename_i es clk hb
    split at h
    · cases h
    rename_i hk
    split at h
    · cases h
    rename_i hn
    obtain ⟨d, hd⟩ := Option.isSome_iff_exists.1 (isSome_of_not hn)
    simp only [Option.bind_eq_some_iff] at h
    obtain ⟨ix, hf, h⟩ := h
    split at h
    · rename_i i
      split at h
      · rename_i hlt
        cases h
        exact ok_delete (ix := some i) ho hab ht hu hd hm hb (by simpa using hk) hf (fun j e => by cases e; exact hlt)
      · cases h
    · cases h
      exact ok_delete (ix := none) ho hab ht hu hd hm hb (by simpa using hk) hf (fun j e => by cases e)
  · cases h

theorem memOp_ok {r : OpRes} (h : memOp P o fr σ = some r) : OpOK P o fr σ r := by
  cases ho : o.op
  case move x => simp only [memOp, ho, Option.some.injEq] at h; subst h; exact ok_move (.inl ho)
  case assign x => simp only [memOp, ho, Option.some.injEq] at h; subst h; exact ok_move (.inr ho)
  case pick c a b =>
    simp only [memOp, ho] at h
    split at h
    · rename_i hc; cases h; exact ok_pick ho hc
    · cases h
  case alloc elem =>
    simp only [memOp, ho] at h
    simp only [Option.bind_eq_bind, Option.bind_eq_some_iff, Option.pure_def, Option.some.injEq] at h
    obtain ⟨z, hz, rfl⟩ := h
    exact ok_alloc ho hz
  case box e x =>
    simp only [memOp, ho] at h
    split at h
    · cases h
    · rename_i hx; cases h; exact ok_box ho (by simpa using hx)
  case build t parts =>
    simp only [memOp, ho] at h
    simp only [Option.bind_eq_bind, Option.bind_eq_some_iff, Option.pure_def, Option.bind_none] at h
    obtain ⟨z, hz, h⟩ := h
    split at h
    · cases h
    rename_i hn
    split at h
    · rename_i fields hu
      split at h
      · cases h
      rename_i hi
      simp only [Option.bind_eq_some_iff] at h
      obtain ⟨cells, hf, h⟩ := h
      cases h
      exact ok_build_struct ho hz hu (notnot hi) (notnot hn) hf
    · rename_i n elem hu
      split at h
      · cases h
      rename_i hi
      simp only [Option.bind_eq_some_iff] at h
      obtain ⟨cells, hf, h⟩ := h
      cases h
      exact ok_build_array ho hz hu (isSome_of_not hi) (by simpa using hn) hf
    · cases h
  case buildSlice t len parts =>
    simp only [memOp, ho] at h
    simp only [Option.bind_eq_bind, Option.bind_eq_some_iff, Option.pure_def, Option.bind_none] at h
    obtain ⟨u, hu, h⟩ := h
    split at h
    case h_2 => cases h
    rename_i elem
    split at h
    · cases h
    rename_i hb
    simp only [Option.bind_eq_some_iff] at h
    obtain ⟨z, hz, h⟩ := h
    split at h
    · cases h
    rename_i hzl
    split at h
    · cases h
    rename_i hn
    simp only [Option.bind_eq_some_iff] at h
    obtain ⟨cells, hf, h⟩ := h
    cases h
    exact ok_buildSlice ho hu hb hz (by simpa using hzl) (by simpa using hn) hf
  case load t a =>
    simp only [memOp, ho] at h
    split at h
    case h_2 => cases h
    rename_i b off hx
    split at h
    · cases h
    rename_i hg
    rw [not_or] at hg
    simp only [Option.bind_eq_bind, Option.pure_def, Option.bind_eq_some_iff] at h
    obtain ⟨l, hl, h⟩ := h
    split at h
    · rename_i h1
      cases h
      exact ok_load ho hx (isSome_of_not hg.1) hl h1
    · cases h
  case store t a x =>
    simp only [memOp, ho] at h
    split at h
    case h_2 => cases h
    rename_i b off hx
    split at h
    · cases h
    rename_i hg
    simp only [not_or] at hg
    simp only [Option.bind_eq_bind, Option.pure_def, Option.bind_eq_some_iff] at h
    obtain ⟨σ', hs, h⟩ := h
    cases h
    exact ok_store ho hx (isSome_of_not hg.1) (by simpa using hg.2.1) (by simpa using hg.2.2.1) (by simpa using hg.2.2.2) hs
  case nilCheck x =>
    simp only [memOp, ho] at h
    split at h
    · rename_i hx; cases h; exact ok_nilCheck_panic ho (.inl hx)
    · rename_i hx; cases h; exact ok_nilCheck_panic ho (.inr (.inl hx))
    · rename_i hx; cases h; exact ok_nilCheck_panic ho (.inr (.inr hx))
    · rename_i hx; cases h; rw [← hx]; exact ok_nilCheck ho (.inl ⟨_, hx⟩)
    · rename_i hx; cases h; rw [← hx]; exact ok_nilCheck ho (.inr (.inl ⟨_, _, _, hx⟩))
    · rename_i hx; cases h; rw [← hx]; exact ok_nilCheck ho (.inr (.inr ⟨_, _, _, hx⟩))
    · cases h
  case binOp op t x y u =>
    cases op
    case eql =>
      simp only [memOp, ho, Option.map_eq_some_iff] at h
      obtain ⟨b, hb, rfl⟩ := h
      exact ok_eql ho hb
    case neq =>
      simp only [memOp, ho, Option.map_eq_some_iff] at h
      obtain ⟨b, hb, rfl⟩ := h
      exact ok_neq ho hb
    all_goals (simp only [memOp, ho, reduceCtorEq] at h)
  case convert src dst x =>
    simp only [memOp, ho] at h
    split at h
    · rename_i e a n esz hs hd hx
      split at h
      · rename_i he
        split at h
        · split at h
          · cases h
            exact ok_toString_nil ho hs hd he hx
          · rename_i b off
            split at h
            · cases h
            rename_i hesz
            have hesz : esz = 1 := by simpa using hesz
            subst hesz
            simp only [Option.bind_eq_bind, Option.pure_def, Option.bind_eq_some_iff] at h
            obtain ⟨l, hl, s, hb, h⟩ := h
            cases h
            exact ok_toString ho hs hd he hx hl hb
        · cases h
      · cases h
    · rename_i e s hs hd hx
      split at h
      · rename_i he
        split at h
        · cases h
          exact ok_toBytes ho hs hd he hx
        · cases h
      · cases h
    · cases h
  case makeInterface t x =>
    simp only [memOp, ho] at h
    split at h
    · cases h
    · cases h
    · rename_i d hd hu
      cases h
      exact ok_makeInterface ho hu (fun ms e => hd ms e)
  case makeFunc fn first captured =>
    simp only [memOp, ho] at h
    split at h
    · cases h
    · rename_i hf
      cases h
      exact ok_makeFunc ho (fun l e => hf l e)
  case makeMap t reserve =>
    cases reserve with
    | none =>
      simp only [memOp, ho, Option.some.injEq] at h
      subst h
      exact ok_makeMap ho
    | some x => simp only [memOp, ho, reduceCtorEq] at h
  case makeSlice t len cap =>
    simp only [memOp, ho] at h
    simp only [Option.bind_eq_bind, Option.bind_eq_some_iff, Option.pure_def, Option.bind_none] at h
    obtain ⟨u, hu, h⟩ := h
    split at h
    case h_2 => cases h
    rename_i elem
    simp only [Option.bind_eq_some_iff] at h
    obtain ⟨l, hl, c, hc, h⟩ := h
    split at h
    · cases h
    rename_i hg
    simp only [not_or] at hg
    simp only [Option.bind_eq_some_iff] at h
    obtain ⟨z, hz, h⟩ := h
    split at h
    · cases h
    rename_i hzl
    have hzl : z.cells.length = szOf P elem := by simpa using hzl
    have e : (if szOf P elem = 1 then List.replicate l.toNat (z.cells.getD 0 .any) else (List.replicate l.toNat z.cells).flatten) = (List.replicate l.toNat z.cells).flatten := by
      split
      · rename_i h1; exact flatten_one _ (by rw [hzl, h1])
      · rfl
    rw [e] at h
    cases h
    exact ok_makeSlice ho hu hl hc (by omega) (by omega) (by omega) (by omega) hz hzl rfl
  case slice t x lo hi mx =>
    simp only [memOp, ho] at h
    unfold sliceH at h
    have nomx : ¬ (mx.map fr.eval).isSome = true → mx = none := by cases mx <;> simp
    split at h
    · rename_i s hu hx
      split at h
      · cases h
      rename_i hm
      simp only [Option.bind_eq_bind, Option.bind_eq_some_iff, Option.pure_def, Option.some.injEq] at h
      have hm := nomx hm
      subst hm
      obtain ⟨⟨l, hh⟩, hb, h⟩ := h
      cases h
      exact ok_slice_string ho hu (hx ▸ StrIs.str _) hb fun ρ => by simp [VRel]
    · rename_i p n hu hx
      split at h
      · cases h
      rename_i hm
      simp only [Option.bind_eq_bind, Option.bind_eq_some_iff, Option.pure_def, Option.some.injEq] at h
      have hm := nomx hm
      subst hm
      obtain ⟨⟨l, hh⟩, hb, rr, hr, h⟩ := h
      cases h
      have hlen : (p ++ List.replicate n (0 : UInt8)).length = p.length + n := by simp
      refine ok_slice_string (s := p ++ List.replicate n 0) (l := l) (h := hh) ho hu (hx ▸ StrIs.pad _ _) (by rw [hlen]; exact hb) fun ρ => ?_
      simp only [padSlice] at hr
      split at hr
      · rename_i hle
        cases hr
        simp only [VRel]
        rw [List.take_append_of_le_length hle]
      · split at hr
        · rename_i hc
          cases hr
          simp only [VRel]
          rename_i hgt
          rw [List.take_append, List.take_of_length_le (by omega), List.drop_append_of_le_length hc.2, List.take_replicate, Nat.min_eq_left (by omega)]
        · cases hr
    · rename_i elem b off len esz hu hx
      simp only [Option.bind_eq_bind, Option.bind_eq_some_iff, Option.pure_def, Option.bind_none] at h
      obtain ⟨top, ht, ⟨l, hh⟩, hb, h⟩ := h
      simp only at h
      split at h
      · cases h
      rename_i hg
      rw [not_or] at hg
      have hesz : esz = szOf P elem := by simpa using hg.1
      subst hesz
      cases h
      exact ok_slice_slice ho hu hx (isSome_of_not hg.2) ht hb
    · rename_i elem a len esz hna hu hx
      simp only [Option.bind_eq_bind, Option.bind_eq_some_iff, Option.pure_def, Option.bind_none] at h
      obtain ⟨⟨l, hh⟩, hb, h⟩ := h
      simp only at h
      split at h
      · cases h
      rename_i hg
      rw [not_or] at hg
      have hm := nomx hg.1
      subst hm
      split at h
      · cases h
        exact ok_slice_nil ho hu hx (isSome_of_not hg.2) hb
      · rename_i b off
        exact (hna _ _ rfl).elim
    · rename_i n elem b off hu hx
      simp only [Option.bind_eq_bind, Option.bind_eq_some_iff, Option.pure_def, Option.bind_none] at h
      obtain ⟨⟨l, hh⟩, hb, h⟩ := h
      simp only at h
      split at h
      · cases h
      rename_i hg
      rw [not_or] at hg
      have hm := nomx hg.1
      subst hm
      simp only [Option.bind_eq_some_iff] at h
      obtain ⟨⟨c, k⟩, hc, h⟩ := h
      simp only at h
      split at h
      · cases h
      rename_i hfit
      cases h
      exact ok_slice_array ho hu hx (isSome_of_not hg.2) hc (by omega) hb
    · cases h
  case fieldAddr s x f =>
    simp only [memOp, ho] at h
    split at h
    case h_2 => cases h
    rename_i b off fields hx hu
    simp only [Option.bind_eq_bind, Option.bind_eq_some_iff, Option.pure_def, Option.bind_none] at h
    obtain ⟨fd, hf, h⟩ := h
    split at h
    · cases h
    rename_i hsz
    cases h
    refine ok_fieldAddr ho hx hu hf ?_ hsz
    cases hq : P.info? fd.type with
    | none => exact absurd (by simp [szOf, Program.cellsOf, hq]) hsz
    | some i => rfl
  case field t x f =>
    simp only [memOp, ho] at h
    split at h
    case h_2 => cases h
    rename_i cs fields hx hu
    simp only [Option.bind_eq_bind, Option.bind_eq_some_iff, Option.pure_def, Option.bind_none, Option.bind_some] at h
    obtain ⟨fd, hf, h⟩ := h
    split at h
    · cases h
    rename_i hn
    obtain ⟨d, hd⟩ := Option.isSome_iff_exists.1 (isSome_of_not hn)
    split at h
    · rename_i hag
      cases h
      exact ok_field ho hx hu hf hd (by rw [if_pos hag])
    · rename_i hag
      rw [Option.bind_eq_some_iff] at h
      obtain ⟨v, hv, h⟩ := h
      cases h
      exact ok_field ho hx hu hf hd (by rw [if_neg hag]; exact hv)
  case indexAddr t x y =>
    simp only [memOp, ho] at h
    simp only [Option.bind_eq_bind, Option.bind_eq_some_iff, Option.pure_def] at h
    obtain ⟨i, hi, h⟩ := h
    split at h
    · rename_i elem b off len esz hu hx
      split at h
      · rename_i hlt
        split at h
        · rename_i hg
          obtain ⟨rfl, hie⟩ := hg
          cases h
          exact ok_indexAddr_slice ho hu hie hi hx hlt.1 hlt.2
        · cases h
      · rename_i hlt
        cases h
        exact ok_indexAddr_slice_panic ho hu hi hx (.inl hlt)
    · rename_i elem len esz hu hx
      cases h
      exact ok_indexAddr_slice_panic ho hu hi hx (.inr rfl)
    · rename_i len elem b off hu hx
      split at h
      · rename_i hg
        cases h
        exact ok_indexAddr_array ho hu hg.2.2 hi hx hg.1 hg.2.1
      · cases h
    · cases h
  case index t x y =>
    simp only [memOp, ho] at h
    simp only [Option.bind_eq_bind, Option.bind_eq_some_iff, Option.pure_def, Option.bind_some] at h
    obtain ⟨i, hi, h⟩ := h
    split at h
    · rename_i s hu hx
      split at h
      · rename_i h0
        split at h
        · rename_i c hc
          cases h
          exact ok_index_string ho hu hi (hx ▸ StrIs.str _) h0 hc
        · rename_i hc
          cases h
          exact ok_index_string_panic ho hu hi hx (.inr hc)
      · rename_i h0
        cases h
        exact ok_index_string_panic ho hu hi hx (.inl h0)
    · rename_i p n hu hx
      split at h
      · rename_i h0
        split at h
        · rename_i c hc
          cases h
          refine ok_index_string ho hu hi (hx ▸ StrIs.pad _ _) h0 ?_
          rw [List.getElem?_append_left (List.getElem?_eq_some_iff.1 hc).1]
          exact hc
        · rename_i hc
          split at h
          · rename_i hlt
            cases h
            have hge : p.length ≤ i.toNat := List.getElem?_eq_none_iff.1 hc
            refine ok_index_string (c := 0) ho hu hi (hx ▸ StrIs.pad p n) h0 ?_
            rw [List.getElem?_append_right hge, List.getElem?_replicate, if_pos (by omega)]
          · cases h
      · cases h
    · rename_i len elem cs hu hx
      split at h
      · rename_i hg
        obtain ⟨d, hd⟩ := Option.isSome_iff_exists.1 hg.2.2
        split at h
        · rename_i hag
          cases h
          exact ok_index_array ho hu hd hi hx hg.1 hg.2.1 (by rw [if_pos hag])
        · rename_i hag
          rw [Option.bind_eq_some_iff] at h
          obtain ⟨v, hv, h⟩ := h
          cases h
          exact ok_index_array ho hu hd hi hx hg.1 hg.2.1 (by rw [if_neg hag]; exact hv)
      · cases h
    · cases h
  case lookup t m k ok =>
    simp only [memOp, ho] at h
    simp only [Option.bind_eq_bind, Option.bind_eq_some_iff, Option.pure_def, Option.bind_none, Option.bind_some] at h
    obtain ⟨u, hu, h⟩ := h
    split at h
    case h_2 => cases h
    rename_i kt et
    simp only [Option.bind_eq_some_iff] at h
    obtain ⟨z, hz, h⟩ := h
    split at h
    · cases h
    rename_i hn
    obtain ⟨d, hd⟩ := Option.isSome_iff_exists.1 (isSome_of_not hn)
    split at h
    · rename_i hm
      split at h
      · rename_i hk
        cases h
        exact ok_lookup_nil ho hu hd hz hm hk
      · cases h
    · rename_i rr hm
      split at h
      · rename_i es clk hb
        split at h
        · rename_i hk
          simp only [Option.bind_eq_some_iff, Option.map_eq_some_iff] at h
          obtain ⟨q, ⟨ix, hf, hq⟩, h⟩ := h
          have hA := ok_lookup (ok := ok) ho hu hd hz hm hb hk hf
          rw [hq] at hA
          cases q with
          | some v => cases h; exact hA
          | none => cases h; exact hA
        · cases h
      · rename_i es hb
        split at h
        · rename_i hk
          simp only [Option.bind_eq_some_iff] at h
          obtain ⟨q, hf, h⟩ := h
          have hA := ok_lookup_o (ok := ok) ho hu hd hz hm hb hk hf
          cases q with
          | some v => cases h; exact hA
          | none => cases h; exact hA
        · cases h
      · cases h
    · cases h
  case mapUpdate t m k x =>
    simp only [memOp, ho] at h
    simp only [Option.bind_eq_bind, Option.bind_eq_some_iff, Option.pure_def, Option.bind_none] at h
    obtain ⟨u, hu, h⟩ := h
    split at h
    case h_2 => cases h
    rename_i kt et
    split at h
    · cases h
    rename_i hn
    obtain ⟨d, hd⟩ := Option.isSome_iff_exists.1 (isSome_of_not hn)
    split at h
    case h_2 => cases h
    rename_i rr hm
    split at h
    case h_2 => cases h
    rename_i es clk hb
    split at h
    · cases h
    rename_i hk
    simp only [Option.bind_eq_some_iff] at h
    obtain ⟨⟨es', c'⟩, hf, h⟩ := h
    cases h
    exact ok_mapUpdate (.inl ho) hu hd hm hb (by simpa using hk) hf
  case insert t m k x =>
    simp only [memOp, ho] at h
    simp only [Option.bind_eq_bind, Option.bind_eq_some_iff, Option.pure_def, Option.bind_none] at h
    obtain ⟨u, hu, h⟩ := h
    split at h
    case h_2 => cases h
    rename_i kt et
    split at h
    · cases h
    rename_i hn
    obtain ⟨d, hd⟩ := Option.isSome_iff_exists.1 (isSome_of_not hn)
    split at h
    case h_2 => cases h
    rename_i rr hm
    split at h
    case h_2 => cases h
    rename_i es clk hb
    split at h
    · cases h
    rename_i hk
    simp only [Option.bind_eq_some_iff] at h
    obtain ⟨⟨es', c'⟩, hf, h⟩ := h
    cases h
    exact ok_mapUpdate (.inr ho) hu hd hm hb (by simpa using hk) hf
  case range t x =>
    simp only [memOp, ho] at h
    split at h
    · rename_i kt et hu hx
      cases h
      exact ok_range_nil ho hu hx
    · rename_i kt et m hu hx
      split at h
      · rename_i es clk hb
        cases h
        exact ok_range ho hu hx hb
      · cases h
    · cases h
  case next it isStr =>
    cases isStr with
    | true => simp only [memOp, ho, reduceCtorEq] at h
    | false =>
      simp only [memOp, ho] at h
      split at h
      case h_2 => cases h
      rename_i rr hx
      split at h
      · rename_i hb
        cases h
        exact ok_next_nil ho hx hb
      · rename_i m since seen last hb
        split at h
        case h_2 => cases h
        rename_i es clk hbm
        split at h
        · cases h
        rename_i hgone
        cases h
        exact ok_next ho hx hb hbm (by simpa using hgone) rfl rfl rfl
      · cases h
  case entry it =>
    simp only [memOp, ho] at h
    split at h
    case h_2 => cases h
    rename_i rr hx
    split at h
    case h_2 => cases h
    rename_i m since seen stepped hb
    split at h
    case h_2 => cases h
    rename_i es clk hbm
    simp only [Option.bind_eq_bind, Option.bind_eq_some_iff, Option.pure_def, Option.bind_none] at h
    obtain ⟨stamp, hs, h⟩ := h
    split at h
    · cases h
    rename_i hck
    have hck : clk = stepped := by simpa using hck
    subst hck
    simp only [Option.bind_eq_some_iff] at h
    obtain ⟨e, he, h⟩ := h
    cases h
    exact ok_entry ho hx hb hbm hs he
  case typeAssert x xt asserted ok =>
    simp only [memOp, ho] at h
    simp only [Option.bind_eq_bind, Option.bind_eq_some_iff, Option.pure_def] at h
    obtain ⟨u, hu, h⟩ := h
    split at h
    · rename_i want t v hx
      simp only [Option.bind_eq_some_iff] at h
      obtain ⟨i, hi, h⟩ := h
      split at h
      · rename_i hm
        cases h
        exact ok_typeAssert_iface ho hu hx hi hm
      · rename_i nm hm
        split at h
        · rename_i hz
          cases h
          exact ok_typeAssert_iface_no ho hu hz (.inr ⟨_, _, _, hx, hi, hm⟩)
        · cases h
    · rename_i want hx
      split at h
      · rename_i hz
        cases h
        obtain ⟨i, hi⟩ : ∃ i, P.info? asserted = some i := by
          unfold zeroHV at hz
          cases hq : P.info? asserted with
          | none => rw [hq] at hz; cases hz
          | some i => exact ⟨i, rfl⟩
        exact ok_typeAssert_iface_no (i := i) ho hu hz (.inl hx)
      · cases h
    · rename_i hd hx
      simp only [Option.bind_eq_some_iff] at h
      obtain ⟨z, hz, h⟩ := h
      split at h
      · rename_i hok
        subst hok
        cases h
        exact ok_typeAssert_nil ho hu (fun ms e => by first | exact hd ms e | exact hd ms e rfl) hz (.inl hx)
      · cases h
    · rename_i t v hd hx
      split at h
      · rename_i ht
        subst ht
        cases h
        exact ok_typeAssert_yes ho hu (fun ms e => by first | exact hd ms e | exact hd ms e _ _ rfl | exact hd ms t v e rfl | exact hd ms e t v rfl | exact hd ms _ _ e rfl) hx
      · rename_i ht
        simp only [Option.bind_eq_some_iff] at h
        obtain ⟨z, hz, h⟩ := h
        split at h
        · rename_i hok
          subst hok
          cases h
          exact ok_typeAssert_nil ho hu (fun ms e => by first | exact hd ms e | exact hd ms e _ _ rfl | exact hd ms t v e rfl | exact hd ms e t v rfl | exact hd ms _ _ e rfl) hz (.inr ⟨_, _, hx, ht⟩)
        · cases h
    · cases h
  case extract x i =>
    simp only [memOp, ho] at h
    split at h
    · rename_i vs hx
      rw [Option.map_eq_some_iff] at h
      obtain ⟨v, hv, rfl⟩ := h
      exact ok_extract ho hx hv
    · cases h
  case panic x =>
    simp only [memOp, ho] at h
    split at h
    · rename_i t v hx
      cases h
      exact ok_panic ho hx
    · cases h
  case call c =>
    obtain ⟨callee, args, argTypes⟩ := c
    cases callee with
    | value f =>
      simp only [memOp, ho, Option.some.injEq] at h
      subst h
      exact ok_call ho
    | builtin b =>
      simp only [memOp, ho] at h
      exact builtinH_ok ho h
    | _ => simp only [memOp, ho, reduceCtorEq] at h
  all_goals (simp only [memOp, ho, reduceCtorEq] at h)

theorem evalOp0_ok : OpOK P o fr σ (evalOp0 P o fr σ) := by
  unfold evalOp0
  split
  · rename_i h; exact memOp_ok h
  · exact pureOp_ok

end
end Go.HI

/- The operations over the abstract heap are the machine's: arrays of bytes with many zeros behind. -/
namespace Go.HI
noncomputable section

variable {P : Program} {o : Oper} {fr : HFrame} {σ : Store}

def Store.put (σ : Store) (b : Nat) (x : HBlk) : Store := { σ with blks := σ.blks.set b x }

/-- A block that no other one shares is written as another kind of it. -/
theorem Rel.swap {ρ : Ren} {w : World} (h : Rel ρ σ w) {b : Nat} {x y : HBlk} (hx : σ.blks.get b = some x) (sx : x.single) (sy : y.single) (hB : ∀ L, ρ b = some L → BRel ρ σ w L x → BRel ρ σ w L y) : Rel ρ (σ.put b y) w where
  wf := {
    fresh := fun c hc => by
      simp only [Store.put, T.get_set] at hc ⊢
      split
      · rename_i e; subst e; rw [h.wf.fresh c hc] at hx; cases hx
      · exact h.wf.fresh c hc
    famFresh := h.wf.famFresh
    fam := fun c cs f p v hc => by
      simp only [Store.put, T.get_set] at hc
      split at hc
      · cases hc; exact sy.elim
      · exact h.wf.fam c cs f p v hc
    ver := fun c c' cs cs' f p p' v hc hc' => by
      simp only [Store.put, T.get_set] at hc hc'
      split at hc
      · cases hc; exact sy.elim
      · split at hc'
        · cases hc'; exact sy.elim
        · exact h.wf.ver c c' cs cs' f p p' v hc hc' }
  dom := h.dom
  blk := fun c L z hc hz => by
    simp only [Store.put, T.get_set] at hz
    split at hz
    · rename_i e
      subst e
      cases hz
      exact (hB L hc (h.blk c L x hc hx)).keep (.refl _) (fun _ _ _ hk => hk) rfl
    · exact (h.blk c L z hc hz).keep (.refl _) (fun _ _ _ hk => hk) rfl
  inj := fun c c' L L' z z' hc hc' hz hz' hn he => by
    have key : ∀ c c' L L' z', ρ c = some L → ρ c' = some L' → c = b → σ.blks.get c' = some z' → c ≠ c' → L.blk = L'.blk → False := by
      intro d d' M M' u' hd hd' e hu' hne hbl
      rw [← e] at hx
      obtain ⟨_, _, _, _, _, _, _, _, e1, _, _⟩ := h.inj d d' M M' x u' hd hd' hx hu' hne hbl
      subst e1
      exact sx
    simp only [Store.put, T.get_set] at hz hz'
    split at hz
    · rename_i e
      rw [if_neg (fun e' => hn (e.trans e'.symm))] at hz'
      exact (key c c' L L' z' hc hc' e hz' hn he).elim
    · split at hz'
      · rename_i e
        exact (key c' c L' L z hc' hc e hz (Ne.symm hn) he.symm).elim
      · exact h.inj c c' L L' z z' hc hc' hz hz' hn he
  glob := h.glob

theorem sput_get (σ : Store) (b : Nat) (y : HBlk) (c : Nat) : (σ.put b y).blks.get c = if c = b then some y else σ.blks.get c := by simp only [Store.put, T.get_set]

/-- An operation on the store where a block is written as another kind of it. -/
theorem OpOK.via {b : Nat} {x y : HBlk} (hx : σ.blks.get b = some x) (sx : x.single) (sy : y.single) (hB : ∀ (ρ : Ren) (σ : Store) (w : World) L, BRel ρ σ w L x → BRel ρ σ w L y) {v v' : HV} {σ1 σ1' : Store}
    (h : OpOK P o fr (σ.put b y) (.val v σ1)) (hv : ∀ ρ u, VRel ρ v u → VRel ρ v' u) (hσ : ∀ ρ w, Rel ρ σ1 w → Rel ρ σ1' w) (hn : σ1.next = σ1'.next) : OpOK P o fr σ (.val v' σ1') := fun ρ w a hR hS => by
  obtain ⟨u, w', ρ', h1, h2, h3, h4⟩ := h ρ w a (hR.swap hx sx sy fun L _ => hB ρ σ w L) hS
  exact ⟨u, w', ρ', h1, hv _ _ h2, hσ _ _ h3, hn ▸ h4⟩

theorem pad_cells {ρ : Ren} {σ : Store} {w : World} {L : Loc} {p : List UInt8} {n : Nat} (h : BRel ρ σ w L (.pad p n)) : BRel ρ σ w L (.cells (padCells p n) none) := fun _ => h
theorem cells_pad {ρ : Ren} {σ : Store} {w : World} {L : Loc} {p : List UInt8} {n : Nat} (h : BRel ρ σ w L (.cells (padCells p n) none)) : BRel ρ σ w L (.pad p n) := h rfl

/-- As cells. -/
def Store.wide (σ : Store) (b : Nat) (p : List UInt8) (n : Nat) : Store := σ.put b (.cells (padCells p n) none)

theorem Rel.narrow {ρ : Ren} {w : World} {b : Nat} {p : List UInt8} {n : Nat} {σ1 : Store} (h : Rel ρ σ1 w) (hb : σ1.blks.get b = some (.cells (padCells p n) none)) : Rel ρ (σ1.put b (.pad p n)) w :=
  h.swap hb (by simp [HBlk.single]) (by simp [HBlk.single]) fun L _ => cells_pad

theorem T.set_set {α : Type} {t : T α} {i : Nat} {x y : α} : ∀ k, ((t.set i x).set i y).get k = (t.set i y).get k := fun k => by
  simp only [T.get_set]
  split <;> rfl

theorem Rel.congr {ρ : Ren} {w : World} {σ σ' : Store} (h : Rel ρ σ w) (hb : ∀ b, σ'.blks.get b = σ.blks.get b) (hn : σ'.next = σ.next) (hf : σ'.fams = σ.fams) (hg : σ'.globs = σ.globs) : Rel ρ σ' w where
  wf := {
    fresh := fun b hlt => by rw [hb]; exact h.wf.fresh b (hn ▸ hlt)
    famFresh := fun f hlt => by rw [hf]; exact h.wf.famFresh f (hn ▸ hlt)
    fam := fun b c f p v hc => by rw [hb] at hc; rw [hf]; exact h.wf.fam b c f p v hc
    ver := fun b b' c c' f p p' v hc hc' => by rw [hb] at hc hc'; exact h.wf.ver b b' c c' f p p' v hc hc' }
  dom := fun b L hL => by rw [hn]; exact h.dom b L hL
  blk := fun b L x hL hx => by rw [hb] at hx; exact (h.blk b L x hL hx).keep (.refl _) (fun c k _ hk => by cases k with | none => rfl | some k => obtain ⟨f, p, v⟩ := k; simp only [Store.validK, hf] at hk ⊢; exact hk) rfl
  inj := fun b b' L L' x x' hL hL' hx hx' hne he => by rw [hb] at hx hx'; exact h.inj b b' L L' x x' hL hL' hx hx' hne he
  glob := fun g hgl => h.glob g (hg ▸ hgl)

/-! ### Strings out of such an array -/
def padConv (P : Program) (src dst : TypeId) (v : HV) (σ : Store) : Option OpRes :=
  match v with
  | .slice (some (b, off)) n 1 => match σ.blks.get b with
    | some (.pad p m) => match P.underlying src, P.underlying dst with
      | some (.slice e), some .string => match P.underlying e with
        | some (.int .u8) => if off + n ≤ p.length + m then (padSlice p m off (off + n)).map fun r => .val r σ else none
        | _ => none
      | _, _ => none
    | _ => none
  | _ => none

theorem bytesOf_map : ∀ l : List UInt8, bytesOf? (l.map fun (b : UInt8) => HV.int .u8 b.toNat) = some l
  | [] => rfl
  | b :: l => by simp [bytesOf?, bytesOf_map l]

theorem padSlice_str {p : List UInt8} {n l h : Nat} {r : HV} (hr : padSlice p n l h = some r) (ρ : Ren) : VRel ρ r (.string ⟨⟨((p ++ List.replicate n 0).take h).drop l⟩⟩) := by
  simp only [padSlice] at hr
  split at hr
  · rename_i hle
    cases hr
    simp only [VRel]
    rw [List.take_append_of_le_length hle]
  · split at hr
    · rename_i hc
      cases hr
      rename_i hgt
      simp only [VRel]
      rw [List.take_append, List.take_of_length_le (by omega), List.drop_append_of_le_length hc.2, List.take_replicate, Nat.min_eq_left (by omega)]
    · cases hr

theorem padConv_ok {src dst : TypeId} {x : Operand} {r : OpRes} (ho : o.op = .convert src dst x) (h : padConv P src dst (fr.eval x) σ = some r) : OpOK P o fr σ r := by
  unfold padConv at h
  split at h
  · rename_i b off n hx
    split at h
    · rename_i p m hb
      split at h
      · rename_i e hs hd
        split at h
        · rename_i he
          split at h
          · rename_i hle
            simp only [Option.map_eq_some_iff] at h
            obtain ⟨r', hr, rfl⟩ := h
            have hl : (σ.wide b p m).loadN b off n = some (((p ++ List.replicate m 0).drop off |>.take n).map fun (b : UInt8) => .int .u8 b.toNat) := by
              simp only [Store.loadN, Store.cells?, Store.wide, sput_get, if_pos, Store.validK]
              simp [padCells, hle, List.map_take, List.map_drop]
            refine OpOK.via (v := .str (((p ++ List.replicate m 0).drop off).take n)) (σ1 := σ.wide b p m) hb (by simp [HBlk.single]) (by simp [HBlk.single]) (fun _ _ _ _ => pad_cells) (ok_toString ho hs hd he hx hl (bytesOf_map _)) (fun ρ u hu => ?_) (fun ρ w hR => ?_) rfl
            · simp only [VRel] at hu
              subst hu
              have := padSlice_str hr ρ
              rwa [List.drop_take, Nat.add_sub_cancel_left] at this
            · refine (hR.narrow (b := b) (p := p) (n := m) (by simp [Store.wide, sput_get])).congr (fun c => ?_) rfl rfl rfl
              simp only [Store.wide, sput_get]
              split
              · rename_i e; rw [e]; exact hb
              · rfl
          · cases h
        · cases h
      · cases h
    · cases h
  · cases h

/-! ### A great new array -/
def bigSlice (P : Program) (t : TypeId) (len cap : HV) (σ : Store) : Option OpRes :=
  match len with
  | .int _ l => match cap with
    | .int _ c => if decide (4096 ≤ l) && decide (l = c) then match P.underlying t with
      | some (.slice elem) => match zeroHV P elem with
        | some (.int .u8 0) => if c ≤ 2 ^ 40 ∧ P.bytesOf elem * c.toNat ≤ 2 ^ 48 ∧ szOf P elem = 1 then some (.val (.slice (some (σ.next, 0)) l.toNat 1) (σ.push (.pad [] l.toNat))) else none
        | _ => none
      | _ => none
      else none
    | _ => none
  | _ => none

/-- A new array for itself. -/
theorem Rel.lone {ρ : Ren} {w : World} {c : List HV} (hN : WF σ) (h : Rel ρ (σ.pushArr c) w) : Rel ρ (σ.push (.cells c none)) w where
  wf := hN.push (by simp [HBlk.single])
  dom := h.dom
  blk := fun b L x hb hx => by
    simp only [Store.push, T.get_set] at hx
    by_cases e : b = σ.next
    · subst e
      rw [if_pos rfl] at hx
      cases hx
      have h1 := h.blk σ.next L (.cells c (some (σ.next, 0, 0))) hb (by simp only [Store.pushArr, T.get_set, if_true])
      intro _
      exact h1 (by simp [Store.validK, Store.pushArr, T.get_set])
    · rw [if_neg e] at hx
      have h1 := h.blk b L x hb (by simp only [Store.pushArr, T.get_set, if_neg e]; exact hx)
      refine h1.keep (.refl _) (fun c' k hc hk => ?_) rfl
      cases k with
      | none => rfl
      | some k =>
        obtain ⟨f, p, v⟩ := k
        subst hc
        obtain ⟨F, hF, _⟩ := hN.fam _ _ _ _ _ hx
        have hne : f ≠ σ.next := by rintro rfl; rw [hN.famFresh _ (Nat.le_refl _)] at hF; cases hF
        simp only [Store.validK, Store.push, Store.pushArr, T.get_set, if_neg hne] at hk ⊢
        exact hk
  inj := fun b b' L L' x x' hb hb' hx hx' hn he => by
    have other : ∀ b x, b ≠ σ.next → (σ.push (.cells c none)).blks.get b = some x → (σ.pushArr c).blks.get b = some x := fun b x e hx => by
      simp only [Store.push, Store.pushArr, T.get_set, if_neg e] at hx ⊢
      exact hx
    have key : ∀ b' L L' x', ρ σ.next = some L → ρ b' = some L' → b' ≠ σ.next → (σ.push (.cells c none)).blks.get b' = some x' → L.blk = L'.blk → False := by
      intro b' L L' x' hL hL' e hx' he
      obtain ⟨_, c1, c2, f, p, p', v, v', e1, e2, _⟩ := h.inj σ.next b' L L' (.cells c (some (σ.next, 0, 0))) x' hL hL' (by simp only [Store.pushArr, T.get_set, if_true]) (other b' x' e hx') (Ne.symm e) he
      cases e1
      subst e2
      have h2 := other b' _ e hx'
      simp only [Store.pushArr, T.get_set, if_neg e] at h2
      obtain ⟨F, hF, _⟩ := hN.fam _ _ _ _ _ h2
      rw [hN.famFresh _ (Nat.le_refl _)] at hF
      cases hF
    by_cases e : b = σ.next
    · subst e
      exact (key b' L L' x' hb hb' (Ne.symm hn) hx' he).elim
    · by_cases e' : b' = σ.next
      · subst e'
        exact (key b L' L x hb' hb e hx he.symm).elim
      · exact h.inj b b' L L' x x' hb hb' (other b x e hx) (other b' x' e' hx') hn he
  glob := h.glob

theorem padCells_nil (n : Nat) : padCells [] n = List.replicate n (.int .u8 0) := by simp [padCells]

theorem bigSlice_ok {t : TypeId} {len cap : Operand} {r : OpRes} (ho : o.op = .makeSlice t len cap) (h : bigSlice P t (fr.eval len) (fr.eval cap) σ = some r) : OpOK P o fr σ r := by
  unfold bigSlice at h
  split at h
  · rename_i k l hl
    split at h
    · rename_i k' c hc
      split at h
      · rename_i hlc
        simp only [Bool.and_eq_true, decide_eq_true_eq] at hlc
        obtain ⟨h1, rfl⟩ := hlc
        split at h
        · rename_i elem hu
          split at h
          · rename_i hz
            split at h
            · rename_i hg
              cases h
              have hA := ok_makeSlice (o := o) (fr := fr) (σ := σ) (P := P) (l := l) (c := l) (z := .int .u8 0) (cells := List.replicate l.toNat (.int .u8 0)) ho hu (by rw [hl]; rfl) (by rw [hc]; rfl) (by omega) (Int.le_refl _) hg.1 hg.2.1 hz (by rw [hg.2.2]; rfl) (by simp [HV.cells])
              intro ρ w a hR hS
              obtain ⟨u, w', ρ', g1, g2, g3, g4⟩ := hA ρ w a hR hS
              rw [hg.2.2] at g2
              refine ⟨u, w', ρ', g1, g2, ?_, g4⟩
              have g5 := Rel.lone hR.wf g3
              refine (g5.narrow (b := σ.next) (p := []) (n := l.toNat) (by rw [padCells_nil]; simp only [Store.push, T.get_set, if_true])).congr (fun c => ?_) rfl rfl rfl
              simp only [Store.push, sput_get, T.get_set]
              split <;> rfl
            · cases h
          · cases h
        · cases h
      · cases h
    · cases h
  · cases h

/-! ### Copies into such an array -/
def padWrite (p : List UInt8) (m off : Nat) (ys : List UInt8) : HBlk :=
  if off + ys.length ≤ p.length then .pad (p.take off ++ ys ++ p.drop (off + ys.length)) m
  else .pad ((p ++ List.replicate (off - p.length) 0).take off ++ ys) (p.length + m - (off + ys.length))

def byteHV (b : UInt8) : HV := .int .u8 b.toNat

theorem padWrite_cells {p : List UInt8} {m off : Nat} {ys : List UInt8} (h : off + ys.length ≤ p.length + m) : ∃ p' m', padWrite p m off ys = .pad p' m' ∧ padCells p' m' = splice (padCells p m) off (ys.map byteHV) := by
  have e : splice (padCells p m) off (ys.map byteHV) = ((p ++ List.replicate m 0).take off ++ ys ++ (p ++ List.replicate m 0).drop (off + ys.length)).map byteHV := by
    simp only [splice, padCells, List.length_map, List.map_append, List.map_take, List.map_drop]
    rfl
  unfold padWrite
  split
  · rename_i hle
    refine ⟨_, _, rfl, ?_⟩
    rw [e, List.take_append_of_le_length (by omega), List.drop_append_of_le_length hle]
    show List.map byteHV _ = _
    simp [List.append_assoc]
  · rename_i hlt
    refine ⟨_, _, rfl, ?_⟩
    rw [e]
    show List.map byteHV _ = _
    congr 1
    have h1 : (p ++ List.replicate (off - p.length) (0 : UInt8)).take off = (p ++ List.replicate m 0).take off := by
      simp only [List.take_append, List.take_replicate]
      congr 2
      omega
    have h2 : (p ++ List.replicate m (0 : UInt8)).drop (off + ys.length) = List.replicate (p.length + m - (off + ys.length)) 0 := by
      rw [List.drop_append, List.drop_eq_nil_of_le (by omega), List.drop_replicate, List.nil_append]
      congr 1
      omega
    rw [h1, h2]

def padCopyTo (σ : Store) (b off dLen : Nat) (p : List UInt8) (m : Nat) (x : HV) : Option OpRes :=
  match x with
  | .str s => if min s.length dLen ≠ 0 ∧ off + min s.length dLen ≤ p.length + m then some (.val (.int .i64 (min s.length dLen : Nat)) (σ.put b (padWrite p m off (s.take (min s.length dLen))))) else none
  | .slice (some (b2, 0)) n2 1 => match σ.blks.get b2 with
    | some (.pad p2 m2) => if b2 ≠ b ∧ off = 0 ∧ n2 = dLen ∧ dLen = p.length + m ∧ dLen = p2.length + m2 ∧ dLen ≠ 0 then some (.val (.int .i64 (dLen : Nat)) (σ.put b (.pad p2 m2))) else none
    | _ => none
  | _ => none

def padCopy (P : Program) (argTypes : Array TypeId) (args : List HV) (σ : Store) : Option OpRes :=
  match args with
  | [.slice (some (b, off)) dLen 1, x] => match σ.blks.get b with
    | some (.pad p m) => match argTypes[0]? with
      | some dt => match P.underlying dt with
        | some (.slice elem) => if szOf P elem = 1 ∧ (P.info? elem).isSome then padCopyTo σ b off dLen p m x else none
        | _ => none
      | none => none
    | _ => none
  | _ => none

theorem byte_scalar (l : List UInt8) : (l.map byteHV).all scalarHV = true := by simp [byteHV, scalarHV]

theorem padCells_eq (p : List UInt8) (m : Nat) : padCells p m = (p ++ List.replicate m 0).map byteHV := rfl
theorem padCells_length (p : List UInt8) (m : Nat) : (padCells p m).length = p.length + m := by simp [padCells]

theorem copyH_eq {argTypes : Array TypeId} {dt elem : TypeId} {b off dLen m : Nat} {x : HV} {ys : List HV} {σ σ' : Store} (h0 : argTypes[0]? = some dt) (hu : P.underlying dt = some (.slice elem)) (hs : szOf P elem = 1) (hi : (P.info? elem).isSome = true)
    (hm : lenH x = some m) (hn : min m dLen ≠ 0) (hy : elems σ 1 (min m dLen) x = some ys) (hsc : ys.all scalarHV = true) (hst : σ.storeN b off ys = some σ') : copyH P argTypes (.slice (some (b, off)) dLen 1) x σ = some (.val (.int .i64 (min m dLen : Nat)) σ') := by
  unfold copyH
  have hi' : ¬ (P.info? elem).isNone = true := by
    cases hq : P.info? elem with
    | none => rw [hq] at hi; cases hi
    | some _ => simp
  simp only [h0, Option.bind_eq_bind, Option.bind_some, hu, hm, hs, if_neg hi', if_neg hn, hy]
  rw [if_neg (by simp [hsc])]
  simp [hst]

theorem padCopy_ok {args : Array Operand} {argTypes : Array TypeId} {r : OpRes} (ho : o.op = .call { callee := .builtin .copy, args, argTypes }) (h : padCopy P argTypes (args.toList.map fr.eval) σ = some r) : OpOK P o fr σ r := by
  unfold padCopy at h
  split at h
  · rename_i b off dLen x hargs
    split at h
    · rename_i p m hb
      split at h
      · rename_i dt h0
        split at h
        · rename_i elem hu
          split at h
          · rename_i hg
            unfold padCopyTo at h
            split at h
            · rename_i s
              split at h
              · rename_i hc
                cases h
                obtain ⟨p', m', e1, e2⟩ := padWrite_cells (p := p) (m := m) (off := off) (ys := s.take (min s.length dLen)) (by simp; omega)
                rw [e1]
                have hst : (σ.wide b p m).storeN b off ((s.take (min s.length dLen)).map byteHV) = some ((σ.wide b p m).put b (.cells (padCells p' m') none)) := by
                  simp only [Store.storeN, Store.cells?, Store.wide, sput_get, if_pos, Store.validK, List.length_map, padCells_length]
                  rw [if_pos (by simp; omega), ← e2]
                  rfl
                have hA := copyH_ok (P := P) (fr := fr) (σ := σ.wide b p m) ho hargs (copyH_eq (P := P) (m := s.length) h0 hu hg.1 hg.2 rfl hc.1 (ys := (s.take (min s.length dLen)).map byteHV) (by simp [elems]; rfl) (byte_scalar _) hst)
                refine OpOK.via hb (by simp [HBlk.single]) (by simp [HBlk.single]) (fun _ _ _ _ => pad_cells) hA (fun _ _ hu => hu) (fun ρ w hR => ?_) rfl
                refine (hR.narrow (b := b) (p := p') (n := m') (by simp [sput_get])).congr (fun c => ?_) rfl rfl rfl
                simp only [Store.wide, sput_get]
                split <;> rfl
              · cases h
            · rename_i b2 n2
              split at h
              · rename_i p2 m2 hb2
                split at h
                · rename_i hc
                  cases h
                  obtain ⟨c1, rfl, rfl, c4, c5, c6⟩ := hc
                  have hb2' : (σ.wide b p m).blks.get b2 = some (.pad p2 m2) := by simp only [Store.wide, sput_get, if_neg c1]; exact hb2
                  have hmin : min n2 n2 = n2 := Nat.min_self _
                  have hst : ((σ.wide b p m).wide b2 p2 m2).storeN b 0 (padCells p2 m2) = some (((σ.wide b p m).wide b2 p2 m2).put b (.cells (padCells p2 m2) none)) := by
                    simp only [Store.storeN, Store.cells?, Store.wide, sput_get, if_neg (Ne.symm c1), if_pos, Store.validK, padCells_length]
                    rw [if_pos (by omega)]
                    have : splice (padCells p m) 0 (padCells p2 m2) = padCells p2 m2 := by
                      simp only [splice, List.take_zero, List.nil_append, Nat.zero_add, padCells_length]
                      rw [List.drop_eq_nil_of_le (by rw [padCells_length]; omega), List.append_nil]
                    rw [this]
                    rfl
                  have hel : elems ((σ.wide b p m).wide b2 p2 m2) 1 (min n2 n2) (.slice (some (b2, 0)) n2 1) = some (padCells p2 m2) := by
                    simp only [elems, if_pos, Store.loadN, Store.cells?, Store.wide, sput_get, Store.validK, padCells_length, hmin]
                    rw [if_pos (by omega), List.drop_zero, List.take_of_length_le (by rw [padCells_length]; omega)]
                  have hA := copyH_ok (P := P) (fr := fr) (σ := (σ.wide b p m).wide b2 p2 m2) ho hargs (copyH_eq (P := P) (m := n2) (dLen := n2) h0 hu hg.1 hg.2 rfl (by omega) hel (by rw [padCells_eq]; exact byte_scalar _) hst)
                  rw [hmin] at hA
                  refine OpOK.via hb (by simp [HBlk.single]) (by simp [HBlk.single]) (fun _ _ _ _ => pad_cells) (σ1 := (σ.wide b p m).put b (.cells (padCells p2 m2) none)) (OpOK.via hb2' (by simp [HBlk.single]) (by simp [HBlk.single]) (fun _ _ _ _ => pad_cells) hA (fun _ _ hu => hu) (fun ρ w hR => ?_) rfl) (fun _ _ hu => hu) (fun ρ w hR => ?_) rfl
                  · refine (hR.narrow (b := b2) (p := p2) (n := m2) (by simp [sput_get, Store.wide, c1])).congr (fun c => ?_) rfl rfl rfl
                    simp only [Store.wide, sput_get]
                    split
                    · rename_i e; subst e; rw [if_neg (Ne.symm c1)]
                    · split
                      · rename_i e; subst e; exact hb2
                      · rfl
                  · refine (hR.narrow (b := b) (p := p2) (n := m2) (by simp [sput_get])).congr (fun c => ?_) rfl rfl rfl
                    simp only [Store.wide, sput_get]
                    split <;> rfl
                · cases h
              · cases h
            · cases h
          · cases h
        · cases h
      · cases h
    · cases h
  · cases h

/-! ### Comparisons -/
def padEqV (x y : HV) : Option Bool :=
  match x with
  | .pad p n => match y with
    | .str s => if Nat.beq (p.length + n) s.length then none else some false
    | _ => none
  | _ => none

def padEq (op : BinOp) (x y : HV) : Option HV :=
  match op with
  | .eql => (padEqV x y).map fun b => .bool b
  | .neq => (padEqV x y).map fun b => .bool (!b)
  | _ => none

theorem padEqV_ok {x y : HV} {b : Bool} (h : padEqV x y = some b) {ρ : Ren} {u v : Value} (hx : VRel ρ x u) (hy : VRel ρ y v) : ∃ s t : ByteArray, u = .string s ∧ v = .string t ∧ (s.toList == t.toList) = b := by
  unfold padEqV at h
  split at h
  · rename_i p n
    split at h
    · rename_i s
      split at h
      · cases h
      · rename_i hne
        cases h
        simp only [VRel] at hx hy
        refine ⟨_, _, hx, hy, ?_⟩
        have hlen : p.length + n ≠ s.length := fun e => hne (by rw [e]; exact Nat.beq_refl _)
        have e1 : ∀ l : List UInt8, (⟨⟨l⟩⟩ : ByteArray).toList = l := fun l => by rw [ByteArray.toList_eq]
        rw [e1, e1]
        rw [beq_eq_false_iff_ne]
        intro e
        have := congrArg List.length e
        simp at this
        exact hlen this
    · cases h
  · cases h

theorem padEq_ok {op : BinOp} {t : TypeId} {x y : Operand} {ty : TypeId} {v : HV} (ho : o.op = .binOp op t x y ty) (h : padEq op (fr.eval x) (fr.eval y) = some v) : OpOK P o fr σ (.val v σ) := fun ρ w a hR hS => by
  unfold padEq at h
  split at h
  · simp only [Option.map_eq_some_iff] at h
    obtain ⟨b, hb, rfl⟩ := h
    obtain ⟨s, u, h1, h2, h3⟩ := padEqV_ok hb (hS.eval x) (hS.eval y)
    refine ValOK.pure hR (v' := .bool b) ?_ (by simp [VRel])
    simp [execOp, ho, h1, h2, eqGuard, binOp, Op.stringOp, h3]
  · simp only [Option.map_eq_some_iff] at h
    obtain ⟨b, hb, rfl⟩ := h
    obtain ⟨s, u, h1, h2, h3⟩ := padEqV_ok hb (hS.eval x) (hS.eval y)
    refine ValOK.pure hR (v' := .bool (!b)) ?_ (by simp [VRel])
    simp [execOp, ho, h1, h2, eqGuard, binOp, Op.stringOp, h3]
  · cases h

/-! ### All together -/
def memOpP (P : Program) (o : Oper) (fr : HFrame) (σ : Store) : Option OpRes :=
  match o.op with
  | .makeSlice t len cap => bigSlice P t (fr.eval len) (fr.eval cap) σ
  | .convert src dst x => padConv P src dst (fr.eval x) σ
  | .binOp op _ x y _ => (padEq op (fr.eval x) (fr.eval y)).map fun v => .val v σ
  | .call { callee := .builtin .copy, args, argTypes } => padCopy P argTypes (args.toList.map fr.eval) σ
  | _ => none

theorem memOpP_ok {r : OpRes} (h : memOpP P o fr σ = some r) : OpOK P o fr σ r := by
  unfold memOpP at h
  split at h
  · rename_i t len cap ho; exact bigSlice_ok ho h
  · rename_i src dst x ho; exact padConv_ok ho h
  · rename_i op t x y u ho
    simp only [Option.map_eq_some_iff] at h
    obtain ⟨v, hv, rfl⟩ := h
    exact padEq_ok ho hv
  · rename_i args argTypes ho; exact padCopy_ok ho h
  · cases h

def evalOp (P : Program) (o : Oper) (fr : HFrame) (σ : Store) : OpRes :=
  match memOpP P o fr σ with
  | some r => r
  | none => evalOp0 P o fr σ

theorem evalOp_ok : OpOK P o fr σ (evalOp P o fr σ) := by
  unfold evalOp
  split
  · rename_i h; exact memOpP_ok h
  · exact evalOp0_ok

end
end Go.HI

/- Code over the abstract heap: what a walk shows, and the rules of control. -/
namespace Go.HI
noncomputable section

/-- Everything is let in; within a round, or not. -/
def FW (r : Option Nat) : Fence := { Fence.wide with round := r }

theorem FW_none : FW none = Fence.wide := rfl

inductive HExit where
  | normal
  | exit (id : Nat)
  | goto (l : Nat)
  | ret
  | panic (v : HV)

def HExit.of (ρ : Ren) : HExit → Exit → Prop
  | .normal, e => e = .normal
  | .exit i, e => e = .exit i
  | .goto l, e => e = .goto l
  | .ret, e => e = .ret
  | .panic v, e => ∃ v', e = .panic [{ v := v', recovered := false }] ∧ VRel ρ v v'

theorem HExit.of_mono {ρ ρ' : Ren} (hs : ρ.sub ρ') {x : HExit} {e : Exit} (h : x.of ρ e) : x.of ρ' e := by
  cases x <;> simp only [HExit.of] at h ⊢ <;> try exact h
  obtain ⟨v', h1, h2⟩ := h
  exact ⟨v', h1, h2.mono hs⟩

/-! ### The marks that the ranges over functions leave among the deferred calls -/
def dmark (D : Nat) : Deferred := { target := .collected D, args := #[] }

structure MarksOK (ρ : Ren) (w : World) (l : List Nat) : Prop where
  here : ∀ D ∈ l, w.heap[D]? = some (.deferred (some []))
  out : ∀ D ∈ l, ∀ b L, ρ b = some L → L.blk ≠ D
  once : l.Nodup

theorem MarksOK.nil {ρ : Ren} {w : World} : MarksOK ρ w [] := ⟨fun _ h => (by cases h), fun _ h => (by cases h), List.nodup_nil⟩

theorem heap_lt {w : World} {D : Nat} {o : Obj} (h : w.heap[D]? = some o) : D < w.heap.size := (Array.getElem?_eq_some_iff.1 h).1

theorem MarksOK.step {N N' : Nat} {ρ ρ' : Ren} {w w' : World} {l : List Nat} (h : MarksOK ρ w l) (k : Fr N N' ρ ρ' w w') : MarksOK ρ' w' l where
  here := fun D hD => by rw [k.keep D (heap_lt (h.here D hD)) (h.out D hD)]; exact h.here D hD
  out := fun D hD b L hb => by
    cases hb' : ρ b with
    | some L' => have := k.sub b L' hb'; rw [hb] at this; cases this; exact h.out D hD b L hb'
    | none =>
      rcases k.new b L hb' hb with h1 | ⟨b₀, L₀, h1, h2⟩
      · have := heap_lt (h.here D hD); omega
      · rw [← h2]; exact h.out D hD b₀ L₀ h1
  once := h.once

/-- From one state to a later one of the same activation. -/
structure Link (N N' : Nat) (ρ ρ' : Ren) (w w' : World) (ds ds' : List Deferred) : Prop where
  fr : Fr N N' ρ ρ' w w'
  marks : ∃ l : List Nat, ds' = l.map dmark ++ ds ∧ MarksOK ρ' w' l ∧ ∀ D ∈ l, w.heap.size ≤ D

theorem Link.refl {N : Nat} (ρ : Ren) (w : World) (ds : List Deferred) : Link N N ρ ρ w w ds ds := ⟨.refl _ _, [], rfl, .nil, fun _ h => (by cases h)⟩

theorem Link.of_fr {N N' : Nat} {ρ ρ' : Ren} {w w' : World} {ds : List Deferred} (h : Fr N N' ρ ρ' w w') : Link N N' ρ ρ' w w' ds ds := ⟨h, [], rfl, .nil, fun _ h => (by cases h)⟩

theorem Link.trans {N N₁ N₂ : Nat} {ρ ρ₁ ρ₂ : Ren} {w w₁ w₂ : World} {ds ds₁ ds₂ : List Deferred} (h : Link N N₁ ρ ρ₁ w w₁ ds ds₁) (k : Link N₁ N₂ ρ₁ ρ₂ w₁ w₂ ds₁ ds₂) : Link N N₂ ρ ρ₂ w w₂ ds ds₂ := by
  refine ⟨h.fr.trans k.fr, ?_⟩
  obtain ⟨l, rfl, hm, hge⟩ := h.marks
  obtain ⟨l', rfl, hm', hge'⟩ := k.marks
  have hm1 := hm.step k.fr
  refine ⟨l' ++ l, by simp, ⟨?_, ?_, ?_⟩, ?_⟩
  · intro D hD
    rcases List.mem_append.1 hD with h1 | h1
    · exact hm'.here D h1
    · exact hm1.here D h1
  · intro D hD
    rcases List.mem_append.1 hD with h1 | h1
    · exact hm'.out D h1
    · exact hm1.out D h1
  · rw [List.nodup_append]
    refine ⟨hm'.once, hm.once, fun a ha b hb e => ?_⟩
    have h1 := hge' a ha
    have h2 := heap_lt (hm.here b hb)
    omega
  · intro D hD
    rcases List.mem_append.1 hD with h1 | h1
    · exact Nat.le_trans h.fr.size (hge' D h1)
    · exact hge D h1

/-! ### What a walk shows -/
/-- The round in which the frame stands, by the loop's abstract number. -/
def RoundAt (ρ : Ren) : Option Nat → Option Nat → Prop
  | none, rc => rc = none
  | some b, rc => ∃ L, ρ b = some L ∧ rc = some L.blk

theorem RoundAt.mono {ρ ρ' : Ren} (hs : ρ.sub ρ') {r rc : Option Nat} (h : RoundAt ρ r rc) : RoundAt ρ' r rc := by
  cases r with
  | none => exact h
  | some b => obtain ⟨L, h1, h2⟩ := h; exact ⟨L, hs _ _ h1, h2⟩

def HPost (N : Nat) (ρ : Ren) (w : World) (ds : List Deferred) (Q : HExit → HFrame → Store → Prop) (e : Exit) (a' : Act) (w' : World) : Prop :=
  ∃ x fr σ ρ', HExit.of ρ' x e ∧ Q x fr σ ∧ Rel ρ' σ w' ∧ SlotsRel ρ' fr a'.tmps ∧ Link N σ.next ρ ρ' w w' ds a'.defers

theorem HPost.link {N N₁ : Nat} {ρ ρ₁ : Ren} {w w₁ : World} {ds ds₁ : List Deferred} {Q : HExit → HFrame → Store → Prop} {e : Exit} {a : Act} {w' : World} (h : HPost N₁ ρ₁ w₁ ds₁ Q e a w') (k : Link N N₁ ρ ρ₁ w w₁ ds ds₁) : HPost N ρ w ds Q e a w' := by
  obtain ⟨x, fr, σ, ρ', h1, h2, h3, h4, h5⟩ := h
  exact ⟨x, fr, σ, ρ', h1, h2, h3, h4, k.trans h5⟩

def HWp (P : Program) (r : Option Nat) (c : Code) (Q : HExit → HFrame → Store → Prop) (fr : HFrame) (σ : Store) : Prop :=
  ∀ (n : Nat) (ρ : Ren) (w : World) (a : Act) (rc : Option Nat), RoundAt ρ r rc → Rel ρ σ w → SlotsRel ρ fr a.tmps → c.wpIn (FW rc) n P (HPost σ.next ρ w a.defers Q) a w

variable {P : Program} {r : Option Nat} {Q Q' : HExit → HFrame → Store → Prop} {fr : HFrame} {σ : Store}

theorem HWp.mono {c : Code} (h : HWp P r c Q fr σ) (hq : ∀ x fr σ, Q x fr σ → Q' x fr σ) : HWp P r c Q' fr σ := fun n ρ w a rc hr hR hS =>
  wpIn_mono (h n ρ w a rc hr hR hS) fun _ _ _ ⟨x, fr, σ, ρ', h1, h2, h3, h4, h5⟩ => ⟨x, fr, σ, ρ', h1, hq _ _ _ h2, h3, h4, h5⟩

theorem HWp.at {c : Code} {N₀ : Nat} {ρ : Ren} {w : World} {a : Act} {ds : List Deferred} {ρ₀ : Ren} {w₀ : World} {n : Nat} {rc : Option Nat} (h : HWp P r c Q fr σ) (hr : RoundAt ρ r rc) (hR : Rel ρ σ w) (hS : SlotsRel ρ fr a.tmps)
    (hl : Link N₀ σ.next ρ₀ ρ w₀ w ds a.defers) : c.wpIn (FW rc) n P (HPost N₀ ρ₀ w₀ ds Q) a w :=
  wpIn_mono (h n ρ w a rc hr hR hS) fun _ _ _ hp => hp.link hl

theorem HPost.here {ρ : Ren} {w : World} {a : Act} {e : Exit} {x : HExit} (hx : x.of ρ e) (h : Q x fr σ) (hR : Rel ρ σ w) (hS : SlotsRel ρ fr a.tmps) : HPost σ.next ρ w a.defers Q e a w := ⟨x, fr, σ, ρ, hx, h, hR, hS, .refl _ _ _⟩

theorem HWp.skip (h : Q .normal fr σ) : HWp P r .skip Q fr σ := fun _ _ _ _ _ _ hR hS => wpIn_skip (.here (x := .normal) rfl h hR hS)
theorem HWp.label {l : Nat} (h : Q .normal fr σ) : HWp P r (.label l) Q fr σ := fun _ _ _ _ _ _ hR hS => wpIn_label (.here (x := .normal) rfl h hR hS)
theorem HWp.exit {id : Nat} (h : Q (.exit id) fr σ) : HWp P r (.exit id) Q fr σ := fun _ _ _ _ _ _ hR hS => wpIn_exit (.here (x := .exit id) rfl h hR hS)
theorem HWp.goto {l : Nat} (h : Q (.goto l) fr σ) : HWp P r (.goto l) Q fr σ := fun _ _ _ _ _ _ hR hS => wpIn_goto (.here (x := .goto l) rfl h hR hS)
theorem HWp.ret (h : Q .ret fr σ) : HWp P r .ret Q fr σ := fun _ _ _ _ _ _ hR hS => wpIn_ret (.here (x := .ret) rfl h hR hS)

/-- On the way on: what comes next, or the exit. -/
def HExit.then (K : HFrame → Store → Prop) (Q : HExit → HFrame → Store → Prop) : HExit → HFrame → Store → Prop
  | .normal, fr, σ => K fr σ
  | e, fr, σ => Q e fr σ

theorem HWp.seq {x y : Code} (h : HWp P r x (HExit.then (HWp P r y Q) Q) fr σ) : HWp P r (.seq x y) Q fr σ := fun n ρ w a rc hr hR hS => by
  refine wpIn_seq (wpIn_mono (h n ρ w a rc hr hR hS) ?_)
  rintro e a1 w1 ⟨x', fr1, σ1, ρ1, hx, hq, hR1, hS1, hl⟩
  cases x' with
  | normal =>
    simp only [HExit.of] at hx
    subst hx
    exact HWp.at hq (hr.mono hl.fr.sub) hR1 hS1 hl
  | exit id =>
    simp only [HExit.of] at hx
    subst hx
    exact ⟨.exit id, fr1, σ1, ρ1, rfl, hq, hR1, hS1, hl⟩
  | goto l =>
    simp only [HExit.of] at hx
    subst hx
    exact ⟨.goto l, fr1, σ1, ρ1, rfl, hq, hR1, hS1, hl⟩
  | ret =>
    simp only [HExit.of] at hx
    subst hx
    exact ⟨.ret, fr1, σ1, ρ1, rfl, hq, hR1, hS1, hl⟩
  | panic v =>
    obtain ⟨v', rfl, hv⟩ := hx
    exact ⟨.panic v, fr1, σ1, ρ1, ⟨v', rfl, hv⟩, hq, hR1, hS1, hl⟩

theorem HWp.cond {c : Operand} {x y : Code} {t : Bool} (hc : fr.eval c = .bool t) (h : HWp P r (if t then x else y) Q fr σ) : HWp P r (.cond c x y) Q fr σ := fun n ρ w a rc hr hR hS => by
  have hv := hS.eval c
  rw [hc] at hv
  simp only [VRel] at hv
  exact wpIn_cond hv (h n ρ w a rc hr hR hS)

def HExit.inBlock (id : Nat) (Q : HExit → HFrame → Store → Prop) : HExit → HFrame → Store → Prop
  | .exit id', fr, σ => if id' = id then Q .normal fr σ else Q (.exit id') fr σ
  | e, fr, σ => Q e fr σ

theorem HWp.block {id : Nat} {c : Code} (h : HWp P r c (HExit.inBlock id Q) fr σ) : HWp P r (.block id c) Q fr σ := fun n ρ w a rc hr hR hS => by
  refine wpIn_block (wpIn_mono (h n ρ w a rc hr hR hS) ?_)
  rintro e a1 w1 ⟨x', fr1, σ1, ρ1, hx, hq, hR1, hS1, hl⟩
  cases x' with
  | normal =>
    simp only [HExit.of] at hx
    subst hx
    exact ⟨.normal, fr1, σ1, ρ1, rfl, hq, hR1, hS1, hl⟩
  | exit id' =>
    simp only [HExit.of] at hx
    subst hx
    simp only [HExit.inBlock] at hq
    simp only [Exit.inBlock]
    split
    · rename_i he
      rw [if_pos he] at hq
      exact ⟨.normal, fr1, σ1, ρ1, rfl, hq, hR1, hS1, hl⟩
    · rename_i he
      rw [if_neg he] at hq
      exact ⟨.exit id', fr1, σ1, ρ1, rfl, hq, hR1, hS1, hl⟩
  | goto l =>
    simp only [HExit.of] at hx
    subst hx
    exact ⟨.goto l, fr1, σ1, ρ1, rfl, hq, hR1, hS1, hl⟩
  | ret =>
    simp only [HExit.of] at hx
    subst hx
    exact ⟨.ret, fr1, σ1, ρ1, rfl, hq, hR1, hS1, hl⟩
  | panic v =>
    obtain ⟨v', rfl, hv⟩ := hx
    exact ⟨.panic v, fr1, σ1, ρ1, ⟨v', rfl, hv⟩, hq, hR1, hS1, hl⟩

theorem least {p : Nat → Prop} (h : ∃ n, p n) : ∃ n, p n ∧ ∀ m, p m → n ≤ m := by
  obtain ⟨n, hn⟩ := h
  induction n using Nat.strongRecOn with
  | _ n ih =>
    by_cases hm : ∃ m, m < n ∧ p m
    · obtain ⟨m, h1, h2⟩ := hm
      exact ih m h1 h2
    · exact ⟨n, hn, fun m h => Nat.le_of_not_lt fun hlt => hm ⟨m, hlt, h⟩⟩

theorem HWp.loop {c : Code} (I : HFrame → Store → Prop) (μ : HFrame → Store → Nat) (h₀ : I fr σ)
    (round : ∀ fr σ, I fr σ → HWp P r c (HExit.then (fun fr' σ' => I fr' σ' ∧ μ fr' σ' < μ fr σ) Q) fr σ) : HWp P r (.loop c) Q fr σ := fun n ρ w a rc hr hR hS => by
  classical
  let W : Act → World → Nat → Prop := fun a' w' k => ∃ fr' σ' ρ', I fr' σ' ∧ k = μ fr' σ' ∧ Rel ρ' σ' w' ∧ SlotsRel ρ' fr' a'.tmps ∧ Link σ.next σ'.next ρ ρ' w w' a.defers a'.defers
  let m : Act → World → Nat := fun a' w' => if h : ∃ k, W a' w' k then Classical.choose (least h) else 0
  have hm : ∀ a' w', (∃ k, W a' w' k) → W a' w' (m a' w') ∧ ∀ k, W a' w' k → m a' w' ≤ k := fun a' w' h => by
    simp only [m, dif_pos h]
    exact Classical.choose_spec (least h)
  refine wpIn_loop (fun a' w' => ∃ k, W a' w' k) m ⟨_, fr, σ, ρ, h₀, rfl, hR, hS, .refl _ _ _⟩ ?_
  intro a1 w1 hW
  obtain ⟨⟨fr1, σ1, ρ1, hI, hk, hR1, hS1, hl⟩, _⟩ := hm a1 w1 hW
  refine wpIn_mono (HWp.at (round fr1 σ1 hI) (hr.mono hl.fr.sub) hR1 hS1 hl) ?_
  rintro e a2 w2 ⟨x', fr2, σ2, ρ2, hx, hq, hR2, hS2, hl2⟩
  cases x' with
  | normal =>
    simp only [HExit.of] at hx
    subst hx
    have hW2 : ∃ k, W a2 w2 k := ⟨_, fr2, σ2, ρ2, hq.1, rfl, hR2, hS2, hl2⟩
    refine ⟨hW2, ?_⟩
    have := (hm a2 w2 hW2).2 _ ⟨fr2, σ2, ρ2, hq.1, rfl, hR2, hS2, hl2⟩
    rw [hk]
    exact Nat.lt_of_le_of_lt this hq.2
  | exit id =>
    simp only [HExit.of] at hx
    subst hx
    exact ⟨.exit id, fr2, σ2, ρ2, rfl, hq, hR2, hS2, hl2⟩
  | goto l =>
    simp only [HExit.of] at hx
    subst hx
    exact ⟨.goto l, fr2, σ2, ρ2, rfl, hq, hR2, hS2, hl2⟩
  | ret =>
    simp only [HExit.of] at hx
    subst hx
    exact ⟨.ret, fr2, σ2, ρ2, rfl, hq, hR2, hS2, hl2⟩
  | panic v =>
    obtain ⟨v', rfl, hv⟩ := hx
    exact ⟨.panic v, fr2, σ2, ρ2, ⟨v', rfl, hv⟩, hq, hR2, hS2, hl2⟩

end
end Go.HI

/- Code over the abstract heap: operations, calls, regions in the written order. -/
namespace Go.HI
noncomputable section

variable {P : Program} {o : Oper} {fr : HFrame} {σ : Store} {r : Option Nat} {Q : HExit → HFrame → Store → Prop}

theorem SlotsRel.put {ρ : Ren} {fr : HFrame} {a : Act} (h : SlotsRel ρ fr a.tmps) (d : Option Tmp) {v : HV} {v' : Value} (hv : VRel ρ v v') : SlotsRel ρ (fr.put d v) (a.put d v').tmps := by
  cases d with
  | none => exact h
  | some d =>
    refine ⟨by simpa [Act.put, HFrame.put] using h.1, fun t ht => ?_, h.2.2⟩
    simp only [HFrame.put] at ht ⊢
    simp only [HFrame.get, T.get_set, Act.put]
    by_cases e : t = d
    · subst e
      have : t < a.tmps.size := by rw [h.1]; exact ht
      simp [Array.getD_eq_getD_getElem?, this, hv]
    · rw [if_neg e]
      have := h.2.1 t ht
      simp only [HFrame.get] at this
      simpa [Array.getD_eq_getD_getElem?, Array.getElem?_setIfInBounds_ne (Ne.symm e)] using this

/-! ### Calls -/
inductive HEnd where
  | returned (v : HV)
  | panicked (v : HV)

def HEnd.of (ρ : Ren) : HEnd → Ending → Prop
  | .returned v, e => ∃ v', e = .returned v' ∧ VRel ρ v v'
  | .panicked v, e => ∃ v', e = .panicked [{ v := v', recovered := false }] ∧ VRel ρ v v'

def HEndPost (N : Nat) (ρ : Ren) (w : World) (R : HEnd → Store → Prop) (e : Ending) (w' : World) : Prop :=
  ∃ x σ ρ', HEnd.of ρ' x e ∧ R x σ ∧ Rel ρ' σ w' ∧ Fr N σ.next ρ ρ' w w'

theorem HEndPost.mono {N : Nat} {ρ : Ren} {w : World} {R R' : HEnd → Store → Prop} {e : Ending} {w' : World} (h : HEndPost N ρ w R e w') (hr : ∀ x σ, R x σ → R' x σ) : HEndPost N ρ w R' e w' := by
  obtain ⟨x, σ, ρ', h1, h2, h3, h4⟩ := h
  exact ⟨x, σ, ρ', h1, hr _ _ h2, h3, h4⟩

/-- What a call comes to. -/
def Upon (F : Fence) (n : Nat) (P : Program) (R : Ending → World → Prop) : Result Next → Prop
  | .ok (.value v) w' => R (.returned v) w'
  | .ok .skip w' => R (.returned undef) w'
  | .ok (.enter f args) w' => CallsIn F n P f args w' R
  | .ok (.round l f tmps assign body) w' => RoundIn F n P l f tmps assign body w' R
  | .halt (.panic v) w' => R (.panicked [{ v, recovered := false }]) w'
  | _ => False

theorem Upon.mono {F : Fence} {n : Nat} {R R' : Ending → World → Prop} {x : Result Next} (h : Upon F n P R x) (hr : ∀ e w, R e w → R' e w) : Upon F n P R' x := by
  unfold Upon at h ⊢
  split at h
  · exact hr _ _ h
  · exact hr _ _ h
  · exact h.mono hr
  · exact h.mono hr
  · exact hr _ _ h
  · exact h.elim

/-- A call of a function's value. -/
def HCallV (P : Program) (fv : HV) (args : List HV) (σ : Store) (R : HEnd → Store → Prop) : Prop :=
  ∀ (n : Nat) (ρ : Ren) (w : World) (fv' : Value) (args' : Array Value) (rc : Option Nat), Rel ρ σ w → VRel ρ fv fv' → VsRel ρ args args'.toList →
    Upon (FW rc) n P (HEndPost σ.next ρ w R) ((do let d ← Deferred.ofValue fv' args'; invoke d.target d.args : Sem Next).run P w)

theorem HCallV.mono {fv : HV} {args : List HV} {R R' : HEnd → Store → Prop} (h : HCallV P fv args σ R) (hr : ∀ x σ, R x σ → R' x σ) : HCallV P fv args σ R' :=
  fun n ρ w fv' args' rc h1 h2 h3 => (h n ρ w fv' args' rc h1 h2 h3).mono fun _ _ hp => hp.mono hr

/-- A call of a function that has a body. -/
def HCall (P : Program) (f : FuncId) (args : List HV) (σ : Store) (R : HEnd → Store → Prop) : Prop :=
  ∀ (n : Nat) (ρ : Ren) (w : World) (args' : Array Value), Rel ρ σ w → VsRel ρ args args'.toList → CallsIn Fence.wide n P f args' w (HEndPost σ.next ρ w R)

theorem HCall.mono {f : FuncId} {args : List HV} {R R' : HEnd → Store → Prop} (h : HCall P f args σ R) (hr : ∀ x σ, R x σ → R' x σ) : HCall P f args σ R' :=
  fun n ρ w args' h1 h2 => (h n ρ w args' h1 h2).mono fun _ _ hp => hp.mono hr

/-- The function is one of Go's, with a body. -/
def hasBody (P : Program) (f : FuncId) : Bool := match P.funcs[f]? with
  | some fn => !(fn.name == "runtime.NumGoroutine") && fn.body.isSome
  | none => false

theorem run_callFunc_body {f : FuncId} (h : hasBody P f = true) (args : Array Value) (w : World) : (callFunc f args).run P w = .ok (.enter f args) w := by
  unfold hasBody at h
  split at h
  · rename_i fn hf
    simp only [Bool.and_eq_true, Bool.not_eq_true'] at h
    have h1 : ¬ fn.name = "runtime.NumGoroutine" := by simpa using h.1
    have h2 : ¬ fn.body = none := by cases hb : fn.body <;> simp_all
    simp [callFunc, hf, h1, h2]
  · cases h

theorem HCall.value {f : FuncId} {first cap args : List HV} {R : HEnd → Store → Prop} (hb : hasBody P f = true) (h : HCall P f (first ++ args ++ cap) σ R) : HCallV P (.func (.func f) first cap) args σ R := by
  intro n ρ w fv' args' rc hR hv hargs
  simp only [VRel] at hv
  obtain ⟨fn', a, c, rfl, rfl, h1, h2⟩ := hv
  have hrun : (do let d ← Deferred.ofValue (.func (.func f) a c) args'; invoke d.target d.args : Sem Next).run P w = .ok (.enter f (a ++ args' ++ c)) w := by
    simp [Deferred.ofValue, invoke, run_callFunc_body hb]
  rw [hrun]
  have := h n ρ w (a ++ args' ++ c) hR (by simpa using (h1.append hargs).append h2)
  exact this

/-! ### One operation -/
def isDefer : Op → Bool
  | .defer _ => true
  | _ => false

def HStep (P : Program) (K Kp : HV → Store → Prop) (σ : Store) : OpRes → Prop
  | .val v σ' => K v σ'
  | .alts l => ∀ p ∈ l, K p.1 p.2
  | .panic v => Kp v σ
  | .call fv args => HCallV P fv args σ (fun | .returned v, σ' => K v σ' | .panicked v, σ' => Kp v σ')
  | .stuck => False

theorem no_depth {rc : Option Nat} {n : Nat} : (FW rc).depth.isSome = true → 1 ≤ n := fun e => by simp [FW, Fence.wide] at e

theorem upon_wpIn {rc : Option Nat} {n : Nat} {a : Act} {next : Act → World → Prop} {Q : Exit → Act → World → Prop} {x : Result Next} {R : Ending → World → Prop}
    (h : Upon (FW rc) (n - 1) P R x) (h1 : ∀ v w, R (.returned v) w → next (a.put o.dst v) w) (h2 : ∀ c w, R (.panicked c) w → Q (.panic c) a w) (h3 : ∀ w, R .outgrown w → LetsOut Q) : o.uponIn (FW rc) n P a next Q x := by
  unfold Upon at h
  split at h
  · exact h1 _ _ h
  · exact h1 _ _ h
  · exact ⟨no_depth, h.mono fun e w he => by
      cases e with
      | returned v => exact h1 _ _ he
      | panicked c => exact h2 _ _ he
      | outgrown => exact h3 _ he⟩
  · exact ⟨no_depth, h.mono fun e w he => by
      cases e with
      | returned v => exact h1 _ _ he
      | panicked c => exact h2 _ _ he
      | outgrown => exact h3 _ he⟩
  · exact h2 _ _ h
  · exact h.elim

theorem HStep.wpIn {K Kp : HV → Store → Prop} (h : HStep P K Kp σ (evalOp P o fr σ)) (hd : isDefer o.op = false) {rc : Option Nat} {n : Nat} {ρ : Ren} {w : World} {a : Act} (hR : Rel ρ σ w) (hS : SlotsRel ρ fr a.tmps)
    {next : Act → World → Prop} {Q : Exit → Act → World → Prop}
    (h1 : ∀ v σ' ρ' v' w', K v σ' → VRel ρ' v v' → Rel ρ' σ' w' → Fr σ.next σ'.next ρ ρ' w w' → next (a.put o.dst v') w')
    (h2 : ∀ v σ' ρ' v' w', Kp v σ' → VRel ρ' v v' → Rel ρ' σ' w' → Fr σ.next σ'.next ρ ρ' w w' → Q (.panic [{ v := v', recovered := false }]) a w') : o.wpIn (FW rc) n P a w next Q := by
  refine ⟨fun _ _ => trivial, ?_⟩
  rw [Oper.semAt_eq _ _ _ (by intro c e; rw [e] at hd; cases hd)]
  have hok := evalOp_ok (P := P) (o := o) (fr := fr) (σ := σ) ρ w a hR hS
  have fin : ∀ v σ', K v σ' → ValOK σ.next ρ w ((execOp a.eval o).run P w) v σ' → o.uponIn (FW rc) n P a next Q ((execOp a.eval o).run P w) := by
    rintro v σ' hK ⟨v', w', ρ', hrun, hv, hR', hF⟩
    rcases hrun with hrun | ⟨hrun, rfl⟩
    · rw [hrun]
      exact h1 _ _ _ _ _ hK hv hR' hF
    · rw [hrun]
      exact h1 _ _ _ _ _ hK hv hR' hF
  revert h hok
  generalize evalOp P o fr σ = x
  intro h hok
  cases x with
  | val v σ' => exact fin v σ' h hok
  | alts l =>
    obtain ⟨v, σ', hm, hv⟩ := hok
    exact fin v σ' (h _ hm) hv
  | panic v =>
    obtain ⟨v', w', hrun, hv, hR', hF⟩ := hok
    rw [hrun]
    exact h2 _ _ _ _ _ h hv hR' hF
  | call fv args =>
    obtain ⟨fv', args', hv, ha, hs⟩ := hok
    rw [hs]
    refine upon_wpIn (h (n - 1) ρ w fv' args' rc hR hv ha) ?_ ?_ ?_
    · rintro v' w' ⟨x, σ', ρ', hx, hq, hR', hF⟩
      cases x with
      | returned v =>
        obtain ⟨v'', e, hv⟩ := hx
        cases e
        exact h1 _ _ _ _ _ hq hv hR' hF
      | panicked v =>
        obtain ⟨v'', e, hv⟩ := hx
        cases e
    · rintro c w' ⟨x, σ', ρ', hx, hq, hR', hF⟩
      cases x with
      | returned v =>
        obtain ⟨v'', e, hv⟩ := hx
        cases e
      | panicked v =>
        obtain ⟨v'', e, hv⟩ := hx
        cases e
        exact h2 _ _ _ _ _ hq hv hR' hF
    · rintro w' ⟨x, σ', ρ', hx, hq, hR', hF⟩
      cases x with
      | returned v => obtain ⟨v'', e, hv⟩ := hx; cases e
      | panicked v => obtain ⟨v'', e, hv⟩ := hx; cases e
  | stuck => exact h.elim

/-! ### Operations in a row -/
def wantedH (ops : Array Oper) (o : Oper) (fr : HFrame) : Option Bool :=
  match o.guard with
  | none => some true
  | some (j, want) => match (ops[j]?).bind (·.dst) with
    | none => some false
    | some d => if d < fr.nt then match fr.get d with
      | .bool b => some (b == want)
      | .tuple _ => some false
      | _ => none
      else none

theorem wantedH_ok {ops : Array Oper} {ρ : Ren} {a : Act} (hS : SlotsRel ρ fr a.tmps) {b : Bool} (h : wantedH ops o fr = some b) : Region.wanted o (yielded ops a.tmps) = b := by
  unfold wantedH at h
  unfold Region.wanted
  split at h
  · cases h; rename_i hg; simp [hg]
  · rename_i j want hg
    simp only [hg]
    unfold yielded
    split at h
    · rename_i hd
      cases h
      simp [hd]
    · rename_i d hd
      simp only [hd, Option.bind_some]
      split at h
      · rename_i hlt
        have hv := hS.2.1 d hlt
        have hsz : d < a.tmps.size := by rw [hS.1]; exact hlt
        have hgd : a.tmps[d]? = some (a.tmps.getD d undef) := by simp [Array.getD_eq_getD_getElem?, hsz]
        rw [hgd]
        split at h
        · rename_i b' hb
          rw [hb] at hv
          simp only [VRel] at hv
          cases h
          rw [hv]
          cases b' <;> cases want <;> rfl
        · rename_i vs hb
          rw [hb] at hv
          simp only [VRel] at hv
          obtain ⟨vs', hv, _⟩ := hv
          cases h
          rw [hv]
          rfl
        · cases h
      · cases h

def HOps (P : Program) (ops : Array Oper) (Q : HExit → HFrame → Store → Prop) : List Nat → HFrame → Store → Prop
  | [], fr, σ => Q .normal fr σ
  | i :: rest, fr, σ => match ops[i]? with
    | none => HOps P ops Q rest fr σ
    | some o => isDefer o.op = false ∧ (match wantedH ops o fr with
      | some true => HStep P (fun v σ' => HOps P ops Q rest (fr.put o.dst v) σ') (fun v σ' => Q (.panic v) fr σ') σ (evalOp P o fr σ)
      | some false => HOps P ops Q rest (fr.put o.dst (.tuple [])) σ
      | none => False)

theorem undef_rel {ρ : Ren} : VRel ρ (.tuple []) undef := by simp [VRel, undef]

theorem HOps.wpIn {ops : Array Oper} {N₀ : Nat} {rc : Option Nat} {n : Nat} {ρ₀ : Ren} {w₀ : World} {ds : List Deferred} : ∀ (l : List Nat) (fr : HFrame) (σ : Store) (ρ : Ren) (a : Act) (w : World), HOps P ops Q l fr σ → Rel ρ σ w → SlotsRel ρ fr a.tmps →
    Link N₀ σ.next ρ₀ ρ w₀ w ds a.defers → wpOpsIn (FW rc) n P ops (HPost N₀ ρ₀ w₀ ds Q) l a w
  | [], fr, σ, ρ, a, w, h, hR, hS, hl => ⟨.normal, fr, σ, ρ, rfl, h, hR, hS, hl⟩
  | i :: rest, fr, σ, ρ, a, w, h, hR, hS, hl => by
    simp only [HOps] at h
    simp only [wpOpsIn]
    cases ho : ops[i]? with
    | none =>
      rw [ho] at h
      exact HOps.wpIn rest fr σ ρ a w h hR hS hl
    | some o =>
      rw [ho] at h
      obtain ⟨hd, h⟩ := h
      simp only
      cases hw : wantedH ops o fr with
      | none => rw [hw] at h; exact h.elim
      | some b =>
        rw [wantedH_ok hS hw]
        rw [hw] at h
        have hdef : ∀ (v : Value), (a.put o.dst v).defers = a.defers := fun v => by cases o.dst <;> rfl
        cases b with
        | true =>
          simp only [if_true]
          refine HStep.wpIn h hd hR hS ?_ ?_
          · intro v σ' ρ' v' w' hK hv hR' hF
            exact HOps.wpIn rest _ σ' ρ' _ w' hK hR' ((hS.mono hF.sub).put o.dst hv) (by rw [hdef]; exact hl.trans (.of_fr hF))
          · intro v σ' ρ' v' w' hK hv hR' hF
            exact ⟨.panic v, fr, σ', ρ', ⟨v', rfl, hv⟩, hK, hR', hS.mono hF.sub, hl.trans (.of_fr hF)⟩
        | false =>
          simp only [Bool.false_eq_true, if_false]
          exact ⟨fun _ _ => trivial, HOps.wpIn rest _ σ ρ _ w h hR (hS.put o.dst undef_rel) (by rw [hdef]; exact hl)⟩

theorem HWp.region {id : Nat} {ops : Array Oper} (h : HOps P ops Q (List.range ops.size) fr σ) : HWp P r (.region id ops false) Q fr σ := fun n ρ w a rc hr hR hS =>
  wpIn_region (HOps.wpIn _ fr σ ρ a w h hR hS (.refl _ _ _))

end
end Go.HI

/- Code over the abstract heap: a function from its body; ranges over functions. -/
namespace Go.HI
noncomputable section

variable {P : Program} {o : Oper} {fr : HFrame} {σ : Store} {r : Option Nat} {Q : HExit → HFrame → Store → Prop}

theorem load_run {ρ : Ren} {w : World} {t : TypeId} {b off : Nat} {l : List HV} {L : Loc} (hR : Rel ρ σ w) (hL : ρ b = some L) (hu : (P.underlying t).isSome = true) (hl : σ.loadN b off (szOf P t) = some l)
    (h1 : isAggB P t = true ∨ l.length = 1) : ∃ v', (loadVar t ⟨L.blk, L.base + off, none⟩).run P w = .ok v' w ∧ VRel ρ (mkLoad P t l) v' := by
  obtain ⟨cs, hc, hfit, hlen, hrel⟩ := hR.loadN hL hl
  rw [hlen] at h1
  refine ⟨if isAggB P t then .agg ⟨(cs.toList.drop (L.base + off)).take (szOf P t)⟩ else cs.getD (L.base + off) undef, loadVar_at hc hu _ hfit h1, ?_⟩
  unfold mkLoad
  cases hb : isAggB P t with
  | true => simp only [if_true, VRel]; exact ⟨_, rfl, hrel⟩
  | false =>
    rcases h1 with h1 | h1
    · rw [hb] at h1; cases h1
    · simp only [Bool.false_eq_true, if_false]
      match l, hlen with
      | [y], _ =>
        rw [h1] at hrel hfit
        have hlt : L.base + off < cs.size := by omega
        have : (cs.toList.drop (L.base + off)).take 1 = [cs[L.base + off]] := by
          rw [List.take_one, List.head?_drop]
          simp [hlt]
        rw [this, VsRel.cons_iff] at hrel
        simpa [hlt] using hrel.1
      | [], h0 => simp at h0; omega
      | _ :: _ :: _, h0 => simp at h0; omega

def resH (P : Program) (fr : HFrame) (σ : Store) : ResultVar → Option HV
  | .tmp t => if t < fr.nt then some (fr.get t) else none
  | .cell a t => if a < fr.nt then match fr.get a with
      | .ptr (some (b, o)) => if (P.underlying t).isSome then (match σ.loadN b o (szOf P t) with
        | some l => if isAggB P t || l.length == 1 then some (mkLoad P t l) else none
        | none => none) else none
      | _ => none
    else none

def resHs (P : Program) (fr : HFrame) (σ : Store) : List ResultVar → Option (List HV)
  | [] => some []
  | x :: xs => match resH P fr σ x, resHs P fr σ xs with
    | some v, some vs => some (v :: vs)
    | _, _ => none

def resultsH (P : Program) (rs : List ResultVar) (fr : HFrame) (σ : Store) : Option HV :=
  match resHs P fr σ rs with
  | some [v] => some v
  | some vs => some (.tuple vs)
  | none => none

def resSem (tmps : Array Value) : ResultVar → Sem Value
  | .tmp t => pure (tmps.getD t undef)
  | .cell a t => do loadVar t (← asAddr (tmps.getD a undef))

theorem resH_run {ρ : Ren} {w : World} {tmps : Array Value} (hR : Rel ρ σ w) (hS : SlotsRel ρ fr tmps) {x : ResultVar} {v : HV} (h : resH P fr σ x = some v) : ∃ v', (resSem tmps x).run P w = .ok v' w ∧ VRel ρ v v' := by
  cases x with
  | tmp t =>
    simp only [resH] at h
    split at h
    · rename_i hlt
      cases h
      exact ⟨_, rfl, hS.2.1 t hlt⟩
    · cases h
  | cell a t =>
    simp only [resH] at h
    split at h
    · rename_i hlt
      have hv := hS.2.1 a hlt
      split at h
      · rename_i b off hb
        rw [hb] at hv
        simp only [VRel] at hv
        obtain ⟨L, hL, hv⟩ := hv
        split at h
        · rename_i hu
          split at h
          · rename_i l hl
            split at h
            · rename_i h1
              cases h
              simp only [Bool.or_eq_true, beq_iff_eq] at h1
              obtain ⟨v', hrun, hrel⟩ := load_run hR hL hu hl h1
              exact ⟨v', by simp [resSem, hv, asAddr, hrun], hrel⟩
            · cases h
          · cases h
        · cases h
      · cases h
    · cases h

theorem resHs_run {ρ : Ren} {w : World} {tmps : Array Value} (hR : Rel ρ σ w) (hS : SlotsRel ρ fr tmps) : ∀ {xs : List ResultVar} {vs : List HV}, resHs P fr σ xs = some vs → ∃ vs', (xs.mapM (resSem tmps)).run P w = .ok vs' w ∧ VsRel ρ vs vs'
  | [], vs, h => by
    simp only [resHs, Option.some.injEq] at h
    subst h
    exact ⟨[], rfl, by simp⟩
  | x :: xs, vs, h => by
    simp only [resHs] at h
    split at h
    · rename_i v vs1 hv hvs
      cases h
      obtain ⟨v', h1, h2⟩ := resH_run hR hS hv
      obtain ⟨vs', h3, h4⟩ := resHs_run hR hS hvs
      exact ⟨v' :: vs', by simp [List.mapM_cons, Sem.run_bind, h1, h3], by simp [h2, h4]⟩
    · cases h

theorem results_run {ρ : Ren} {w : World} {tmps : Array Value} {fn : Func} {v : HV} (hR : Rel ρ σ w) (hS : SlotsRel ρ fr tmps) (h : resultsH P fn.results.toList fr σ = some v) : ∃ v', (results fn tmps).run P w = .ok v' w ∧ VRel ρ v v' := by
  unfold resultsH at h
  have key : ∀ vs, resHs P fr σ fn.results.toList = some vs → ∃ vs' : List Value, (fn.results.mapM (resSem tmps)).run P w = .ok ⟨vs'⟩ w ∧ VsRel ρ vs vs' := by
    intro vs hvs
    obtain ⟨vs', h1, h2⟩ := resHs_run hR hS hvs
    refine ⟨vs', ?_, h2⟩
    rw [Array.mapM_eq_mapM_toList]
    simp [Sem.run_map, h1, Result.andThen]
  have hres : ∀ (vs' : List Value), (fn.results.mapM (resSem tmps)).run P w = .ok ⟨vs'⟩ w → (results fn tmps).run P w = .ok (if h : vs'.length = 1 then vs'[0] else .tuple ⟨vs'⟩) w := by
    intro vs' hv
    have : results fn tmps = (do let vs ← fn.results.mapM (resSem tmps); pure (if h : vs.size = 1 then vs[0] else .tuple vs)) := by
      unfold results
      congr 1
    rw [this]
    simp [hv]
  split at h
  · rename_i v1 hv
    cases h
    obtain ⟨vs', h1, h2⟩ := key _ hv
    match vs', h2 with
    | [v'], h2 =>
      rw [VsRel.cons_iff] at h2
      exact ⟨v', hres _ h1, h2.1⟩
    | [], h2 => simp at h2
    | _ :: _ :: _, h2 => simp at h2
  · rename_i vs hne hv
    cases h
    obtain ⟨vs', h1, h2⟩ := key _ hv
    refine ⟨_, hres _ h1, ?_⟩
    have hl := h2.length
    have : vs'.length ≠ 1 := by
      intro e
      rw [e] at hl
      match vs, hl with
      | [v], _ => exact hne v rfl
    rw [dif_neg this]
    simp only [VRel]
    exact ⟨_, rfl, h2⟩
  · cases h

/-! ### Leaving -/
theorem Rel.putOut {ρ : Ren} {w : World} (h : Rel ρ σ w) {D : Nat} (ho : ∀ b L, ρ b = some L → L.blk ≠ D) (x : Obj) : Rel ρ σ (w.putObj D x) where
  wf := h.wf
  dom := fun b L hb => by rw [World.putObj_size]; exact h.dom b L hb
  blk := fun b L x hb hx => (h.blk b L x hb hx).keep (.refl _) (fun _ _ _ h => h) (World.putObj_heap_other (ho b L hb))
  inj := h.inj
  glob := h.glob

theorem Fr.putOut {N N' : Nat} {ρ₀ ρ : Ren} {w₀ w : World} (h : Fr N N' ρ₀ ρ w₀ w) {D : Nat} (hD : w₀.heap.size ≤ D) (x : Obj) : Fr N N' ρ₀ ρ w₀ (w.putObj D x) where
  sub := h.sub
  size := by rw [World.putObj_size]; exact h.size
  keep := fun B hB hn => by rw [World.putObj_heap_other (by omega)]; exact h.keep B hB hn
  shape := fun B cs ty fz hB => by
    have : B < w₀.heap.size := heap_lt hB
    rw [World.putObj_heap_other (by omega)]; exact h.shape B cs ty fz hB
  new := h.new
  tape := h.tape
  os := h.os
  output := h.output
  le := h.le
  fresh := h.fresh

theorem leaves_marks {n N N' : Nat} {fn : Func} {tmps : Array Value} {R : Ending → World → Prop} {u : FrameMode} (hu : u ≠ .run) {ρ₀ ρ : Ren} {w₀ : World} : ∀ (l : List Nat) (w : World), Rel ρ σ w → Fr N N' ρ₀ ρ w₀ w → MarksOK ρ w l → (∀ D ∈ l, w₀.heap.size ≤ D) →
    (∀ w', Rel ρ σ w' → Fr N N' ρ₀ ρ w₀ w' → LeavesIn (FW none) n P fn tmps R [] u w') → LeavesInM (FW none) n P fn tmps R (l.map dmark) u w
  | [], w, hR, hF, _, _, h => h w hR hF
  | D :: l, w, hR, hF, hm, hge, h => by
    refine ⟨hu, .inl ⟨D, w.putObj D (.deferred none), rfl, run_takeDeferred (hm.here D (List.mem_cons_self ..)), ?_⟩⟩
    have hout := hm.out D (List.mem_cons_self ..)
    have hnd := List.nodup_cons.1 hm.once
    refine leaves_marks hu l _ (hR.putOut hout _) (hF.putOut (hge D (List.mem_cons_self ..)) _) ⟨?_, ?_, hnd.2⟩ (fun D' hD' => hge D' (List.mem_cons_of_mem _ hD')) h
    · intro D' hD'
      rw [World.putObj_heap_other (by rintro rfl; exact hnd.1 hD')]
      exact hm.here D' (List.mem_cons_of_mem _ hD')
    · intro D' hD'
      exact hm.out D' (List.mem_cons_of_mem _ hD')

/-! ### A function from its body -/
def putArgs : List HV → Nat → T HV → T HV
  | [], _, t => t
  | v :: vs, i, t => putArgs vs (i + 1) (t.set i v)

/-- The frame with which a body begins. -/
def enterH (nt : Nat) (gl : List Nat) (args : List HV) : HFrame := { slots := putArgs args 0 .e, nt, gl }

theorem putArgs_get : ∀ (vs : List HV) (i : Nat) (t : T HV) (k : Nat), (putArgs vs i t).get k = if i ≤ k ∧ k < i + vs.length then vs[k - i]? else t.get k
  | [], i, t, k => by
    have : ¬ (i ≤ k ∧ k < i + ([] : List HV).length) := by intro h; have := h.2; simp at this; omega
    rw [if_neg this]; rfl
  | v :: vs, i, t, k => by
    rw [putArgs, putArgs_get vs (i + 1) (t.set i v) k, T.get_set]
    simp only [List.length_cons]
    by_cases e : k = i
    · subst e
      rw [if_neg (by omega), if_pos rfl, if_pos (by omega)]
      simp
    · by_cases h : i + 1 ≤ k ∧ k < i + 1 + vs.length
      · rw [if_pos h, if_pos (by omega)]
        obtain ⟨m, hm⟩ : ∃ m, k - i = m + 1 := ⟨k - i - 1, by omega⟩
        have : k - (i + 1) = m := by omega
        rw [hm, this]
        rfl
      · rw [if_neg h, if_neg e, if_neg (by omega)]

theorem enterH_rel {ρ : Ren} {w : World} {args : List HV} {args' : Array Value} {nt : Nat} (hR : Rel ρ σ w) (ha : VsRel ρ args args'.toList) (hn : args.length ≤ nt) :
    SlotsRel ρ (enterH nt σ.globs args) (args' ++ Array.replicate (nt - args'.size) undef) := by
  have hl : args.length = args'.size := by simpa using ha.length
  refine ⟨by simp [enterH]; omega, fun t ht => ?_, fun g hg => hR.glob g hg⟩
  simp only [enterH] at ht
  simp only [HFrame.get, enterH, putArgs_get]
  by_cases h : t < args.length
  · rw [if_pos (by omega)]
    obtain ⟨y, h1, h2⟩ := ha.get (List.getElem?_eq_getElem h)
    have h3 : args'[t]? = some y := by simpa using h1
    have h4 : t < args'.size := by omega
    rw [Nat.sub_zero, List.getElem?_eq_getElem h, Option.getD_some, Array.getD_eq_getD_getElem?, Array.getElem?_append_left h4, h3]
    exact h2
  · rw [if_neg (by omega)]
    simp [VRel]

def leaveH (P : Program) (rs : List ResultVar) (R : HEnd → Store → Prop) : HExit → HFrame → Store → Prop
  | .normal, fr, σ | .ret, fr, σ => ∃ v, resultsH P rs fr σ = some v ∧ R (.returned v) σ
  | .panic v, _, σ => R (.panicked v) σ
  | _, _, _ => False

theorem HCall.of_body {f : FuncId} {fn : Func} {c : Code} {args : List HV} {R : HEnd → Store → Prop} (hf : P.funcs[f]? = some fn) (hb : fn.body = some c) (hn : args.length ≤ fn.ntmps)
    (h : HWp P none c (leaveH P fn.results.toList R) (enterH fn.ntmps σ.globs args) σ) : HCall P f args σ R := by
  intro n ρ w args' hR ha
  refine callsIn_of_wp_marks hf hb trivial (wpIn_mono (h n ρ w _ none rfl hR (enterH_rel hR ha hn)) ?_)
  rintro e a1 w1 ⟨x, fr1, σ1, ρ1, hx, hq, hR1, hS1, hl⟩
  obtain ⟨l, hds, hm, hge⟩ := hl.marks
  have hds : a1.defers = l.map dmark := by simpa using hds
  have ret : ∀ v, resultsH P fn.results.toList fr1 σ1 = some v → R (.returned v) σ1 → LeavesInM (FW none) n P fn a1.tmps (HEndPost σ.next ρ w R) a1.defers .returning w1 := by
    intro v hv hRv
    rw [hds]
    refine leaves_marks (by simp) l w1 hR1 hl.fr hm hge fun w' hR' hF' => ?_
    obtain ⟨v', hrun, hrel⟩ := results_run hR' hS1 hv
    exact ⟨v', hrun, .returned v, σ1, ρ1, ⟨v', rfl, hrel⟩, hRv, hR', hF'⟩
  cases x with
  | normal =>
    simp only [HExit.of] at hx
    subst hx
    obtain ⟨v, hv, hRv⟩ := hq
    exact ret v hv hRv
  | ret =>
    simp only [HExit.of] at hx
    subst hx
    obtain ⟨v, hv, hRv⟩ := hq
    exact ret v hv hRv
  | panic v =>
    obtain ⟨v', rfl, hv⟩ := hx
    show LeavesInM (FW none) n P fn a1.tmps (HEndPost σ.next ρ w R) a1.defers (.panicking _) w1
    rw [hds]
    refine leaves_marks (by simp) l w1 hR1 hl.fr hm hge fun w' hR' hF' => ?_
    exact ⟨.panicked v, σ1, ρ1, ⟨v', rfl, hv⟩, hq, hR', hF'⟩
  | exit id => exact hq.elim
  | goto l => exact hq.elim

end
end Go.HI

/- Code over the abstract heap: ranges over functions, and their rounds. -/
namespace Go.HI
noncomputable section

variable {P : Program} {o : Oper} {fr : HFrame} {σ : Store} {r : Option Nat} {Q : HExit → HFrame → Store → Prop}

/-- A block that no abstract one names. -/
theorem Rel.allocOut {ρ : Ren} {w : World} (h : Rel ρ σ w) (o : Obj) : Rel ρ σ (w.alloc o) where
  wf := h.wf
  dom := fun b L hb => ⟨(h.dom b L hb).1, by rw [heap_alloc_size]; have := (h.dom b L hb).2; omega⟩
  blk := fun b L x hb hx => (h.blk b L x hb hx).keep (.refl _) (fun _ _ _ h => h) (heap_alloc_lt w o (h.dom b L hb).2)
  inj := h.inj
  glob := h.glob

theorem Fr.allocOut {N : Nat} {ρ : Ren} {w : World} (o : Obj) : Fr N N ρ ρ w (w.alloc o) where
  sub := .refl _
  size := by rw [heap_alloc_size]; omega
  keep := fun B hB _ => heap_alloc_lt w o hB
  shape := fun B cs ty fz hB => ⟨cs, by rw [heap_alloc_lt w o (heap_lt hB)]; exact hB, rfl⟩
  new := fun b L h h' => by rw [h] at h'; cases h'
  tape := rfl
  os := rfl
  output := rfl
  le := Nat.le_refl _
  fresh := fun _ _ h => h


/-- What is asked when the function that was ranged over has ended. -/
def rangeEnd (P : Program) (r : Option Nat) (Q : HExit → HFrame → Store → Prop) (l : Nat) (fr : HFrame) : HEnd → Store → Prop
  | .returned _, σ => ∃ st pend lf ps as bo, σ.blks.get l = some (.loop st pend lf ps as bo) ∧ st ≠ .busy ∧
      (match pend with
       | none => Q .normal fr (σ.put l (.loop .exhausted none lf ps as bo))
       | some c => HWp P r c Q fr (σ.put l (.loop .exhausted (some c) lf ps as bo)))
  | .panicked v, σ => Q (.panic v) fr σ

theorem loop_at {ρ : Ren} {w : World} (hR : Rel ρ σ w) {b : Nat} {L : Loc} (hL : ρ b = some L) {st : LoopState} {pend : Option Code} {lf : HFrame} {ps : Array Tmp} {as bo : Code} (hb : σ.blks.get b = some (.loop st pend lf ps as bo)) :
    ∃ fn tmps D, w.heap[L.blk]? = some (.loop { state := st, pending := pend, fn, tmps, params := ps, assign := as, body := bo, defers := D }) ∧ SlotsRel ρ lf tmps := hR.blk b L _ hL hb

theorem loop_put {ρ : Ren} {w : World} (hR : Rel ρ σ w) {b : Nat} {L : Loc} (hL : ρ b = some L) {st st' : LoopState} {pend pend' : Option Code} {lf : HFrame} {ps : Array Tmp} {as bo : Code} (hb : σ.blks.get b = some (.loop st pend lf ps as bo))
    {fn : FuncId} {tmps : Array Value} {D : Nat} (hw : w.heap[L.blk]? = some (.loop { state := st, pending := pend, fn, tmps, params := ps, assign := as, body := bo, defers := D })) (hS : SlotsRel ρ lf tmps) :
    Rel ρ (σ.put b (.loop st' pend' lf ps as bo)) (w.putObj L.blk (.loop { state := st', pending := pend', fn, tmps, params := ps, assign := as, body := bo, defers := D })) ∧
      Fr σ.next σ.next ρ ρ w (w.putObj L.blk (.loop { state := st', pending := pend', fn, tmps, params := ps, assign := as, body := bo, defers := D })) :=
  hR.putObj hL hb (y := .loop st' pend' lf ps as bo) (by simp [HBlk.obj]) (by simp [HBlk.obj]) _ (fun cs ty fz => by rw [hw]; simp) ⟨fn, tmps, D, World.putObj_heap_same (heap_lt hw), hS⟩

theorem HWp.rangeFunc {g : Operand} {ps : Array Tmp} {assign body : Code} {f : FuncId} {first cap : List HV} (hg : fr.eval g = .func (.func f) first cap) (hb : hasBody P f = true)
    (h : HCall P f (first ++ [.func (.yield σ.next) [] []] ++ cap) (σ.push (.loop .ready none fr ps assign body)) (rangeEnd P none Q σ.next fr)) : HWp P none (.rangeFunc g ps assign body) Q fr σ := fun n ρ w a rc hr hR hS => by
  simp only [RoundAt] at hr
  subst hr
  refine wpIn_rangeFunc fun fn _ => ?_
  have hv := hS.eval g
  rw [hg] at hv
  simp only [VRel] at hv
  obtain ⟨fn', a1, c1, hv, rfl, hfirst, hcap⟩ := hv
  have hR0 := hR.allocOut (.deferred (some []))
  obtain ⟨w0, hw0⟩ : ∃ x, x = w.alloc (.deferred (some [])) := ⟨_, rfl⟩
  rw [← hw0] at hR0
  have hsz0 : w0.heap.size = w.heap.size + 1 := by rw [hw0, heap_alloc_size]
  obtain ⟨rec, hrec⟩ : ∃ x : Loop, x = { state := .ready, pending := none, fn, tmps := a.tmps, params := ps, assign, body, defers := w.heap.size } := ⟨_, rfl⟩
  obtain ⟨w1, hw1⟩ : ∃ x, x = w0.alloc (.loop rec) := ⟨_, rfl⟩
  obtain ⟨ρ1, hρ1⟩ : ∃ x, x = ρ.add σ.next ⟨w0.heap.size, 0, 0⟩ := ⟨_, rfl⟩
  have hsub : ρ.sub ρ1 := by rw [hρ1]; exact hR.sub_add _
  have hR1 : Rel ρ1 (σ.push (.loop .ready none fr ps assign body)) w1 := by
    rw [hρ1, hw1]
    refine hR0.alloc (by simp [HBlk.single]) _ _ ⟨fn, a.tmps, w.heap.size, ?_, hS⟩
    rw [heap_alloc_new, hrec]
  have hF1 : Fr σ.next (σ.next + 1) ρ ρ1 w w1 := by
    rw [hρ1, hw1]
    have e1 : Fr σ.next σ.next ρ ρ w w0 := by rw [hw0]; exact Fr.allocOut _
    exact e1.trans (Fr.alloc hR0 _ _)
  have hL1 : ρ1 σ.next = some ⟨w0.heap.size, 0, 0⟩ := by rw [hρ1]; exact Ren.add_same _ _ _
  have hM1 : MarksOK ρ1 w1 [w.heap.size] := by
    refine ⟨?_, ?_, by simp⟩
    · intro D hD
      simp only [List.mem_singleton] at hD
      subst hD
      rw [hw1, heap_alloc_lt _ _ (by omega), hw0, heap_alloc_new]
    · intro D hD b L hbL
      simp only [List.mem_singleton] at hD
      subst hD
      rw [hρ1] at hbL
      by_cases e : b = σ.next
      · subst e
        rw [Ren.add_same] at hbL
        cases hbL
        show w0.heap.size ≠ w.heap.size
        omega
      · rw [Ren.add_ne _ _ e] at hbL
        have := (hR.dom b L hbL).2
        omega
  have hlink : Link σ.next (σ.next + 1) ρ ρ1 w w1 a.defers ([dmark w.heap.size] ++ a.defers) := ⟨hF1, [w.heap.size], rfl, hM1, fun D hD => by simp only [List.mem_singleton] at hD; omega⟩
  refine ⟨w.heap.size + 1, [dmark w.heap.size], w1, { target := .fn (.func f) c1, args := a1 ++ #[.func (.yield (w.heap.size + 1)) #[] #[]] }, w1, f, a1 ++ #[.func (.yield (w.heap.size + 1)) #[] #[]] ++ c1, w1, ?_, ?_, fun _ _ => trivial, ?_, no_depth, ?_⟩
  · rw [show (FW none).round = none from rfl, run_enterLoop_outer, hw1, hrec, hw0]
    rfl
  · have e1 : (rangeCall g (w.heap.size + 1)).args.map a.eval = #[Value.func (.yield (w.heap.size + 1)) #[] #[]] := by simp [Act.eval]
    unfold resolve
    rw [e1]
    show (Deferred.ofValue (a.eval g) #[Value.func (.yield (w.heap.size + 1)) #[] #[]]).run P w1 = _
    rw [hv]
    rfl
  · simp [invoke, run_callFunc_body hb]
  · have hargs : VsRel ρ1 (first ++ [.func (.yield σ.next) [] []] ++ cap) (a1 ++ #[Value.func (.yield (w.heap.size + 1)) #[] #[]] ++ c1).toList := by
      simp only [Array.toList_append]
      refine VsRel.append (VsRel.append (VsRel.mono hsub _ _ hfirst) ?_) (VsRel.mono hsub _ _ hcap)
      rw [VsRel.cons_iff]
      refine ⟨?_, by simp⟩
      simp only [VRel]
      exact ⟨_, _, _, rfl, ⟨_, hL1, by rw [hsz0]⟩, rfl, rfl⟩
    refine CallsIn.mono (h (n - 1) ρ1 w1 _ hR1 hargs) ?_
    rintro e w3 ⟨x, σ2, ρ2, hx, hq, hR2, hF2⟩
    have hl2 : Link σ.next σ2.next ρ ρ2 w w3 a.defers ([dmark w.heap.size] ++ a.defers) := hlink.trans (.of_fr hF2)
    have hS2 : SlotsRel ρ2 fr a.tmps := hS.mono (hsub.trans hF2.sub)
    cases x with
    | returned v =>
      obtain ⟨v', rfl, hv'⟩ := hx
      obtain ⟨st, pend, lf, ps', as, bo, hblk, hst, hq⟩ := hq
      have hL2 := hF2.sub _ _ hL1
      obtain ⟨fn2, tm2, D2, hheap, hSl⟩ := loop_at hR2 hL2 hblk
      obtain ⟨hR4, hF4⟩ := loop_put (st' := .exhausted) (pend' := pend) hR2 hL2 hblk hheap hSl
      rw [hsz0] at hheap hR4 hF4
      simp only at hheap hR4 hF4
      have hend := run_endLoop (P := P) hheap hst
      refine ⟨pend, _, hend, ?_⟩
      have hl4 := hl2.trans (.of_fr hF4)
      cases pend with
      | none => exact ⟨.normal, fr, _, ρ2, rfl, hq, hR4, hS2, hl4⟩
      | some c => exact HWp.at hq rfl hR4 hS2 hl4
    | panicked v =>
      obtain ⟨v', rfl, hv'⟩ := hx
      exact ⟨.panic v, fr, σ2, ρ2, ⟨v', rfl, hv'⟩, hq, hR2, hS2, hl2⟩

/-! ### A round -/
def putParams : List Tmp → List HV → HFrame → HFrame
  | t :: ts, v :: vs, fr => putParams ts vs (fr.put (some t) v)
  | _, _, fr => fr

theorem putParams_rel {ρ : Ren} : ∀ (ts : List Tmp) (vs : List HV) (vs' : List Value) (fr : HFrame) (tmps : Array Value), SlotsRel ρ fr tmps → VsRel ρ vs vs' →
    SlotsRel ρ (putParams ts vs fr) ((ts.zip vs').foldl (fun tmps (p : Tmp × Value) => tmps.setIfInBounds p.1 p.2) tmps)
  | [], _, _, _, _, hS, _ => by simpa [putParams] using hS
  | t :: ts, [], vs', fr, tmps, hS, h => by
    simp only [VsRel] at h
    subst h
    simpa [putParams] using hS
  | t :: ts, v :: vs, [], fr, tmps, hS, h => by simp at h
  | t :: ts, v :: vs, v' :: vs', fr, tmps, hS, h => by
    rw [VsRel.cons_iff] at h
    simp only [putParams, List.zip_cons_cons, List.foldl_cons]
    have hS' : SlotsRel ρ (fr.put (some t) v) (({ tmps := tmps, defers := [] } : Act).put (some t) v').tmps := SlotsRel.put (a := { tmps := tmps, defers := [] }) hS (some t) h.1
    exact putParams_rel ts vs vs' _ _ hS' h.2

def jumpOf : HExit → Option (Option Code)
  | .normal => some none
  | .ret => some (some .ret)
  | .exit id => some (some (.exit id))
  | .goto l => some (some (.goto l))
  | .panic _ => none

def roundEnd (b : Nat) (R : HEnd → Store → Prop) (x : HExit) (_ : HFrame) (σ : Store) : Prop :=
  ∃ j st pend lf ps as bo, jumpOf x = some j ∧ σ.blks.get b = some (.loop st pend lf ps as bo) ∧ R (.returned (.bool j.isNone)) (σ.put b (.loop (if j.isNone then .ready else .done) j lf ps as bo))

def roundMid (P : Program) (b : Nat) (body : Code) (R : HEnd → Store → Prop) (x : HExit) (fr : HFrame) (σ : Store) : Prop :=
  (match x with | .normal => True | _ => False) ∧ ∃ pend lf ps as bo, σ.blks.get b = some (.loop .ready pend lf ps as bo) ∧ HWp P (some b) body (roundEnd b R) fr (σ.put b (.loop .busy pend lf ps as bo))

theorem HCallV.yield {b : Nat} {args : List HV} {R : HEnd → Store → Prop} {st : LoopState} {pend : Option Code} {lf : HFrame} {ps : Array Tmp} {assign body : Code} (hb : σ.blks.get b = some (.loop st pend lf ps assign body)) (hn : args.length = ps.size)
    (h : HWp P (some b) assign (roundMid P b body R) (putParams ps.toList args lf) σ) : HCallV P (.func (.yield b) [] []) args σ R := by
  intro n ρ w fv' args' rc hR hv ha
  simp only [VRel] at hv
  obtain ⟨fn', a, c, rfl, ⟨L, hL, rfl⟩, h1, h2⟩ := hv
  have ea : a = #[] := by simpa [VsRel] using h1
  have ec : c = #[] := by simpa [VsRel] using h2
  subst ea
  subst ec
  obtain ⟨fn, tmps, D, hheap, hSl⟩ := loop_at hR hL hb
  have hlen : args'.size = ps.size := by have := ha.length; simp at this; omega
  have hrun : (do let d ← Deferred.ofValue (.func (.yield L.blk) #[] #[]) args'; invoke d.target d.args : Sem Next).run P w =
      .ok (.round L.blk fn ((ps.zip args').foldl (fun tmps (t, a) => tmps.setIfInBounds t a) tmps) assign body) w := by
    simp only [Deferred.ofValue, pure_bind, invoke, Array.empty_append]
    exact run_yield hheap hlen
  rw [hrun]
  have hS0 := putParams_rel ps.toList args args'.toList lf tmps hSl ha
  have hfold : (ps.zip args').foldl (fun tmps (t, a) => tmps.setIfInBounds t a) tmps = (ps.toList.zip args'.toList).foldl (fun tmps (p : Tmp × Value) => tmps.setIfInBounds p.1 p.2) tmps := by
    rw [← Array.foldl_toList, Array.toList_zip]
  rw [hfold]
  obtain ⟨t0, ht0⟩ : ∃ x, x = (ps.toList.zip args'.toList).foldl (fun tmps (p : Tmp × Value) => tmps.setIfInBounds p.1 p.2) tmps := ⟨_, rfl⟩
  rw [← ht0] at hS0 ⊢
  refine roundIn_of_wpIn trivial (wpIn_mono (h n ρ w { tmps := t0, defers := [] } (some L.blk) ⟨L, hL, rfl⟩ hR hS0) ?_)
  rintro e a1 w1 ⟨x, fr1, σ1, ρ1, hx, hq, hR1, hS1, hl1⟩
  obtain ⟨hx0, pend1, lf1, ps1, as1, bo1, hb1, hbody⟩ := hq
  cases x <;> simp only at hx0
  simp only [HExit.of] at hx
  subst hx
  have hL1 := hl1.fr.sub _ _ hL
  obtain ⟨fn1, tm1, D1, hheap1, hSl1⟩ := loop_at hR1 hL1 hb1
  obtain ⟨hR2, hF2⟩ := loop_put (st' := .busy) (pend' := pend1) hR1 hL1 hb1 hheap1 hSl1
  refine ⟨_, run_beginRound hheap1 rfl, ?_⟩
  refine wpIn_mono (hbody n ρ1 _ a1 (some L.blk) ⟨L, hL1, rfl⟩ hR2 hS1) ?_
  rintro e a2 w2 ⟨x, fr2, σ2, ρ2, hx, ⟨j, st2, pend2, lf2, ps2, as2, bo2, hj, hb2, hRr⟩, hR3, hS3, hl3⟩
  have hL2 := hl3.fr.sub _ _ hL1
  obtain ⟨fn2, tm2, D2, hheap2, hSl2⟩ := loop_at hR3 hL2 hb2
  obtain ⟨hR4, hF4⟩ := loop_put (st' := if j.isNone then .ready else .done) (pend' := j) hR3 hL2 hb2 hheap2 hSl2
  have hend := run_endRound (P := P) j hheap2
  have hfin : HEndPost σ.next ρ w R (.returned (.bool j.isNone)) (w2.putObj L.blk (.loop { state := if j.isNone then .ready else .done, pending := j, fn := fn2, tmps := tm2, params := ps2, assign := as2, body := bo2, defers := D2 })) :=
    ⟨.returned (.bool j.isNone), _, ρ2, ⟨_, rfl, by simp [VRel]⟩, hRr, hR4, ((hl1.fr.trans hF2).trans hl3.fr).trans hF4⟩
  cases x with
  | normal =>
    simp only [jumpOf, Option.some.injEq] at hj
    subst hj
    simp only [HExit.of] at hx
    subst hx
    exact ⟨_, _, hend, hfin⟩
  | ret =>
    simp only [jumpOf, Option.some.injEq] at hj
    subst hj
    simp only [HExit.of] at hx
    subst hx
    exact ⟨_, _, hend, hfin⟩
  | exit id =>
    simp only [jumpOf, Option.some.injEq] at hj
    subst hj
    simp only [HExit.of] at hx
    subst hx
    exact ⟨_, _, hend, hfin⟩
  | goto l =>
    simp only [jumpOf, Option.some.injEq] at hj
    subst hj
    simp only [HExit.of] at hx
    subst hx
    exact ⟨_, _, hend, hfin⟩
  | panic v => cases hj

end
end Go.HI

/- The operations over the abstract heap look at their operands alone. -/
namespace Go.HI
noncomputable section

variable {P : Program} {o : Oper} {fr fr' : HFrame} {σ : Store}

theorem pureOp_congr (h : ∀ x ∈ o.op.operands, fr.eval x = fr'.eval x) : pureOp P o fr σ = pureOp P o fr' σ := by
  unfold pureOp
  split
  · rfl
  · rename_i hsel
    have e1 : allPlain fr o.op.operands.toList = allPlain fr' o.op.operands.toList := by
      have : ∀ l : List Operand, (∀ x ∈ l, fr.eval x = fr'.eval x) → allPlain fr l = allPlain fr' l := by
        intro l
        induction l with
        | nil => intro _; rfl
        | cons x l ih =>
          intro hl
          have h1 := ih fun y hy => hl y (List.mem_cons_of_mem _ hy)
          unfold allPlain at h1 ⊢
          rw [List.all_cons, List.all_cons, h1, hl x (List.mem_cons_self ..)]
      exact this _ fun x hx => h x (by simpa using hx)
    have e2 : execOp (pureEv fr) o = execOp (pureEv fr') o := by
      apply execOp_congr
      · intro cs b e
        rw [e] at hsel
        exact hsel rfl
      · intro x hx
        unfold pureEv
        rw [h x hx]
    rw [e1, e2]

theorem memOp_congr (h : ∀ x ∈ o.op.operands, fr.eval x = fr'.eval x) : memOp P o fr σ = memOp P o fr' σ := by
  have pairs : ∀ ps : Array (Nat × Operand), (∀ x ∈ (ps.toList.map (·.2)).toArray, fr.eval x = fr'.eval x) →
      (ps.toList.map fun (i, x) => (i, fr.eval x)) = (ps.toList.map fun (i, x) => (i, fr'.eval x)) := fun ps hp =>
    List.map_congr_left fun p hm => by
      obtain ⟨i, x⟩ := p
      have : fr.eval x = fr'.eval x := hp x (by simp only [List.mem_toArray, List.mem_map]; exact ⟨(i, x), hm, rfl⟩)
      simp only [this]
  have lists : ∀ xs : Array Operand, (∀ x ∈ xs, fr.eval x = fr'.eval x) → xs.toList.map fr.eval = xs.toList.map fr'.eval := fun xs hp =>
    List.map_congr_left fun x hx => hp x (by simpa using hx)
  obtain ⟨dst, op, type, pos, after, guard⟩ := o
  cases op <;> simp only [Op.operands] at h <;> simp only [memOp]
  case build t ps => rw [pairs ps h]
  case buildSlice t n ps => rw [pairs ps h]
  case makeFunc fn first captured =>
    rw [lists first fun x hx => h x (by simp [hx]), lists captured fun x hx => h x (by simp [hx])]
  case makeMap t r => cases r <;> rfl
  case slice t x lo hi mx => cases lo <;> cases hi <;> cases mx <;> simp_all
  case call c =>
    obtain ⟨callee, args, argTypes⟩ := c
    have ha := lists args fun x hx => h x (by simp [Call.operands, hx])
    cases callee with
    | value f =>
      have hf : fr.eval f = fr'.eval f := h f (by simp [Call.operands])
      simp only [ha, hf]
    | builtin b => simp only [ha]
    | invoke r m => rfl
  case binOp op t x y u => cases op <;> simp_all
  case next x b => cases b <;> simp_all
  all_goals (first | rfl | (simp_all; done))

theorem memOpP_congr (h : ∀ x ∈ o.op.operands, fr.eval x = fr'.eval x) : memOpP P o fr σ = memOpP P o fr' σ := by
  have lists : ∀ xs : Array Operand, (∀ x ∈ xs, fr.eval x = fr'.eval x) → xs.toList.map fr.eval = xs.toList.map fr'.eval := fun xs hp =>
    List.map_congr_left fun x hx => hp x (by simpa using hx)
  obtain ⟨dst, op, type, pos, after, guard⟩ := o
  cases op <;> simp only [Op.operands] at h <;> try rfl
  case convert src dst x => simp only [memOpP]; rw [h x (by simp)]
  case makeSlice t len cap => simp only [memOpP]; rw [h len (by simp), h cap (by simp)]
  case binOp op t x y u => simp only [memOpP]; rw [h x (by simp), h y (by simp)]
  case call c =>
    obtain ⟨callee, args, argTypes⟩ := c
    have ha := lists args fun x hx => h x (by simp [Call.operands, hx])
    cases callee with
    | builtin b => cases b <;> first | rfl | (simp only [memOpP, ha])
    | _ => rfl

theorem evalOp_congr (h : ∀ x ∈ o.op.operands, fr.eval x = fr'.eval x) : evalOp P o fr σ = evalOp P o fr' σ := by
  unfold evalOp evalOp0
  rw [memOpP_congr h, memOp_congr h, pureOp_congr h]

end
end Go.HI
