/- The operations over the abstract heap are the machine's: reading, writing, parts, conversions. -/
import Derived.Test.YtoadhpnmbchgcaaGreatDoorA1
import Derived.Laws.BytesString
import Derived.Laws.StructEq
namespace Go.HI
noncomputable section

variable {P : Program} {o : Oper} {fr : HFrame} {σ : Store}

theorem VRel.ptr_inv {ρ : Ren} {b o : Nat} {v : Value} (h : VRel ρ (.ptr (some (b, o))) v) : ∃ L, ρ b = some L ∧ v = .pointer (some ⟨L.blk, L.base + o, none⟩) := by
  simpa only [VRel] using h

theorem ok_load {t : TypeId} {x : Operand} {b off : Nat} {l : List HV} (h : o.op = .load t x) (hx : fr.eval x = .ptr (some (b, off)))
    (hu : (P.underlying t).isSome = true) (hl : σ.loadN b off (szOf P t) = some l) (h1 : isAggB P t = true ∨ l.length = 1) : OpOK P o fr σ (.val (mkLoad P t l) σ) := fun ρ w a hR hS => by
  have hv := hS.eval x
  rw [hx] at hv
  obtain ⟨L, hL, hv⟩ := hv.ptr_inv
  obtain ⟨cs, hc, hfit, hlen, hrel⟩ := hR.loadN hL hl
  rw [hlen] at h1
  refine ValOK.pure hR (v' := if isAggB P t then .agg ⟨(cs.toList.drop (L.base + off)).take (szOf P t)⟩ else cs.getD (L.base + off) undef) ?_ ?_
  · simp only [execOp, h, Instr.loadAt, hv, Instr.sureAddr, Sem.run_bind, Sem.run_pure, Result.andThen_ok, loadVar_at hc hu _ hfit h1]
  · unfold mkLoad
    cases hb : isAggB P t with
    | true => simp only [if_true, VRel]; exact ⟨_, rfl, hrel⟩
    | false =>
      rcases h1 with h1 | h1
      · rw [hb] at h1; cases h1
      · simp only [Bool.false_eq_true, if_false]
        match l, hlen with
        | [y], _ =>
          rw [h1] at hrel hfit
          have hlt : L.base + off < cs.size := by omega
          have : (cs.toList.drop (L.base + off)).take 1 = [cs[L.base + off]] := by
            rw [List.take_one, List.head?_drop]
            simp [hlt]
          rw [this, VsRel.cons_iff] at hrel
          simpa [hlt] using hrel.1
        | [], h0 => simp at h0; omega
        | _ :: _ :: _, h0 => simp at h0; omega

theorem ok_store {t : TypeId} {x y : Operand} {b off : Nat} {σ' : Store} (h : o.op = .store t x y) (hx : fr.eval x = .ptr (some (b, off))) (hi : (P.info? t).isSome = true)
    (hn : isAny (fr.eval y) = false) (hlen : (fr.eval y).cells.length = szOf P t) (hsc : (fr.eval y).cells.all scalarHV = true) (hs : σ.storeN b off (fr.eval y).cells = some σ') :
    OpOK P o fr σ (.val (.tuple []) σ') := fun ρ w a hR hS => by
  have hv := hS.eval x
  rw [hx] at hv
  obtain ⟨L, hL, hv⟩ := hv.ptr_inv
  have hy := (hS.eval y).cells hn
  obtain ⟨i, hi⟩ := Option.isSome_iff_exists.1 hi
  obtain ⟨_, _, _, c, k, hc, hfit, _, _⟩ := hR.wf.store hs
  obtain ⟨cs, hcs, hfit2, hrel⟩ := hR.cellsAt hL hc
  have hyl := hy.length
  simp only [Array.length_toList] at hyl
  obtain ⟨ty0, fz0, hcs0, htot, hfz0⟩ := id hcs
  obtain ⟨w', h1, h2⟩ := storeVar_at (P := P) hcs hi (L.base + off) (a.eval y) (by omega) (by omega) (VsRel.oneCells hsc hy)
  obtain ⟨h3, h4⟩ := hR.store hs hL hy h2
  refine ⟨undef, w', ρ, .inr ⟨?_, rfl⟩, by simp [VRel, undef], h3, h4⟩
  simp only [execOp, h, Instr.storeAt, hv, Instr.sureAddr, Sem.run_bind, Sem.run_pure, Result.andThen_ok, h1, pure_bind]

theorem ok_nilCheck_panic {x : Operand} (h : o.op = .nilCheck x) (hx : fr.eval x = .ptr none ∨ fr.eval x = .nilIface ∨ fr.eval x = .nilFunc) : OpOK P o fr σ (.panic .any) := fun ρ w a hR hS => by
  have hv := hS.eval x
  have : a.eval x = .pointer none ∨ a.eval x = .nilIface ∨ a.eval x = .nilFunc := by
    rcases hx with hx | hx | hx <;> rw [hx] at hv <;> simp only [VRel] at hv <;> simp [hv]
  refine ⟨.iface P.rt.errorString (strVal "invalid memory address or nil pointer dereference"), w, ?_, by simp [VRel], hR, .refl _ _⟩
  rcases this with h1 | h1 | h1 <;> simp [execOp, h, h1, runtimePanic]

theorem ok_nilCheck {x : Operand} (h : o.op = .nilCheck x) (hx : (∃ p, fr.eval x = .ptr (some p)) ∨ (∃ f b c, fr.eval x = .func (.func f) b c) ∨ (∃ l b c, fr.eval x = .func (.yield l) b c)) :
    OpOK P o fr σ (.val (fr.eval x) σ) := fun ρ w a hR hS => by
  have hv := hS.eval x
  refine ValOK.pure hR ?_ hv
  rcases hx with ⟨⟨b, off⟩, hx⟩ | ⟨f, b, c, hx⟩ | ⟨l, b, c, hx⟩
  · rw [hx] at hv
    obtain ⟨L, hL, hv⟩ := hv.ptr_inv
    simp [execOp, h, hv]
  · rw [hx] at hv
    simp only [VRel] at hv
    obtain ⟨fn', a', c', h1, rfl, _⟩ := hv
    simp [execOp, h, h1]
  · rw [hx] at hv
    simp only [VRel] at hv
    obtain ⟨fn', a', c', h1, ⟨L, _, rfl⟩, _⟩ := hv
    simp [execOp, h, h1]

theorem eqNil_run {ρ : Ren} {t : TypeId} {x y : HV} {x' y' : Value} {r : Bool} (h : eqNil P t x y = some r) (hx : VRel ρ x x') (hy : VRel ρ y y') (w : World) (op : BinOp) (p q : Operand) :
    (∀ d, (Op.equalIn (d + 1) t x' y').run P w = .ok r w) ∧ (eqGuard op t p q x' y').run P w = .ok () w ∧ binOp .eql t x' y' = (do pure (.bool (← Op.equal t x' y'))) ∧
      binOp .neq t x' y' = (do pure (.bool (!(← Op.equal t x' y')))) := by
  unfold eqNil at h
  split at h
  · rename_i e a hu
    simp only [Option.some.injEq] at h
    subst h
    have hy' : y' = .pointer none := by simpa [VRel] using hy
    subst hy'
    cases a with
    | none =>
      have hx' : x' = .pointer none := by simpa [VRel] using hx
      subst hx'
      refine ⟨fun d => by simp [Op.equalIn, underlying_run hu], by simp [eqGuard], rfl, rfl⟩
    | some b =>
      obtain ⟨L, hL, rfl⟩ := VRel.ptr_inv (b := b.1) (o := b.2) hx
      refine ⟨fun d => by simp [Op.equalIn, underlying_run hu], by simp [eqGuard], rfl, rfl⟩
  · rename_i e a _ hu
    simp only [Option.some.injEq] at h
    subst h
    have hx' : x' = .pointer none := by simpa [VRel] using hx
    subst hx'
    cases a with
    | none =>
      have hy' : y' = .pointer none := by simpa [VRel] using hy
      subst hy'
      refine ⟨fun d => by simp [Op.equalIn, underlying_run hu], by simp [eqGuard], rfl, rfl⟩
    | some b =>
      obtain ⟨L, hL, rfl⟩ := VRel.ptr_inv (b := b.1) (o := b.2) hy
      refine ⟨fun d => by simp [Op.equalIn, underlying_run hu], by simp [eqGuard], rfl, rfl⟩
  · rename_i e a n s m s' hu
    simp only [Option.some.injEq] at h
    subst h
    have hy' : y' = .slice none 0 0 := by simp only [VRel] at hy; exact hy.2
    subst hy'
    cases a with
    | none =>
      have hx' : x' = .slice none 0 0 := by simp only [VRel] at hx; exact hx.2
      subst hx'
      refine ⟨fun d => by simp [Op.equalIn, underlying_run hu], by simp [eqGuard], rfl, rfl⟩
    | some b =>
      simp only [VRel] at hx
      rcases hx with ⟨L, cap, _, _, _, rfl⟩ | ⟨_, a, rfl⟩
      · refine ⟨fun d => by simp [Op.equalIn, underlying_run hu], by simp [eqGuard], rfl, rfl⟩
      · refine ⟨fun d => by simp [Op.equalIn, underlying_run hu], by simp [eqGuard], rfl, rfl⟩
  · rename_i e m s' a n s _ hu
    simp only [Option.some.injEq] at h
    subst h
    have hx' : x' = .slice none 0 0 := by simp only [VRel] at hx; exact hx.2
    subst hx'
    cases a with
    | none =>
      have hy' : y' = .slice none 0 0 := by simp only [VRel] at hy; exact hy.2
      subst hy'
      refine ⟨fun d => by simp [Op.equalIn, underlying_run hu], by simp [eqGuard], rfl, rfl⟩
    | some b =>
      simp only [VRel] at hy
      rcases hy with ⟨L, cap, _, _, _, rfl⟩ | ⟨_, a, rfl⟩
      · refine ⟨fun d => by simp [Op.equalIn, underlying_run hu], by simp [eqGuard], rfl, rfl⟩
      · refine ⟨fun d => by simp [Op.equalIn, underlying_run hu], by simp [eqGuard], rfl, rfl⟩
  · rename_i k e a hu
    simp only [Option.some.injEq] at h
    subst h
    have hy' : y' = .map none := by simpa [VRel] using hy
    subst hy'
    cases a with
    | none =>
      have hx' : x' = .map none := by simpa [VRel] using hx
      subst hx'
      refine ⟨fun d => by simp [Op.equalIn, underlying_run hu], by simp [eqGuard], rfl, rfl⟩
    | some b =>
      simp only [VRel] at hx
      obtain ⟨L, hL, rfl⟩ := hx
      refine ⟨fun d => by simp [Op.equalIn, underlying_run hu], by simp [eqGuard], rfl, rfl⟩
  · rename_i k e a _ hu
    simp only [Option.some.injEq] at h
    subst h
    have hx' : x' = .map none := by simpa [VRel] using hx
    subst hx'
    cases a with
    | none =>
      have hy' : y' = .map none := by simpa [VRel] using hy
      subst hy'
      refine ⟨fun d => by simp [Op.equalIn, underlying_run hu], by simp [eqGuard], rfl, rfl⟩
    | some b =>
      simp only [VRel] at hy
      obtain ⟨L, hL, rfl⟩ := hy
      refine ⟨fun d => by simp [Op.equalIn, underlying_run hu], by simp [eqGuard], rfl, rfl⟩
  · rename_i ps rs vv f b c hu
    simp only [Option.some.injEq] at h
    subst h
    have hy' : y' = .nilFunc := by simpa [VRel] using hy
    subst hy'
    simp only [VRel] at hx
    obtain ⟨_, _, _, rfl, _⟩ := hx
    refine ⟨fun d => by simp [Op.equalIn, underlying_run hu], by simp [eqGuard], rfl, rfl⟩
  · rename_i ps rs vv f b c hu
    simp only [Option.some.injEq] at h
    subst h
    have hx' : x' = .nilFunc := by simpa [VRel] using hx
    subst hx'
    simp only [VRel] at hy
    obtain ⟨_, _, _, rfl, _⟩ := hy
    refine ⟨fun d => by simp [Op.equalIn, underlying_run hu], by simp [eqGuard], rfl, rfl⟩
  · rename_i ms tt vv hu
    simp only [Option.some.injEq] at h
    subst h
    have hy' : y' = .nilIface := by simpa [VRel] using hy
    subst hy'
    simp only [VRel] at hx
    obtain ⟨_, rfl, _⟩ := hx
    refine ⟨fun d => by simp [Op.equalIn, underlying_run hu], by simp [eqGuard], rfl, rfl⟩
  · rename_i ms tt vv hu
    simp only [Option.some.injEq] at h
    subst h
    have hx' : x' = .nilIface := by simpa [VRel] using hx
    subst hx'
    simp only [VRel] at hy
    obtain ⟨_, rfl, _⟩ := hy
    refine ⟨fun d => by simp [Op.equalIn, underlying_run hu], by simp [eqGuard], rfl, rfl⟩
  · cases h

theorem ok_eqlNil {t u : TypeId} {x y : Operand} {r : Bool} (h : o.op = .binOp .eql t x y u) (he : eqNil P t (fr.eval x) (fr.eval y) = some r) : OpOK P o fr σ (.val (.bool r) σ) := fun ρ w a hR hS => by
  obtain ⟨h1, h2, h3, _⟩ := eqNil_run he (hS.eval x) (hS.eval y) w .eql x y
  have h4 : (Op.equal t (a.eval x) (a.eval y)).run P w = .ok r w := h1 9999
  refine ValOK.pure hR (v' := .bool r) ?_ (by simp [VRel])
  simp only [execOp, h, Sem.run_bind, h2, Result.andThen_ok, h3, h4, Sem.run_pure]
theorem ok_neqNil {t u : TypeId} {x y : Operand} {r : Bool} (h : o.op = .binOp .neq t x y u) (he : eqNil P t (fr.eval x) (fr.eval y) = some r) : OpOK P o fr σ (.val (.bool !r) σ) := fun ρ w a hR hS => by
  obtain ⟨h1, h2, _, h3⟩ := eqNil_run he (hS.eval x) (hS.eval y) w .neq x y
  have h4 : (Op.equal t (a.eval x) (a.eval y)).run P w = .ok r w := h1 9999
  refine ValOK.pure hR (v' := .bool !r) ?_ (by simp [VRel])
  simp only [execOp, h, Sem.run_bind, h2, Result.andThen_ok, h3, h4, Sem.run_pure]

theorem bytes_ok {ρ : Ren} : ∀ {l : List HV} {s : List UInt8} {vs : List Value}, bytesOf? l = some s → VsRel ρ l vs →
    ∃ ns : List Int, vs = ns.map (Value.int .u8) ∧ ∀ acc : ByteArray, ns.foldl (fun r n => r.push (UInt8.ofNat n.toNat)) acc = ⟨⟨acc.data.toList ++ s⟩⟩
  | [], s, vs, h, hr => by
    simp only [bytesOf?, Option.some.injEq] at h
    subst h
    simp only [VsRel] at hr
    subst hr
    exact ⟨[], rfl, fun acc => by simp⟩
  | x :: l, s, vs, h, hr => by
    cases vs with
    | nil => simp at hr
    | cons v vs =>
      rw [VsRel.cons_iff] at hr
      unfold bytesOf? at h
      split at h
      · rename_i e; cases e
      · rename_i n l' e
        simp only [List.cons.injEq] at e
        obtain ⟨rfl, rfl⟩ := e
        simp only [Option.map_eq_some_iff] at h
        obtain ⟨s', h1, rfl⟩ := h
        obtain ⟨ns, h2, h3⟩ := bytes_ok h1 hr.2
        have hv : v = .int .u8 n := by simpa [VRel] using hr.1
        refine ⟨n :: ns, by rw [hv, h2]; rfl, fun acc => ?_⟩
        rw [List.foldl_cons, h3]
        simp
      · cases h

theorem ok_toString {src dst e : TypeId} {x : Operand} {b off n : Nat} {l : List HV} {s : List UInt8} (h : o.op = .convert src dst x) (hs : P.underlying src = some (.slice e)) (hd : P.underlying dst = some .string)
    (he : P.underlying e = some (.int .u8)) (hx : fr.eval x = .slice (some (b, off)) n 1) (hl : σ.loadN b off n = some l) (hb : bytesOf? l = some s) : OpOK P o fr σ (.val (.str s) σ) := fun ρ w a hR hS => by
  have hv := hS.eval x
  rw [hx] at hv
  refine ValOK.pure hR (v' := .string ⟨⟨s⟩⟩) ?_ (by simp [VRel])
  simp only [VRel] at hv
  rcases hv with ⟨L, cap, hL, hle, hfit, hv⟩ | ⟨hn0, ad, hv⟩
  · obtain ⟨cs, hc, hfit2, hlen, hrel⟩ := hR.loadN hL hl
    obtain ⟨ns, h1, h2⟩ := bytes_ok hb hrel
    have hrun : (loadCells ⟨L.blk, L.base + off, none⟩ n).run P w = .ok (ns.map (Value.int .u8)).toArray w := by
      rw [loadCells_at hc _ _ hfit2, h1]
    simp only [execOp, h, hv, Sem.run_bind, run_convert_bytes_string w src dst e _ _ _ hs he hd, run_bytesToString w _ n cap ns hrun, Result.andThen_ok, Sem.run_pure, h2]
    rfl
  · subst hn0
    have hls : l = [] := by
      have := hl
      unfold Store.loadN at this
      split at this
      · split at this
        · simp only [List.take_zero, Option.some.injEq] at this; exact this.symm
        · cases this
      · cases this
    subst hls
    simp only [bytesOf?, Option.some.injEq] at hb
    subst hb
    have hrun : (loadCells ad 0).run P w = .ok ((([] : List Int).map (Value.int .u8)).toArray) w := by simp [loadCells, loadCellsFrom]
    simp only [execOp, h, hv, Sem.run_bind, run_convert_bytes_string w src dst e _ _ _ hs he hd, run_bytesToString w _ 0 0 [] hrun, Result.andThen_ok, Sem.run_pure]
    rfl

theorem ok_toString_nil {src dst e : TypeId} {x : Operand} {n m : Nat} (h : o.op = .convert src dst x) (hs : P.underlying src = some (.slice e)) (hd : P.underlying dst = some .string)
    (he : P.underlying e = some (.int .u8)) (hx : fr.eval x = .slice none n m) : OpOK P o fr σ (.val (.str []) σ) := fun ρ w a hR hS => by
  have hv := hS.eval x
  rw [hx] at hv
  simp only [VRel] at hv
  refine ValOK.pure hR (v' := .string ⟨⟨[]⟩⟩) ?_ (by simp [VRel])
  simp only [execOp, h, hv.2, Sem.run_bind, run_convert_bytes_string w src dst e _ _ _ hs he hd, Conv.bytesToString, Result.andThen_ok, Sem.run_pure]
  rfl

theorem alloc_freeze (w : World) (cs : Array Value) (ty : TypeId) (n : Nat) :
    (w.alloc (.cells cs ty)).freeze ⟨w.heap.size, n, none⟩ 1 = w.alloc (.cells cs ty (n, n + 1)) := by
  have h : ∀ (hp : Array Obj) (x y : Obj) (f : Obj → Obj), f x = y → (hp.push x).modify hp.size f = hp.push y := by
    intro hp x y f e
    apply Array.ext
    · simp
    · intro i h1 h2
      rw [Array.getElem_modify]
      split
      · rename_i e2; subst e2; simp [e]
      · rename_i e2
        have : i < hp.size := by simp at h2; omega
        simp [Array.getElem_push, this]
  show World.freeze { w with heap := w.heap.push (.cells cs ty) } _ 1 = { w with heap := w.heap.push (.cells cs ty (n, n + 1)) }
  unfold World.freeze
  rw [if_neg (by decide)]
  simp only
  rw [h]
  simp

theorem ok_toBytes {src dst e : TypeId} {x : Operand} {s : List UInt8} (h : o.op = .convert src dst x) (hs : P.underlying src = some .string) (hd : P.underlying dst = some (.slice e))
    (he : P.underlying e = some (.int .u8)) (hx : fr.eval x = .str s) :
    OpOK P o fr σ (.val (.slice (some (σ.next, 0)) s.length 1) (σ.pushArr (s.map fun b => .int .u8 b.toNat))) := fun ρ w a hR hS => by
  have hv := hS.eval x
  rw [hx] at hv
  simp only [VRel] at hv
  obtain ⟨cap, w1, hch, hcap, hh⟩ : ∃ cap w1, (choose (.appendCap s.length 0 e)).run P w = .ok cap w1 ∧ s.length ≤ cap ∧ World.sameHeap w w1 := by
    simp only [run_choose, Question.forced, Bool.false_eq_true, if_false, Question.cut]
    exact ⟨_, _, rfl, by omega, rfl, rfl, rfl, rfl⟩
  have hR1 := hR.same hh.1
  have hF1 := Fr.same (N := σ.next) (ρ := ρ) hh
  obtain ⟨elems, hel⟩ : ∃ e : Array Value, e = (⟨⟨s⟩⟩ : ByteArray).data.map fun b => Value.int .u8 b.toNat := ⟨_, rfl⟩
  have hrun : (execOp a.eval o).run P w = .ok (.value (.slice (some ⟨w1.heap.size, 0, none⟩) s.length cap)) (w1.alloc (.cells (elems ++ Array.replicate (cap - s.length) (Value.int .u8 0)) e ((elems ++ Array.replicate (cap - s.length) (Value.int .u8 0)).size, (elems ++ Array.replicate (cap - s.length) (Value.int .u8 0)).size + 1))) := by
    have hsz : (⟨⟨s⟩⟩ : ByteArray).size = s.length := rfl
    have hshape : (w1.alloc (.cells (elems ++ Array.replicate (cap - s.length) (Value.int .u8 0)) e)).shape? w1.heap.size = some (e, (elems ++ Array.replicate (cap - s.length) (Value.int .u8 0)).size) := by
      unfold World.shape?
      rw [heap_alloc_new]
    rw [← alloc_freeze]
    simp only [execOp, h, hv, convert, Sem.run_bind, underlying_run hs, underlying_run hd, underlying_run he, Result.andThen_ok, Conv.stringToBytes, hsz, hch, newRow_run, ← hel, markStringish, run_shape, hshape, run_freeze, Sem.run_pure]
  obtain ⟨v', w', ρ', h1, h2, h3, h4⟩ := ValOK.newArr (c := s.map fun b => .int .u8 b.toNat) (t := e) (n := s.length) (size := 1) (cap := cap) hR1 (fz := ((elems ++ Array.replicate (cap - s.length) (Value.int .u8 0)).size, (elems ++ Array.replicate (cap - s.length) (Value.int .u8 0)).size + 1)) (fun i hi => by omega) hrun
    (by simp [hel]) (by
      have : (elems ++ Array.replicate (cap - s.length) (Value.int .u8 0)).toList.take (s.map fun b => HV.int .u8 b.toNat).length = s.map fun b => Value.int .u8 b.toNat := by
        simp [hel]
      rw [this]
      exact VsRel.map _ fun b _ => by simp [VRel]) hcap (by simp [hel]; have : (⟨s⟩ : Array UInt8).size = s.length := rfl; omega)
  exact ⟨v', w', ρ', h1, h2, h3, hF1.trans h4⟩

theorem ok_makeInterface {t : TypeId} {x : Operand} {d : TypeDesc} (h : o.op = .makeInterface t x) (hu : P.underlying t = some d) (hd : ∀ ms, d ≠ .interface ms) : OpOK P o fr σ (.val (.iface t (fr.eval x)) σ) := fun ρ w a hR hS => by
  refine ValOK.pure hR (v' := .iface t (a.eval x)) ?_ (by simp only [VRel]; exact ⟨_, rfl, hS.eval x⟩)
  simp only [execOp, h, Instr.makeInterface, Sem.run_bind, underlying_run hu, Result.andThen_ok]
  cases d <;> first | rfl | exact absurd rfl (hd _)

theorem ok_makeFunc {fn : Fn} {first captured : Array Operand} (h : o.op = .makeFunc fn first captured) (hf : ∀ l, fn ≠ .yield l) :
    OpOK P o fr σ (.val (.func fn (first.toList.map fr.eval) (captured.toList.map fr.eval)) σ) := fun ρ w a hR hS => by
  refine ValOK.pure hR (v' := .func fn (first.map a.eval) (captured.map a.eval)) ?_ ?_
  · simp [execOp, h, Instr.makeFunc]
  · simp only [VRel]
    refine ⟨fn, _, _, rfl, ?_, ?_, ?_⟩
    · cases fn <;> first | rfl | exact absurd rfl (hf _)
    · simp only [Array.toList_map]; exact VsRel.map _ fun x _ => hS.eval x
    · simp only [Array.toList_map]; exact VsRel.map _ fun x _ => hS.eval x

theorem ok_makeMap {t : TypeId} (h : o.op = .makeMap t none) : OpOK P o fr σ (.val (.map (some σ.next)) (σ.push (.map [] 0))) := fun ρ w a hR hS => by
  refine ⟨.map (some w.heap.size), w.alloc (.map #[] 0), ρ.add σ.next ⟨w.heap.size, 0, 0⟩, .inl ?_, ?_, hR.alloc (by simp [HBlk.single]) _ _ ?_, Fr.alloc hR _ _⟩
  · simp [execOp, h, Instr.makeMap]
  · simp only [VRel]; exact ⟨_, Ren.add_same _ _ _, rfl⟩
  · exact ⟨#[], heap_alloc_new w _, rfl⟩

end
end Go.HI

/- The operations over the abstract heap are the machine's: slices, places, parts. -/
namespace Go.HI
noncomputable section

variable {P : Program} {o : Oper} {fr : HFrame} {σ : Store}

theorem VRel.int_inv {ρ : Ren} {x : HV} {v : Value} {n : Int} (h : intOf? x = some n) (hr : VRel ρ x v) : ∃ k, v = .int k n := by
  cases x <;> simp [intOf?] at h
  subst h
  simp only [VRel] at hr
  exact ⟨_, hr⟩

theorem wrap_i64 {n : Int} (h0 : -9223372036854775808 ≤ n) (h1 : n ≤ 9223372036854775807) : IntKind.i64.wrap n = n := by
  simp [IntKind.wrap, IntKind.bits, IntKind.signed]
  omega

theorem run_makeSlice {ρ : Ren} {w : World} {a : Act} {t : TypeId} {len cap : Operand} {elem : TypeId} {l c : Int} {z : HV} {cells : List HV} (h : o.op = .makeSlice t len cap) (hu : P.underlying t = some (.slice elem))
    (hl : intOf? (fr.eval len) = some l) (hc : intOf? (fr.eval cap) = some c) (h0 : 0 ≤ l) (hlc : l ≤ c) (hc40 : c ≤ 2 ^ 40) (hb : P.bytesOf elem * c.toNat ≤ 2 ^ 48) (hz : zeroHV P elem = some z) (hzl : z.cells.length = szOf P elem)
    (hcells : cells = (List.replicate l.toNat z.cells).flatten) (hS : SlotsRel ρ fr a.tmps) :
    ∃ cs : Array Value, (execOp a.eval o).run P w = .ok (.value (.slice (some ⟨w.heap.size, 0, none⟩) l.toNat c.toNat)) (w.alloc (.cells cs elem)) ∧ VsRel ρ cells (cs.toList.take cells.length) ∧ cs.size = c.toNat * szOf P elem ∧ cells.length = l.toNat * szOf P elem := by
  obtain ⟨v, hv, hzn, hrun, i, hti⟩ := zero_run (ρ := ρ) hz
  obtain ⟨kl, hvl⟩ := VRel.int_inv hl (hS.eval len)
  obtain ⟨kc, hvc⟩ := VRel.int_inv hc (hS.eval cap)
  have hwl : IntKind.i64.wrap l = l := by
    exact wrap_i64 (by omega) (by omega)
  have hwc : IntKind.i64.wrap c = c := by
    exact wrap_i64 (by omega) (by omega)
  have hbi : i.bytes = P.bytesOf elem := by simp [Program.bytesOf, hti]
  have hbytes : (i.bytes : Int) * c ≤ 2 ^ 48 := by
    rw [hbi]
    have : c = (c.toNat : Int) := by omega
    rw [this]
    exact_mod_cast hb
  have hzero := zeros_ok (hv.cells hzn) c.toNat (szOf P elem) hzl
  obtain ⟨cs, hcs⟩ : ∃ cs : Array Value, cs = (Array.range (c.toNat * szOf P elem)).map ((if c.toNat * szOf P elem = 0 then #[] else v.cells)[· % (if c.toNat * szOf P elem = 0 then #[] else v.cells).size]!) := ⟨_, rfl⟩
  rw [← hcs] at hzero
  have hsz : cs.size = c.toNat * szOf P elem := by rw [hcs]; simp
  have hcl : cells.length = l.toNat * szOf P elem := by rw [hcells]; simp [hzl]
  have hle : l.toNat * szOf P elem ≤ c.toNat * szOf P elem := Nat.mul_le_mul_right _ (by omega)
  refine ⟨cs, ?_, ?_, hsz, hcl⟩
  · have hnot : ¬ ((decide (c < 0) || decide ((i.bytes : Int) * c > 2 ^ 48) || decide (l < 0) || decide (l > c)) = true) := by
      simp
      omega
    simp only [execOp, h, hvl, hvc, Instr.makeSlice, Sem.run_bind, underlying_run hu, Result.andThen_ok, asInt, asIntOf, Sem.run_pure, typeInfo_run hti, hwl, hwc]
    rw [if_neg hnot]
    simp only [Sem.run_bind, run_askRoom, Result.andThen_ok, sizeOf_run hti]
    by_cases e : c.toNat * szOf P elem = 0
    · simp only [e, if_true, pure_bind, Sem.run_bind, newRow_run, Result.andThen_ok, Sem.run_pure] at hcs ⊢
      rw [← hcs]
    · simp only [e, if_false, Sem.run_bind, hrun, newRow_run, Result.andThen_ok, Sem.run_pure] at hcs ⊢
      rw [← hcs]
  · have h1 := hzero.take cells.length
    have h2 : ((List.replicate c.toNat z.cells).flatten).take cells.length = cells := by
      rw [hcl, hcells, ← hzl]
      have : List.replicate c.toNat z.cells = List.replicate l.toNat z.cells ++ List.replicate (c.toNat - l.toNat) z.cells := by
        rw [List.replicate_append_replicate]
        congr 1
        omega
      rw [this, List.flatten_append, List.take_append_of_le_length (by simp)]
      rw [List.take_of_length_le (by simp)]
    rw [h2] at h1
    exact h1

theorem ok_makeSlice {t : TypeId} {len cap : Operand} {elem : TypeId} {l c : Int} {z : HV} {cells : List HV} (h : o.op = .makeSlice t len cap) (hu : P.underlying t = some (.slice elem))
    (hl : intOf? (fr.eval len) = some l) (hc : intOf? (fr.eval cap) = some c) (h0 : 0 ≤ l) (hlc : l ≤ c) (hc40 : c ≤ 2 ^ 40) (hb : P.bytesOf elem * c.toNat ≤ 2 ^ 48) (hz : zeroHV P elem = some z) (hzl : z.cells.length = szOf P elem)
    (hcells : cells = (List.replicate l.toNat z.cells).flatten) :
    OpOK P o fr σ (.val (.slice (some (σ.next, 0)) l.toNat (szOf P elem)) (σ.pushArr cells)) := fun ρ w a hR hS => by
  obtain ⟨cs, hrun, hv, hsz, hcl⟩ := run_makeSlice (w := w) h hu hl hc h0 hlc hc40 hb hz hzl hcells hS
  have hle : l.toNat * szOf P elem ≤ c.toNat * szOf P elem := Nat.mul_le_mul_right _ (by omega)
  exact ValOK.newArr (cs := cs) (t := elem) (cap := c.toNat) (fz := (0, 0)) hR (fun i _ => by simp) hrun (by omega) hv (by omega) (by omega)

/-! ### Slice expressions -/
theorem bounds_run {ρ : Ren} {isS : Bool} {len cap : Nat} {lo hi : Option HV} {lo' hi' : Option Value} {l h : Nat} (hb : bounds2 len lo hi = some (l, h))
    (hlo : (lo = none ∧ lo' = none) ∨ ∃ x x', lo = some x ∧ lo' = some x' ∧ VRel ρ x x') (hhi : (hi = none ∧ hi' = none) ∨ ∃ x x', hi = some x ∧ hi' = some x' ∧ VRel ρ x x') (hc : len ≤ cap) (w : World) :
    (Instr.sliceBounds isS len cap lo' hi' none).run P w = .ok (l, h, cap) w ∧ l ≤ h ∧ h ≤ len := by
  unfold bounds2 at hb
  cases hH : optInt len hi with
  | none => simp [hH] at hb
  | some hI =>
  cases hL : optInt 0 lo with
  | none => simp [hH, hL] at hb
  | some lI =>
  rw [hH, hL] at hb
  simp only at hb
  split at hb
  · rename_i hcond
    simp only [Option.some.injEq, Prod.mk.injEq] at hb
    obtain ⟨rfl, rfl⟩ := hb
    obtain ⟨h1, h2, h3⟩ := hcond
    refine ⟨?_, by omega, by omega⟩
    have b1 : 0 ≤ hI ∧ hI ≤ cap := ⟨by omega, by omega⟩
    have b2 : 0 ≤ lI ∧ lI ≤ (hI.toNat : Int) := ⟨by omega, by omega⟩
    rcases hhi with ⟨rfl, rfl⟩ | ⟨x, x', rfl, rfl, hr⟩
    · simp only [optInt, Option.some.injEq] at hH
      subst hH
      rcases hlo with ⟨rfl, rfl⟩ | ⟨y, y', rfl, rfl, hr2⟩
      · simp only [optInt, Option.some.injEq] at hL
        subst hL
        simp [Instr.sliceBounds]
      · obtain ⟨k2, rfl⟩ := VRel.int_inv hL hr2
        simp only [Instr.sliceBounds, Instr.sliceBound, asIntOf, pure_bind, Sem.run_bind, Sem.run_pure, Result.andThen_ok]
        have b3 : 0 ≤ lI ∧ lI ≤ (len : Int) := by omega
        simp [b3.1, b3.2]
    · obtain ⟨k, rfl⟩ := VRel.int_inv hH hr
      have e1 : ∀ code, (Instr.sliceBound (.int k hI) cap code).run P w = .ok hI.toNat w := fun code => by
        simp only [Instr.sliceBound, asIntOf, pure_bind, if_pos b1, Sem.run_pure]
      rcases hlo with ⟨rfl, rfl⟩ | ⟨y, y', rfl, rfl, hr2⟩
      · simp only [optInt, Option.some.injEq] at hL
        subst hL
        simp only [Instr.sliceBounds, pure_bind, Sem.run_bind, e1, Result.andThen_ok, Sem.run_pure]
        rfl
      · obtain ⟨k2, rfl⟩ := VRel.int_inv hL hr2
        have e2 : ∀ code, (Instr.sliceBound (.int k2 lI) hI.toNat code).run P w = .ok lI.toNat w := fun code => by
          simp only [Instr.sliceBound, asIntOf, pure_bind, if_pos b2, Sem.run_pure]
        simp only [Instr.sliceBounds, pure_bind, Sem.run_bind, e1, e2, Result.andThen_ok, Sem.run_pure]
  · cases hb

theorem eval_opt {ρ : Ren} {a : Act} (hS : SlotsRel ρ fr a.tmps) (x : Option Operand) : (x.map fr.eval = none ∧ x.map a.eval = none) ∨ ∃ y y', x.map fr.eval = some y ∧ x.map a.eval = some y' ∧ VRel ρ y y' := by
  cases x with
  | none => exact .inl ⟨rfl, rfl⟩
  | some x => exact .inr ⟨_, _, rfl, rfl, hS.eval x⟩

/-- The value is this string. -/
def StrIs (h : HV) (s : List UInt8) : Prop := ∀ ρ v, VRel ρ h v → v = .string ⟨⟨s⟩⟩
theorem StrIs.str (s : List UInt8) : StrIs (.str s) s := fun ρ v h => by simpa [VRel] using h
theorem StrIs.pad (p : List UInt8) (n : Nat) : StrIs (.pad p n) (p ++ List.replicate n 0) := fun ρ v h => by simpa [VRel] using h

theorem ok_slice_string {t : TypeId} {x : Operand} {lo hi : Option Operand} {s : List UInt8} {l h : Nat} (ho : o.op = .slice t x lo hi none) (hu : P.underlying t = some .string) (hx : StrIs (fr.eval x) s)
    (hb : bounds2 s.length (lo.map fr.eval) (hi.map fr.eval) = some (l, h)) {r : HV} (hr : ∀ ρ, VRel ρ r (.string ⟨⟨(s.take h).drop l⟩⟩)) : OpOK P o fr σ (.val r σ) := fun ρ w a hR hS => by
  have hv := hx _ _ (hS.eval x)
  obtain ⟨h1, h2, h3⟩ := bounds_run (P := P) (isS := false) (cap := s.length) hb (eval_opt hS lo) (eval_opt hS hi) (Nat.le_refl _) w
  refine ValOK.pure hR (v' := .string ⟨⟨(s.take h).drop l⟩⟩) ?_ (hr ρ)
  have hsz : (⟨⟨s⟩⟩ : ByteArray).size = s.length := rfl
  simp only [execOp, ho, hv, Instr.sliceAt, Instr.slice, Sem.run_bind, underlying_run hu, Result.andThen_ok, Option.map_none, Option.isSome_none, Bool.false_eq_true, if_false, hsz, h1, Sem.run_pure, pure_bind]
  congr 3
  apply ByteArray.ext
  apply Array.ext'
  simp [ByteArray.data_extract, List.drop_take]

theorem bounds3_run {ρ : Ren} {isS : Bool} {len top cap : Nat} {lo hi mx : Option HV} {lo' hi' mx' : Option Value} {l h : Nat} (ht : topOf len hi mx = some top) (hb : bounds2 top lo hi = some (l, h))
    (hlo : (lo = none ∧ lo' = none) ∨ ∃ x x', lo = some x ∧ lo' = some x' ∧ VRel ρ x x') (hhi : (hi = none ∧ hi' = none) ∨ ∃ x x', hi = some x ∧ hi' = some x' ∧ VRel ρ x x')
    (hmx : (mx = none ∧ mx' = none) ∨ ∃ x x', mx = some x ∧ mx' = some x' ∧ VRel ρ x x') (hc : len ≤ cap) (w : World) :
    ∃ m, (Instr.sliceBounds isS len cap lo' hi' mx').run P w = .ok (l, h, m) w ∧ l ≤ h ∧ h ≤ m ∧ m ≤ cap := by
  rcases hmx with ⟨rfl, rfl⟩ | ⟨z, z', rfl, rfl, hr⟩
  · simp only [topOf, Option.some.injEq] at ht
    subst ht
    obtain ⟨h1, h2, h3⟩ := bounds_run (P := P) (isS := isS) hb hlo hhi hc w
    exact ⟨cap, h1, h2, by omega, Nat.le_refl _⟩
  · unfold topOf at ht
    cases hz : intOf? z with
    | none => simp [hz] at ht
    | some m =>
    rcases hhi with ⟨rfl, rfl⟩ | ⟨x, x', rfl, rfl, hx⟩
    · simp [hz] at ht
    simp only [hz] at ht
    split at ht
    · rename_i hm
      cases ht
      unfold bounds2 at hb
      cases hH : optInt m.toNat (some x) with
      | none => rw [hH] at hb; cases hb
      | some hI =>
      cases hL : optInt 0 lo with
      | none => rw [hH, hL] at hb; cases hb
      | some lI =>
      rw [hH, hL] at hb
      simp only at hb
      split at hb
      · rename_i hcond
        simp only [Option.some.injEq, Prod.mk.injEq] at hb
        obtain ⟨rfl, rfl⟩ := hb
        obtain ⟨h1, h2, h3⟩ := hcond
        obtain ⟨k0, rfl⟩ := VRel.int_inv hz hr
        obtain ⟨k1, rfl⟩ := VRel.int_inv hH hx
        have e0 : ∀ code, (Instr.sliceBound (.int k0 m) cap code).run P w = .ok m.toNat w := fun code => by
          have : 0 ≤ m ∧ m ≤ (cap : Int) := by omega
          simp only [Instr.sliceBound, asIntOf, pure_bind, if_pos this, Sem.run_pure]
        have e1 : ∀ code, (Instr.sliceBound (.int k1 hI) m.toNat code).run P w = .ok hI.toNat w := fun code => by
          have : 0 ≤ hI ∧ hI ≤ (m.toNat : Int) := by omega
          simp only [Instr.sliceBound, asIntOf, pure_bind, if_pos this, Sem.run_pure]
        refine ⟨m.toNat, ?_, by omega, by omega, by omega⟩
        rcases hlo with ⟨rfl, rfl⟩ | ⟨y, y', rfl, rfl, hr2⟩
        · simp only [optInt, Option.some.injEq] at hL
          subst hL
          simp only [Instr.sliceBounds, pure_bind, Sem.run_bind, e0, e1, Result.andThen_ok, Sem.run_pure]
          rfl
        · obtain ⟨k2, rfl⟩ := VRel.int_inv hL hr2
          have e2 : ∀ code, (Instr.sliceBound (.int k2 lI) hI.toNat code).run P w = .ok lI.toNat w := fun code => by
            have : 0 ≤ lI ∧ lI ≤ (hI.toNat : Int) := by omega
            simp only [Instr.sliceBound, asIntOf, pure_bind, if_pos this, Sem.run_pure]
          simp only [Instr.sliceBounds, pure_bind, Sem.run_bind, e0, e1, e2, Result.andThen_ok, Sem.run_pure]
      · cases hb
    · cases ht

theorem ok_slice_slice {t : TypeId} {x : Operand} {lo hi mx : Option Operand} {elem : TypeId} {b off len top l h : Nat} (ho : o.op = .slice t x lo hi mx) (hu : P.underlying t = some (.slice elem)) (hx : fr.eval x = .slice (some (b, off)) len (szOf P elem))
    (hi' : (P.info? elem).isSome = true) (ht : topOf len (hi.map fr.eval) (mx.map fr.eval) = some top)
    (hb : bounds2 top (lo.map fr.eval) (hi.map fr.eval) = some (l, h)) : OpOK P o fr σ (.val (.slice (some (b, off + l * szOf P elem)) (h - l) (szOf P elem)) σ) := fun ρ w a hR hS => by
  have hv := hS.eval x
  rw [hx] at hv
  simp only [VRel] at hv
  obtain ⟨i, hi'⟩ := Option.isSome_iff_exists.1 hi'
  rcases hv with ⟨L, cap, hL, hle, hfit, hv⟩ | ⟨hn0, ad, hv⟩
  · obtain ⟨m, h1, h2, h3, h4⟩ := bounds3_run (P := P) (isS := true) (cap := cap) ht hb (eval_opt hS lo) (eval_opt hS hi) (eval_opt hS mx) hle w
    refine ValOK.pure hR (v' := .slice (some (if m = l then ⟨L.blk, L.base + off, none⟩ else (⟨L.blk, L.base + off, none⟩ : Addr).add (l * szOf P elem))) (h - l) (m - l)) ?_ ?_
    · simp only [execOp, ho, hv, Instr.sliceAt, Instr.slice, Sem.run_bind, underlying_run hu, Result.andThen_ok, h1, sizeOf_run hi', Sem.run_pure, Option.map_some]
      split <;> rfl
    · simp only [VRel]
      by_cases e : m = l
      · right
        refine ⟨by omega, ⟨L.blk, L.base + off, none⟩, ?_⟩
        rw [if_pos e, show h - l = 0 by omega, show m - l = 0 by omega]
      · left
        refine ⟨L, m - l, hL, by omega, ?_, ?_⟩
        · have : l * szOf P elem + (m - l) * szOf P elem ≤ cap * szOf P elem := by rw [← Nat.add_mul]; exact Nat.mul_le_mul_right _ (by omega)
          omega
        · rw [if_neg e, addr_add, Nat.add_assoc]
  · subst hn0
    obtain ⟨m, h1, h2, h3, h4⟩ := bounds3_run (P := P) (isS := true) (cap := 0) ht hb (eval_opt hS lo) (eval_opt hS hi) (eval_opt hS mx) (Nat.le_refl _) w
    have hm : m = 0 := by omega
    have hh : h = 0 := by omega
    have hl : l = 0 := by omega
    subst hh
    subst hl
    subst hm
    refine ValOK.pure hR (v' := .slice (some ad) 0 0) ?_ ?_
    · simp only [execOp, ho, hv, Instr.sliceAt, Instr.slice, Sem.run_bind, underlying_run hu, Result.andThen_ok, h1, sizeOf_run hi', Sem.run_pure]
      rfl
    · simp only [VRel]
      exact .inr ⟨by first | trivial | omega, _, rfl⟩

theorem ok_slice_nil {t : TypeId} {x : Operand} {lo hi : Option Operand} {elem : TypeId} {len esz l h : Nat} (ho : o.op = .slice t x lo hi none) (hu : P.underlying t = some (.slice elem)) (hx : fr.eval x = .slice none len esz)
    (hi' : (P.info? elem).isSome = true)
    (hb : bounds2 len (lo.map fr.eval) (hi.map fr.eval) = some (l, h)) : OpOK P o fr σ (.val (.slice none 0 esz) σ) := fun ρ w a hR hS => by
  have hv := hS.eval x
  rw [hx] at hv
  simp only [VRel] at hv
  obtain ⟨hn0, hv⟩ := hv
  subst hn0
  obtain ⟨i, hi'⟩ := Option.isSome_iff_exists.1 hi'
  obtain ⟨h1, h2, h3⟩ := bounds_run (P := P) (isS := true) (cap := 0) hb (eval_opt hS lo) (eval_opt hS hi) (Nat.le_refl _) w
  have hh : h = 0 := by omega
  have hl : l = 0 := by omega
  subst hh
  subst hl
  refine ValOK.pure hR (v' := .slice none 0 0) ?_ (by simp [VRel])
  simp only [execOp, ho, hv, Instr.sliceAt, Instr.slice, Sem.run_bind, underlying_run hu, Result.andThen_ok, Option.map_none, h1, sizeOf_run hi', Sem.run_pure]
  rfl

theorem ok_slice_array {t : TypeId} {x : Operand} {lo hi : Option Operand} {elem : TypeId} {n b off l h : Nat} (ho : o.op = .slice t x lo hi none) (hu : P.underlying t = some (.array n elem)) (hx : fr.eval x = .ptr (some (b, off)))
    (hi' : (P.info? elem).isSome = true) {c : List HV} {k : Option (Nat × Nat × Nat)} (hc : σ.cells? b = some (c, k)) (hfit : off + n * szOf P elem ≤ c.length)
    (hb : bounds2 n (lo.map fr.eval) (hi.map fr.eval) = some (l, h)) : OpOK P o fr σ (.val (.slice (some (b, off + l * szOf P elem)) (h - l) (szOf P elem)) σ) := fun ρ w a hR hS => by
  have hv := hS.eval x
  rw [hx] at hv
  obtain ⟨L, hL, hv⟩ := hv.ptr_inv
  obtain ⟨i, hi'⟩ := Option.isSome_iff_exists.1 hi'
  obtain ⟨cs, hcs, hfit2, hrel⟩ := hR.cellsAt hL hc
  obtain ⟨h1, h2, h3⟩ := bounds_run (P := P) (isS := false) (cap := n) hb (eval_opt hS lo) (eval_opt hS hi) (Nat.le_refl _) w
  refine ValOK.pure hR (v' := .slice (some (if n = l then ⟨L.blk, L.base + off, none⟩ else (⟨L.blk, L.base + off, none⟩ : Addr).add (l * szOf P elem))) (h - l) (n - l)) ?_ ?_
  · simp only [execOp, ho, hv, Instr.sliceAt, Instr.sureAddr, Sem.run_bind, underlying_run hu, Result.andThen_ok, Option.map_none, h1, sizeOf_run hi', Sem.run_pure, pure_bind]
  · simp only [VRel]
    by_cases e : n = l
    · right
      refine ⟨by omega, ⟨L.blk, L.base + off, none⟩, ?_⟩
      rw [if_pos e, show h - l = 0 by omega, show n - l = 0 by omega]
    · left
      refine ⟨L, n - l, hL, by omega, ?_, ?_⟩
      · have : l * szOf P elem + (n - l) * szOf P elem = n * szOf P elem := by rw [← Nat.add_mul]; congr 1; omega
        omega
      · rw [if_neg e, addr_add, Nat.add_assoc]

/-! ### Places and parts -/
theorem ok_fieldAddr {s : TypeId} {x : Operand} {f b off : Nat} {fields : Array Field} {fd : Field} (h : o.op = .fieldAddr s x f) (hx : fr.eval x = .ptr (some (b, off))) (hu : P.underlying s = some (.struct fields))
    (hf : fields[f]? = some fd) (hi : (P.info? fd.type).isSome = true) (hsz : szOf P fd.type ≠ 0) : OpOK P o fr σ (.val (.ptr (some (b, off + fd.offset))) σ) := fun ρ w a hR hS => by
  have hv := hS.eval x
  rw [hx] at hv
  obtain ⟨L, hL, hv⟩ := hv.ptr_inv
  obtain ⟨i, hi⟩ := Option.isSome_iff_exists.1 hi
  refine ValOK.pure hR (v' := .pointer (some ⟨L.blk, L.base + off + fd.offset, none⟩)) ?_ (by simp only [VRel]; exact ⟨L, hL, by rw [Nat.add_assoc]⟩)
  simp only [execOp, h, hv, Instr.fieldAt, Sem.run_bind, underlying_run hu, Result.andThen_ok, hf, Instr.sureAddr, Sem.run_pure, fieldPlace, sizeOf_run hi, pure_bind, hsz, if_false, addr_add]

theorem part_run {ρ : Ren} {t : TypeId} {cs : List HV} {vs : Array Value} (hr : VsRel ρ cs vs.toList) {d : TypeDesc} (hu : P.underlying t = some d) (off : Nat) {r : HV}
    (h : (if isAggB P t then some (HV.agg ((cs.drop off).take (szOf P t))) else cs[off]?) = some r) (w : World) : ∃ v, (part t vs off).run P w = .ok v w ∧ VRel ρ r v := by
  obtain ⟨i, hi⟩ := info_of_underlying hu
  unfold part
  simp only [Sem.run_bind, isAgg_run hu, Result.andThen_ok]
  cases hb : isAggB P t with
  | true =>
    simp only [hb, if_true, Option.some.injEq] at h ⊢
    subst h
    refine ⟨.agg (vs.extract off (off + szOf P t)), by simp only [Sem.run_bind, sizeOf_run hi, Result.andThen_ok, Sem.run_pure], ?_⟩
    simp only [VRel]
    refine ⟨_, rfl, ?_⟩
    have := (hr.drop off).take (szOf P t)
    rw [Array.toList_extract, List.extract_eq_take_drop]
    rw [show off + szOf P t - off = szOf P t by omega]
    exact this
  | false =>
    simp only [hb, Bool.false_eq_true, if_false] at h ⊢
    obtain ⟨y, h1, h2⟩ := hr.get h
    refine ⟨y, ?_, h2⟩
    rw [Array.getElem?_toList] at h1
    simp [h1]

theorem ok_field {t : TypeId} {x : Operand} {f : Nat} {cs : List HV} {fields : Array Field} {fd : Field} {r : HV} {d : TypeDesc} (h : o.op = .field t x f) (hx : fr.eval x = .agg cs) (hu : P.underlying t = some (.struct fields))
    (hf : fields[f]? = some fd) (hd : P.underlying fd.type = some d) (hr : (if isAggB P fd.type then some (HV.agg ((cs.drop fd.offset).take (szOf P fd.type))) else cs[fd.offset]?) = some r) : OpOK P o fr σ (.val r σ) := fun ρ w a hR hS => by
  have hv := hS.eval x
  rw [hx] at hv
  simp only [VRel] at hv
  obtain ⟨vs, hv, hvs⟩ := hv
  obtain ⟨v, h1, h2⟩ := part_run (P := P) hvs hd fd.offset hr w
  refine ValOK.pure hR (v' := v) ?_ h2
  simp only [execOp, h, hv, Instr.field, Sem.run_bind, underlying_run hu, Result.andThen_ok, hf, asAgg, pure_bind, h1, Sem.run_pure]

theorem boundsPanic_run {α : Type} (k : IntKind) (x y : Int) (code : BoundsCode) (w : World) : ∃ v w', (boundsPanic k x y code : Sem α).run P w = .halt (.panic v) w' ∧ World.sameHeap w w' := by
  unfold boundsPanic
  split
  · simp only [Sem.run_bind, Sem.run_map, run_choose]
    split
    · exact ⟨_, w, by simp [runtimePanic]; rfl, rfl, rfl, rfl, rfl⟩
    · refine ⟨_, { w with drawn := w.drawn + 1 }, by simp [runtimePanic]; rfl, rfl, rfl, rfl, rfl⟩
  · exact ⟨_, w, by simp [runtimePanic]; rfl, rfl, rfl, rfl, rfl⟩

theorem ok_indexAddr_slice {t : TypeId} {x y : Operand} {elem : TypeId} {b off len : Nat} {i : Int} (h : o.op = .indexAddr t x y) (hu : P.underlying t = some (.slice elem)) (hie : (P.info? elem).isSome = true) (hi : intOf? (fr.eval y) = some i)
    (hx : fr.eval x = .slice (some (b, off)) len (szOf P elem)) (h0 : 0 ≤ i) (hlt : i < len) : OpOK P o fr σ (.val (.ptr (some (b, off + i.toNat * szOf P elem))) σ) := fun ρ w a hR hS => by
  have hv := hS.eval x
  rw [hx] at hv
  simp only [VRel] at hv
  obtain ⟨k, hy⟩ := VRel.int_inv hi (hS.eval y)
  obtain ⟨ie, hie⟩ := Option.isSome_iff_exists.1 hie
  rcases hv with ⟨L, cap, hL, hle, hfit, hv⟩ | ⟨hn0, ad, hv⟩
  · refine ValOK.pure hR (v' := .pointer (some ⟨L.blk, L.base + off + i.toNat * szOf P elem, none⟩)) ?_ (by simp only [VRel]; exact ⟨L, hL, by rw [Nat.add_assoc]⟩)
    simp only [execOp, h, hv, hy, Instr.indexAt, asIntOf, pure_bind, Sem.run_bind, underlying_run hu, Result.andThen_ok, Sem.run_pure, h0, hlt, and_self, if_true, sizeOf_run hie, addr_add]
  · omega

theorem ok_indexAddr_slice_panic {t : TypeId} {x y : Operand} {elem : TypeId} {p : Option (Nat × Nat)} {len esz : Nat} {i : Int} (h : o.op = .indexAddr t x y) (hu : P.underlying t = some (.slice elem)) (hi : intOf? (fr.eval y) = some i)
    (hx : fr.eval x = .slice p len esz) (hlt : ¬ (0 ≤ i ∧ i < len) ∨ p = none) : OpOK P o fr σ (.panic .any) := fun ρ w a hR hS => by
  have hv := hS.eval x
  rw [hx] at hv
  obtain ⟨k, hy⟩ := VRel.int_inv hi (hS.eval y)
  have fin : ∀ (y : Int) (code : BoundsCode), (execOp a.eval o).run P w = ((boundsPanic k i y code : Sem Value).run P w).andThen (fun v w => .ok (.value v) w) → ∃ v' w', (execOp a.eval o).run P w = .halt (.panic v') w' ∧ VRel ρ .any v' ∧ Rel ρ σ w' ∧ Fr σ.next σ.next ρ ρ w w' := by
    intro y code he
    obtain ⟨v, w', h1, h2⟩ := boundsPanic_run (P := P) (α := Value) k i y code w
    rw [h1] at he
    exact ⟨v, w', he, by simp [VRel], hR.same h2.1, .same h2⟩
  cases p with
  | none =>
    simp only [VRel] at hv
    refine fin 0 .index ?_
    simp only [execOp, h, hv.2, hy, Instr.indexAt, asIntOf, pure_bind, Sem.run_bind, underlying_run hu, Result.andThen_ok, Sem.run_pure]
  | some p =>
    obtain ⟨b, off⟩ := p
    have hlt : ¬ (0 ≤ i ∧ i < len) := hlt.resolve_right (by simp)
    simp only [VRel] at hv
    rcases hv with ⟨L, cap, hL, hle, hfit, hv⟩ | ⟨hn0, ad, hv⟩
    · refine fin len .index ?_
      simp only [execOp, h, hv, hy, Instr.indexAt, asIntOf, pure_bind, Sem.run_bind, underlying_run hu, Result.andThen_ok, Sem.run_pure, if_neg hlt]
      simp
    · subst hn0
      refine fin (0 : Nat) .index ?_
      simp only [execOp, h, hv, hy, Instr.indexAt, asIntOf, pure_bind, Sem.run_bind, underlying_run hu, Result.andThen_ok, Sem.run_pure, if_neg hlt]
      simp

theorem ok_indexAddr_array {t : TypeId} {x y : Operand} {elem : TypeId} {b off len : Nat} {i : Int} (h : o.op = .indexAddr t x y) (hu : P.underlying t = some (.array len elem)) (hie : (P.info? elem).isSome = true) (hi : intOf? (fr.eval y) = some i)
    (hx : fr.eval x = .ptr (some (b, off))) (h0 : 0 ≤ i) (hlt : i < len) : OpOK P o fr σ (.val (.ptr (some (b, off + i.toNat * szOf P elem))) σ) := fun ρ w a hR hS => by
  have hv := hS.eval x
  rw [hx] at hv
  obtain ⟨L, hL, hv⟩ := hv.ptr_inv
  obtain ⟨k, hy⟩ := VRel.int_inv hi (hS.eval y)
  obtain ⟨ie, hie⟩ := Option.isSome_iff_exists.1 hie
  refine ValOK.pure hR (v' := .pointer (some ⟨L.blk, L.base + off + i.toNat * szOf P elem, none⟩)) ?_ (by simp only [VRel]; exact ⟨L, hL, by rw [Nat.add_assoc]⟩)
  simp only [execOp, h, hv, hy, Instr.indexAt, Instr.sureAddr, asIntOf, pure_bind, Sem.run_bind, underlying_run hu, Result.andThen_ok, Sem.run_pure, h0, hlt, and_self, if_true, sizeOf_run hie, addr_add]

theorem ok_index_string {t : TypeId} {x y : Operand} {s : List UInt8} {i : Int} {c : UInt8} (h : o.op = .index t x y) (hu : P.underlying t = some .string) (hi : intOf? (fr.eval y) = some i)
    (hx : StrIs (fr.eval x) s) (h0 : 0 ≤ i) (hc : s[i.toNat]? = some c) : OpOK P o fr σ (.val (.int .u8 c.toNat) σ) := fun ρ w a hR hS => by
  have hv := hx _ _ (hS.eval x)
  obtain ⟨k, hy⟩ := VRel.int_inv hi (hS.eval y)
  refine ValOK.pure hR (v' := .int .u8 c.toNat) ?_ (by simp [VRel])
  have hg : (⟨⟨s⟩⟩ : ByteArray)[i.toNat]? = some c := by
    have hlt : i.toNat < s.length := (List.getElem?_eq_some_iff.1 hc).1
    have : i.toNat < (⟨⟨s⟩⟩ : ByteArray).size := hlt
    rw [getElem?_pos (⟨⟨s⟩⟩ : ByteArray) i.toNat this]
    rw [List.getElem?_eq_getElem hlt] at hc
    exact hc
  simp only [execOp, h, hv, hy, Instr.index, asIntOf, pure_bind, Sem.run_bind, underlying_run hu, Result.andThen_ok, h0, if_true, hg, Sem.run_pure]

theorem ok_index_string_panic {t : TypeId} {x y : Operand} {s : List UInt8} {i : Int} (h : o.op = .index t x y) (hu : P.underlying t = some .string) (hi : intOf? (fr.eval y) = some i)
    (hx : fr.eval x = .str s) (hc : ¬ (0 ≤ i) ∨ s[i.toNat]? = none) : OpOK P o fr σ (.panic .any) := fun ρ w a hR hS => by
  have hv := hS.eval x
  rw [hx] at hv
  simp only [VRel] at hv
  obtain ⟨k, hy⟩ := VRel.int_inv hi (hS.eval y)
  have hg : (if 0 ≤ i then (⟨⟨s⟩⟩ : ByteArray)[i.toNat]? else none) = none := by
    by_cases h0 : 0 ≤ i
    · rw [if_pos h0]
      have hc := hc.resolve_left (by simpa using h0)
      have hlt : ¬ i.toNat < s.length := by simpa using List.getElem?_eq_none_iff.1 hc
      have : ¬ i.toNat < (⟨⟨s⟩⟩ : ByteArray).size := hlt
      rw [getElem?_neg (⟨⟨s⟩⟩ : ByteArray) i.toNat this]
    · rw [if_neg h0]
  obtain ⟨v, w', h1, h2⟩ := boundsPanic_run (P := P) (α := Value) k i (⟨⟨s⟩⟩ : ByteArray).size .index w
  refine ⟨v, w', ?_, by simp [VRel], hR.same h2.1, .same h2⟩
  simp only [execOp, h, hv, hy, Instr.index, asIntOf, pure_bind, Sem.run_bind, underlying_run hu, Result.andThen_ok, hg, h1, Result.andThen_halt]

theorem ok_index_array {t : TypeId} {x y : Operand} {elem : TypeId} {cs : List HV} {n : Nat} {i : Int} {r : HV} {d : TypeDesc} (h : o.op = .index t x y) (hu : P.underlying t = some (.array n elem)) (hd : P.underlying elem = some d) (hi : intOf? (fr.eval y) = some i)
    (hx : fr.eval x = .agg cs) (h0 : 0 ≤ i) (hlt : i < n) (hr : (if isAggB P elem then some (HV.agg ((cs.drop (i.toNat * szOf P elem)).take (szOf P elem))) else cs[i.toNat * szOf P elem]?) = some r) : OpOK P o fr σ (.val r σ) := fun ρ w a hR hS => by
  have hv := hS.eval x
  rw [hx] at hv
  simp only [VRel] at hv
  obtain ⟨vs, hv, hvs⟩ := hv
  obtain ⟨k, hy⟩ := VRel.int_inv hi (hS.eval y)
  obtain ⟨ie, hie⟩ := info_of_underlying hd
  obtain ⟨v, h1, h2⟩ := part_run (P := P) hvs hd (i.toNat * szOf P elem) hr w
  refine ValOK.pure hR (v' := v) ?_ h2
  simp only [execOp, h, hv, hy, Instr.index, asIntOf, pure_bind, Sem.run_bind, underlying_run hu, Result.andThen_ok, h0, hlt, and_self, if_true, sizeOf_run hie, h1, Sem.run_pure]

theorem ok_extract {x : Operand} {i : Nat} {vs : List HV} {r : HV} (h : o.op = .extract x i) (hx : fr.eval x = .tuple vs) (hr : vs[i]? = some r) : OpOK P o fr σ (.val r σ) := fun ρ w a hR hS => by
  have hv := hS.eval x
  rw [hx] at hv
  simp only [VRel] at hv
  obtain ⟨us, hv, hvs⟩ := hv
  obtain ⟨y, h1, h2⟩ := hvs.get hr
  rw [Array.getElem?_toList] at h1
  refine ValOK.pure hR (v' := y) ?_ h2
  simp [execOp, h, hv, Instr.extract, h1]

end
end Go.HI

/- The operations over the abstract heap are the machine's: append, copy, len, clear. -/
namespace Go.HI
noncomputable section

variable {P : Program} {o : Oper} {fr : HFrame} {σ : Store}

theorem exec_builtin {b : Builtin} {args : Array Operand} {argTypes : Array TypeId} {a : Act} {s : Sem Value} (h : o.op = .call { callee := .builtin b, args, argTypes })
    (hb : ∀ consts, builtin b argTypes o.type consts (args.map a.eval) = (do pure (.value (← s)))) : execOp a.eval o = (do pure (.value (← s))) := by
  simp only [execOp, h, resolve, pure_bind, invoke, hb]

theorem lenOf_run {ρ : Ren} {x : HV} {v : Value} {n : Nat} (h : lenH x = some n) (hr : VRel ρ x v) (w : World) : (Builtin.lenOf v).run P w = .ok n w := by
  cases x with
  | slice p m e =>
    simp only [lenH, Option.some.injEq] at h
    subst h
    cases p with
    | none => simp only [VRel] at hr; obtain ⟨rfl, rfl⟩ := hr; simp [Builtin.lenOf]
    | some p =>
      obtain ⟨b, off⟩ := p
      simp only [VRel] at hr
      rcases hr with ⟨L, cap, _, _, _, rfl⟩ | ⟨rfl, ad, rfl⟩ <;> simp [Builtin.lenOf]
  | str s =>
    simp only [lenH, Option.some.injEq] at h
    subst h
    simp only [VRel] at hr
    subst hr
    rfl
  | _ => simp [lenH] at h

theorem elems_run {ρ : Ren} {w : World} (hR : Rel ρ σ w) {x : HV} {v : Value} {size n m : Nat} {ys : List HV} (hm : lenH x = some m) (hnm : n ≤ m) (h : elems σ size n x = some ys) (hr : VRel ρ x v) :
    ∃ cs, (Builtin.firstCells size n v).run P w = .ok cs w ∧ VsRel ρ ys cs.toList ∧ (0 < n → ys.length = n * size) := by
  cases x with
  | slice p k e =>
    simp only [lenH, Option.some.injEq] at hm
    subst hm
    cases p with
    | none =>
      simp only [elems, Option.some.injEq] at h
      subst h
      simp only [VRel] at hr
      obtain ⟨rfl, rfl⟩ := hr
      exact ⟨#[], by simp [Builtin.firstCells], by simp, fun h0 => by omega⟩
    | some p =>
      obtain ⟨b, off⟩ := p
      simp only [elems] at h
      split at h
      · rename_i he
        subst he
        simp only [VRel] at hr
        rcases hr with ⟨L, cap, hL, hle, hfit, rfl⟩ | ⟨rfl, ad, rfl⟩
        · obtain ⟨cs, hc, hf2, hlen, hrel⟩ := hR.loadN hL h
          exact ⟨_, by simp only [Builtin.firstCells]; exact loadCells_at hc _ _ hf2, hrel, fun _ => hlen⟩
        · have hn : n = 0 := by omega
          subst hn
          rw [Nat.zero_mul] at h
          have : ys = [] := by
            unfold Store.loadN at h
            split at h
            · split at h
              · simp only [List.take_zero, Option.some.injEq] at h; exact h.symm
              · cases h
            · cases h
          subst this
          exact ⟨#[], by simp [Builtin.firstCells, loadCells, loadCellsFrom], by simp, fun h0 => by omega⟩
      · cases h
  | str s =>
    simp only [elems] at h
    split at h
    · rename_i he
      subst he
      simp only [Option.some.injEq] at h
      subst h
      simp only [VRel] at hr
      subst hr
      simp only [lenH, Option.some.injEq] at hm
      refine ⟨_, by simp only [Builtin.firstCells]; rfl, ?_, fun _ => by simp; omega⟩
      have : (((⟨⟨s⟩⟩ : ByteArray).extract 0 n).data.map fun b => Value.int .u8 b.toNat).toList = (s.take n).map fun b => Value.int .u8 b.toNat := by
        simp [ByteArray.data_extract]
      rw [this]
      exact VsRel.map _ fun b _ => by simp [VRel]
    · cases h
  | _ => simp [lenH] at hm

theorem elems_zero {ρ : Ren} {w : World} {x : HV} {v : Value} {size m : Nat} (hm : lenH x = some m) (hr : VRel ρ x v) : (Builtin.firstCells size 0 v).run P w = .ok #[] w := by
  cases x with
  | slice p k e =>
    cases p with
    | none => simp only [VRel] at hr; obtain ⟨_, rfl⟩ := hr; simp [Builtin.firstCells]
    | some p =>
      obtain ⟨b, off⟩ := p
      simp only [VRel] at hr
      rcases hr with ⟨L, cap, hL, hle, hfit, rfl⟩ | ⟨rfl, ad, rfl⟩ <;> simp [Builtin.firstCells, loadCells, loadCellsFrom]
  | str s =>
    simp only [VRel] at hr
    subst hr
    simp only [Builtin.firstCells, Sem.run_pure]
    congr 1
    apply Array.ext'
    simp [ByteArray.data_extract]
  | _ => simp [lenH] at hm

theorem nextcap_le (need cap : Nat) (h : cap < need) : Builtin.nextslicecap need cap ≤ 2 * need + 768 := by
  unfold Builtin.nextslicecap
  split
  · omega
  · split
    · omega
    · have : ∀ r c, c ≤ 2 * need + 768 → Builtin.growBy need r c ≤ 2 * need + 768 := by
        intro r
        induction r with
        | zero => intro c hc; exact hc
        | succ r ih =>
          intro c hc
          simp only [Builtin.growBy]
          split
          · exact hc
          · exact ih _ (by omega)
      exact this _ _ (by omega)

theorem ok_append_none {args : Array Operand} {argTypes : Array TypeId} {oa ob : Operand} {st xt elem : TypeId} {xd : TypeDesc} {base : Option (Nat × Nat)} {sLen esz : Nat}
    (h : o.op = .call { callee := .builtin .append, args, argTypes }) (ha : args = #[oa, ob]) (ht0 : argTypes[0]? = some st) (ht1 : argTypes[1]? = some xt) (hu : P.underlying st = some (.slice elem)) (hxu : P.underlying xt = some xd)
    (hxd : ∀ k, xd ≠ .int k) (hie : (P.info? elem).isSome = true) (hs : fr.eval oa = .slice base sLen esz) (hn : lenH (fr.eval ob) = some 0) : OpOK P o fr σ (.val (fr.eval oa) σ) := fun ρ w a hR hS => by
  have hv := hS.eval oa
  have hx := hS.eval ob
  obtain ⟨i, hi⟩ := Option.isSome_iff_exists.1 hie
  have hzeros : (xd matches .int _) = false := by cases xd <;> first | rfl | exact absurd rfl (hxd _)
  rw [exec_builtin (s := Builtin.append_ argTypes o.type (args.map a.eval)) h (fun _ => rfl)]
  subst ha
  have hlen := lenOf_run (P := P) hn hx w
  have hfc := elems_zero (P := P) (w := w) (size := szOf P elem) hn hx
  obtain ⟨sv, hsv, base', cap, hform, hcap⟩ : ∃ sv, a.eval oa = sv ∧ ∃ base' cap, sv = .slice base' sLen cap ∧ sLen ≤ cap := by
    rw [hs] at hv
    cases base with
    | none => simp only [VRel] at hv; obtain ⟨rfl, hv⟩ := hv; exact ⟨_, rfl, none, 0, hv, Nat.le_refl _⟩
    | some p =>
      obtain ⟨b, off⟩ := p
      simp only [VRel] at hv
      rcases hv with ⟨L, cap, _, hle, _, hv⟩ | ⟨rfl, ad, hv⟩
      · exact ⟨_, rfl, _, cap, hv, hle⟩
      · exact ⟨_, rfl, some ad, 0, hv, Nat.le_refl _⟩
  rw [hform] at hsv
  refine ValOK.pure hR (v' := a.eval oa) ?_ hv
  simp only [Sem.run_bind, Builtin.append_, List.map_toArray, List.map_cons, List.map_nil, ht0, ht1, List.getElem?_toArray, List.getElem?_cons_zero, List.getElem?_cons_succ, underlying_run hu, Result.andThen_ok, hsv, sizeOf_run hi, underlying_run hxu, hzeros, Sem.run_pure,
    Bool.false_eq_true, if_false, hlen, Nat.add_zero]
  rw [if_pos hcap]
  simp only [Bool.not_false, if_true, Sem.run_bind, hfc, Result.andThen_ok]
  cases base' with
  | none => simp
  | some ad => simp [storeCells]

theorem ok_append {args : Array Operand} {argTypes : Array TypeId} {oa ob : Operand} {st xt elem : TypeId} {xd : TypeDesc} {b off sLen n : Nat} {z : HV} {xs ys : List HV} {σ' : Store}
    (h : o.op = .call { callee := .builtin .append, args, argTypes }) (ha : args = #[oa, ob]) (ht0 : argTypes[0]? = some st) (ht1 : argTypes[1]? = some xt) (hu : P.underlying st = some (.slice elem)) (hxu : P.underlying xt = some xd)
    (hxd : ∀ k, xd ≠ .int k) (hs : fr.eval oa = .slice (some (b, off)) sLen (szOf P elem)) (hn : lenH (fr.eval ob) = some n) (hn0 : n ≠ 0) (hys : elems σ (szOf P elem) n (fr.eval ob) = some ys)
    (hz : zeroHV P elem = some z) (hzl : z.cells.length = szOf P elem) (hsc : ys.all scalarHV = true) (hbig : (2 * (sLen + n) + 768) * P.bytesOf elem ≤ 2 ^ 48) (hbig2 : sLen + n ≤ 2 ^ 40)
    (hxs : σ.loadN b off (sLen * szOf P elem) = some xs) (hg : σ.grow b off xs ys = some σ') : OpOK P o fr σ (.val (.slice (some (σ.next, 0)) (sLen + n) (szOf P elem)) σ') := fun ρ w a hR hS => by
  have hv := hS.eval oa
  have hx := hS.eval ob
  obtain ⟨zv, hzv, hzn, hzrun, i, hi⟩ := zero_run (ρ := ρ) hz
  have hzeros : (xd matches .int _) = false := by cases xd <;> first | rfl | exact absurd rfl (hxd _)
  have hbi : i.bytes = P.bytesOf elem := by simp [Program.bytesOf, hi]
  rw [exec_builtin (s := Builtin.append_ argTypes o.type (args.map a.eval)) h (fun _ => rfl)]
  subst ha
  have hlen := lenOf_run (P := P) hn hx w
  have hxsl : xs.length = sLen * szOf P elem := by
    unfold Store.loadN at hxs
    split at hxs
    · split at hxs
      · simp only [Option.some.injEq] at hxs; rw [← hxs]; simp; omega
      · cases hxs
    · cases hxs
  have hxs' : σ.loadN b off xs.length = some xs := by rw [hxsl]; exact hxs
  rw [hs] at hv
  have hpos : 0 < n := by omega
  simp only [VRel] at hv
  by_cases hroom : ∃ L cap, ρ b = some L ∧ sLen ≤ cap ∧ L.base + off + cap * szOf P elem ≤ L.tot ∧ a.eval oa = .slice (some ⟨L.blk, L.base + off, none⟩) sLen cap ∧ sLen + n ≤ cap
  · obtain ⟨L, cap, hL, hle, hfit, hsv, hin⟩ := hroom
    obtain ⟨cs, hfc, hrel, hyl⟩ := elems_run (P := P) hR hn (Nat.le_refl _) hys hx
    have hyl := hyl hpos
    obtain ⟨_, _, _, c0, f0, p0, v0, F0, hk0, _⟩ := hR.wf.grow hg hxs'
    obtain ⟨cells, hcells, _, _⟩ := hR.cellsAt hL hk0
    have htot : cells.size = L.tot := by obtain ⟨_, _, _, ht, _⟩ := hcells; exact ht
    have hrl := hrel.length
    simp only [Array.length_toList] at hrl
    have hmul : (sLen + n) * szOf P elem ≤ cap * szOf P elem := Nat.mul_le_mul_right _ hin
    rw [Nat.add_mul] at hmul
    obtain ⟨w', hst, hov⟩ := storeCells_loc (P := P) hcells (L.base + off + sLen * szOf P elem) cs.toList (by simp; omega) (VsRel.oneCells hsc hrel)
    have hov' : Over w w' L.blk (L.base + off + xs.length) cs.toList := by rw [hxsl]; exact hov
    obtain ⟨h1, h2⟩ := hR.growIn hg hxs' hL hrel (by omega) hov'
    refine ⟨.slice (some ⟨L.blk, L.base + off, none⟩) (sLen + n) cap, w', _, .inl ?_, ?_, h1, h2⟩
    · simp only [Sem.run_bind, Builtin.append_, List.map_toArray, List.map_cons, List.map_nil, ht0, ht1, List.getElem?_toArray, List.getElem?_cons_zero, List.getElem?_cons_succ, underlying_run hu, Result.andThen_ok, hsv, sizeOf_run hi, underlying_run hxu, hzeros, Sem.run_pure,
        Bool.false_eq_true, if_false, hlen]
      rw [if_pos hin]
      simp only [Bool.not_false, if_true, Sem.run_bind, hfc, Result.andThen_ok, addr_add, hst, Sem.run_pure]
    · simp only [VRel]
      exact .inl ⟨_, cap, Ren.add_same _ _ _, hin, by simp; omega, by simp⟩
  · -- a new array
    obtain ⟨base', cap, hsv, hle, hold⟩ : ∃ base' cap, a.eval oa = .slice (some base') sLen cap ∧ cap < sLen + n ∧ ∀ w1, World.sameHeap w w1 → ∃ cs, (Builtin.firstCells (szOf P elem) sLen (.slice (some base') sLen cap)).run P w1 = .ok cs w1 ∧ VsRel ρ xs cs.toList := by
      rcases hv with ⟨L, cap, hL, hle, hfit, hsv⟩ | ⟨h0, ad, hsv⟩
      · refine ⟨_, cap, hsv, ?_, fun w1 hw1 => ?_⟩
        · rcases Nat.lt_or_ge cap (sLen + n) with h' | h'
          · exact h'
          · exact absurd ⟨L, cap, hL, hle, hfit, hsv, h'⟩ hroom
        · obtain ⟨cs, hc, hf2, hlen2, hrel⟩ := (hR.same hw1.1).loadN hL hxs
          exact ⟨_, by simp only [Builtin.firstCells]; exact loadCells_at hc _ _ hf2, hrel⟩
      · refine ⟨ad, 0, by rw [hsv, h0], by omega, fun w1 _ => ?_⟩
        have : xs = [] := by apply List.eq_nil_of_length_eq_zero; rw [hxsl, h0, Nat.zero_mul]
        subst this
        rw [h0]
        exact ⟨#[], by simp [Builtin.firstCells, loadCells, loadCellsFrom], by simp⟩
    obtain ⟨newCap, w1, hch, hcap, hh⟩ : ∃ c w1, (choose (.appendCap (sLen + n) cap elem)).run P w = .ok c w1 ∧ sLen + n ≤ c ∧ World.sameHeap w w1 := by
      simp only [run_choose, Question.forced, Bool.false_eq_true, if_false, Question.cut]
      exact ⟨_, _, rfl, by omega, rfl, rfl, rfl, rfl⟩
    have hR1 := hR.same hh.1
    have hF1 := Fr.same (N := σ.next) (ρ := ρ) hh
    obtain ⟨old, hold1, hold2⟩ := hold w1 hh
    obtain ⟨cs, hfc, hrel, hyl⟩ := elems_run (P := P) hR1 hn (Nat.le_refl _) hys hx
    have hyl := hyl hpos
    obtain ⟨rest, hrest⟩ : ∃ r : Array Value, r = Builtin.zeroCells zv.cells (newCap - (sLen + n)) := ⟨_, rfl⟩
    have hzs : zv.cells.size = szOf P elem := by
      have := (hzv.cells hzn).length
      simp at this
      omega
    have hrs : rest.size = (newCap - (sLen + n)) * szOf P elem := by rw [hrest]; simp [Builtin.zeroCells, hzs]
    have hol := hold2.length
    have hrl := hrel.length
    simp only [Array.length_toList] at hol hrl
    have hmul : newCap * szOf P elem = sLen * szOf P elem + n * szOf P elem + (newCap - (sLen + n)) * szOf P elem := by rw [← Nat.add_mul, ← Nat.add_mul]; congr 1; omega
    have hall : VsRel ρ (xs ++ ys) ((old ++ cs ++ rest).toList.take (xs ++ ys).length) := by
      have : (old ++ cs ++ rest).toList.take (xs ++ ys).length = old.toList ++ cs.toList := by
        simp only [Array.toList_append]
        rw [List.take_append_of_le_length (by simp; omega), List.take_of_length_le (by simp; omega)]
      rw [this]
      exact hold2.append hrel
    have hszz : (old ++ cs ++ rest).size = newCap * szOf P elem := by simp; omega
    refine ⟨.slice (some ⟨w1.heap.size, 0, none⟩) (sLen + n) newCap, w1.alloc (.cells (old ++ cs ++ rest) elem), _, .inl ?_, ?_, hR1.growNew hg hxs' (old ++ cs ++ rest) elem (by simp; omega) hall, by rw [(hR1.wf.grow hg hxs').2.1]; exact hF1.trans (Fr.alloc hR1 _ _)⟩
    · have hnb : ¬ (((sLen + n : Nat) : Int) > IntKind.i64.max ∧ (false = true ∨ i.bytes = 0)) := by
        have : IntKind.i64.max = 9223372036854775807 := by decide
        rw [this]
        omega
      have hncap : ¬ (Builtin.nextslicecap (sLen + n) cap * i.bytes > 2 ^ 48) := by
        rw [hbi]
        have := Nat.mul_le_mul_right (P.bytesOf elem) (nextcap_le (sLen + n) cap hle)
        omega
      simp only [Sem.run_bind, Builtin.append_, List.map_toArray, List.map_cons, List.map_nil, ht0, ht1, List.getElem?_toArray, List.getElem?_cons_zero, List.getElem?_cons_succ, underlying_run hu, Result.andThen_ok, hsv, sizeOf_run hi, underlying_run hxu, hzeros, Sem.run_pure,
        Bool.false_eq_true, if_false, hlen]
      rw [if_neg (by omega)]
      simp only [Sem.run_bind, typeInfo_run hi, Result.andThen_ok]
      rw [if_neg (by simpa using hnb)]
      simp only [Sem.run_bind, typeInfo_run hi, Result.andThen_ok, pure_bind]
      rw [if_neg hncap]
      simp only [Sem.run_bind, hch, Result.andThen_ok, typeInfo_run hi, run_askRoom, hold1, Bool.not_false, if_true, hfc, hzrun, newRow_run, ← hrest, Sem.run_pure]
    · simp only [VRel]
      exact .inl ⟨_, newCap, Ren.add_same _ _ _, hcap, by simp; omega, by simp⟩

end
end Go.HI

/- The operations over the abstract heap are the machine's: append to nothing, copy, len, clear, type assertions, calls. -/
namespace Go.HI
noncomputable section

variable {P : Program} {o : Oper} {fr : HFrame} {σ : Store}

theorem ok_append_nil {args : Array Operand} {argTypes : Array TypeId} {oa ob : Operand} {st xt elem : TypeId} {xd : TypeDesc} {esz n : Nat} {z : HV} {ys : List HV}
    (h : o.op = .call { callee := .builtin .append, args, argTypes }) (ha : args = #[oa, ob]) (ht0 : argTypes[0]? = some st) (ht1 : argTypes[1]? = some xt) (hu : P.underlying st = some (.slice elem)) (hxu : P.underlying xt = some xd)
    (hxd : ∀ k, xd ≠ .int k) (hs : fr.eval oa = .slice none 0 esz) (hn : lenH (fr.eval ob) = some n) (hn0 : n ≠ 0) (hys : elems σ (szOf P elem) n (fr.eval ob) = some ys)
    (hz : zeroHV P elem = some z) (hzl : z.cells.length = szOf P elem) (hbig : (2 * (0 + n) + 768) * P.bytesOf elem ≤ 2 ^ 48) (hbig2 : n ≤ 2 ^ 40) :
    OpOK P o fr σ (.val (.slice (some (σ.next, 0)) n (szOf P elem)) (σ.pushArr ys)) := fun ρ w a hR hS => by
  have hv := hS.eval oa
  have hx := hS.eval ob
  obtain ⟨zv, hzv, hzn, hzrun, i, hi⟩ := zero_run (ρ := ρ) hz
  have hzeros : (xd matches .int _) = false := by cases xd <;> first | rfl | exact absurd rfl (hxd _)
  have hbi : i.bytes = P.bytesOf elem := by simp [Program.bytesOf, hi]
  rw [exec_builtin (s := Builtin.append_ argTypes o.type (args.map a.eval)) h (fun _ => rfl)]
  subst ha
  have hlen := lenOf_run (P := P) hn hx w
  rw [hs] at hv
  simp only [VRel] at hv
  have hsv := hv.2
  have hpos : 0 < n := by omega
  obtain ⟨newCap, w1, hch, hcap, hh⟩ : ∃ c w1, (choose (.appendCap (0 + n) 0 elem)).run P w = .ok c w1 ∧ 0 + n ≤ c ∧ World.sameHeap w w1 := by
    simp only [run_choose, Question.forced, Bool.false_eq_true, if_false, Question.cut]
    exact ⟨_, _, rfl, by omega, rfl, rfl, rfl, rfl⟩
  have hR1 := hR.same hh.1
  have hF1 := Fr.same (N := σ.next) (ρ := ρ) hh
  obtain ⟨cs, hfc, hrel, hyl⟩ := elems_run (P := P) hR1 hn (Nat.le_refl _) hys hx
  have hyl := hyl hpos
  obtain ⟨rest, hrest⟩ : ∃ r : Array Value, r = Builtin.zeroCells zv.cells (newCap - (0 + n)) := ⟨_, rfl⟩
  have hzs : zv.cells.size = szOf P elem := by
    have := (hzv.cells hzn).length
    simp at this
    omega
  have hrs : rest.size = (newCap - (0 + n)) * szOf P elem := by rw [hrest]; simp [Builtin.zeroCells, hzs]
  have hrl := hrel.length
  simp only [Array.length_toList] at hrl
  have hmul : newCap * szOf P elem = n * szOf P elem + (newCap - (0 + n)) * szOf P elem := by rw [← Nat.add_mul]; congr 1; omega
  have hrun : ((do pure (.value (← Builtin.append_ argTypes o.type (#[oa, ob].map a.eval))) : Sem Next)).run P w = .ok (.value (.slice (some ⟨w1.heap.size, 0, none⟩) n newCap)) (w1.alloc (.cells (#[] ++ cs ++ rest) elem)) := by
    have hnb : ¬ (((0 + n : Nat) : Int) > IntKind.i64.max ∧ (false = true ∨ i.bytes = 0)) := by
      have : IntKind.i64.max = 9223372036854775807 := by decide
      rw [this]
      omega
    have hncap : ¬ (Builtin.nextslicecap (0 + n) 0 * i.bytes > 2 ^ 48) := by
      rw [hbi]
      have := Nat.mul_le_mul_right (P.bytesOf elem) (nextcap_le (0 + n) 0 (by omega))
      omega
    simp only [Sem.run_bind, Builtin.append_, List.map_toArray, List.map_cons, List.map_nil, ht0, ht1, List.getElem?_toArray, List.getElem?_cons_zero, List.getElem?_cons_succ, underlying_run hu, Result.andThen_ok, hsv, sizeOf_run hi, underlying_run hxu, hzeros, Sem.run_pure,
      Bool.false_eq_true, if_false, hlen]
    rw [if_neg (by omega)]
    simp only [Sem.run_bind, typeInfo_run hi, Result.andThen_ok]
    rw [if_neg (by simpa using hnb)]
    simp only [Sem.run_bind, typeInfo_run hi, Result.andThen_ok, pure_bind]
    rw [if_neg hncap]
    have hold : (Builtin.firstCells (szOf P elem) 0 (.slice none 0 0)).run P w1 = .ok #[] w1 := by simp [Builtin.firstCells]
    simp only [Sem.run_bind, hch, Result.andThen_ok, typeInfo_run hi, run_askRoom, hold, Bool.not_false, if_true, hfc, hzrun, newRow_run, ← hrest, Sem.run_pure]
    simp only [Nat.zero_add]
  obtain ⟨v', w', ρ', h1, h2, h3, h4⟩ := ValOK.newArr (c := ys) (cs := #[] ++ cs ++ rest) (t := elem) (fz := (0, 0)) (size := szOf P elem) hR1 (fun i _ => by simp) hrun (by simp; omega) (by
      have : (#[] ++ cs ++ rest).toList.take ys.length = cs.toList := by
        simp only [Array.toList_append]
        rw [List.nil_append, List.take_append_of_le_length (by simp; omega), List.take_of_length_le (by simp; omega)]
      rw [this]
      exact hrel) (by omega) (by simp; omega)
  exact ⟨v', w', ρ', h1, h2, h3, hF1.trans h4⟩

theorem ok_copy_none {args : Array Operand} {argTypes : Array TypeId} {oa ob : Operand} {dt elem : TypeId} {base : Option (Nat × Nat)} {dLen esz m : Nat}
    (h : o.op = .call { callee := .builtin .copy, args, argTypes }) (ha : args = #[oa, ob]) (ht0 : argTypes[0]? = some dt) (hu : P.underlying dt = some (.slice elem)) (hie : (P.info? elem).isSome = true)
    (hs : fr.eval oa = .slice base dLen esz) (hm : lenH (fr.eval ob) = some m) (hn : min m dLen = 0) : OpOK P o fr σ (.val (.int .i64 0) σ) := fun ρ w a hR hS => by
  have hv := hS.eval oa
  have hx := hS.eval ob
  obtain ⟨i, hi⟩ := Option.isSome_iff_exists.1 hie
  rw [exec_builtin (s := Builtin.copy_ argTypes o.type (args.map a.eval)) h (fun _ => rfl)]
  subst ha
  have hlen := lenOf_run (P := P) hm hx w
  have hfc := elems_zero (P := P) (w := w) (size := szOf P elem) hm hx
  obtain ⟨base', cap, hform⟩ : ∃ base' cap, a.eval oa = .slice base' dLen cap := by
    rw [hs] at hv
    cases base with
    | none => simp only [VRel] at hv; obtain ⟨rfl, hv⟩ := hv; exact ⟨none, 0, hv⟩
    | some p =>
      obtain ⟨b, off⟩ := p
      simp only [VRel] at hv
      rcases hv with ⟨L, cap, _, hle, _, hv⟩ | ⟨rfl, ad, hv⟩
      · exact ⟨_, cap, hv⟩
      · exact ⟨some ad, 0, hv⟩
  refine ValOK.pure hR (v' := .int .i64 0) ?_ (by simp [VRel])
  have hmin : Nat.min m dLen = 0 := hn
  simp only [Sem.run_bind, Builtin.copy_, List.map_toArray, List.map_cons, List.map_nil, ht0, List.getElem?_toArray, List.getElem?_cons_zero, List.getElem?_cons_succ, underlying_run hu, Result.andThen_ok, hform, sizeOf_run hi, hlen, hmin, hfc]
  cases base' with
  | none => simp [goInt]
  | some ad => simp [storeCells, goInt]

theorem ok_copy {args : Array Operand} {argTypes : Array TypeId} {oa ob : Operand} {dt elem : TypeId} {b off dLen m : Nat} {ys : List HV} {σ' : Store}
    (h : o.op = .call { callee := .builtin .copy, args, argTypes }) (ha : args = #[oa, ob]) (ht0 : argTypes[0]? = some dt) (hu : P.underlying dt = some (.slice elem)) (hie : (P.info? elem).isSome = true)
    (hs : fr.eval oa = .slice (some (b, off)) dLen (szOf P elem)) (hm : lenH (fr.eval ob) = some m) (hn0 : min m dLen ≠ 0) (hys : elems σ (szOf P elem) (min m dLen) (fr.eval ob) = some ys) (hsc : ys.all scalarHV = true)
    (hst : σ.storeN b off ys = some σ') : OpOK P o fr σ (.val (.int .i64 (min m dLen : Nat)) σ') := fun ρ w a hR hS => by
  have hv := hS.eval oa
  have hx := hS.eval ob
  obtain ⟨i, hi⟩ := Option.isSome_iff_exists.1 hie
  rw [exec_builtin (s := Builtin.copy_ argTypes o.type (args.map a.eval)) h (fun _ => rfl)]
  subst ha
  have hlen := lenOf_run (P := P) hm hx w
  obtain ⟨cs, hfc, hrel, hyl⟩ := elems_run (P := P) hR hm (Nat.min_le_left _ _) hys hx
  rw [hs] at hv
  simp only [VRel] at hv
  rcases hv with ⟨L, cap, hL, hle, hfit, hv⟩ | ⟨h0, ad, hv⟩
  · obtain ⟨_, _, _, c, k, hc, hfit2, _, _⟩ := hR.wf.store hst
    obtain ⟨cells, hcells, hfit3, _⟩ := hR.cellsAt hL hc
    have htot : cells.size = L.tot := by obtain ⟨_, _, _, ht, _⟩ := hcells; exact ht
    have hrl := hrel.length
    simp only [Array.length_toList] at hrl
    obtain ⟨w', h1, h2⟩ := storeCells_loc (P := P) hcells (L.base + off) cs.toList (by simp; omega) (VsRel.oneCells hsc hrel)
    obtain ⟨h3, h4⟩ := hR.store hst hL hrel h2
    refine ⟨.int .i64 (min m dLen : Nat), w', ρ, .inl ?_, by simp [VRel], h3, h4⟩
    have hmin : Nat.min m dLen = min m dLen := rfl
    simp only [Sem.run_bind, Builtin.copy_, List.map_toArray, List.map_cons, List.map_nil, ht0, List.getElem?_toArray, List.getElem?_cons_zero, List.getElem?_cons_succ, underlying_run hu, Result.andThen_ok, hv, sizeOf_run hi, hlen, hmin, hfc, h1, Sem.run_pure]
    rfl
  · omega

theorem ok_len {args : Array Operand} {argTypes : Array TypeId} {oa : Operand} {t : TypeId} {n : Nat} (h : o.op = .call { callee := .builtin .len, args, argTypes }) (ha : args = #[oa]) (ht0 : argTypes[0]? = some t)
    (hl : (P.underlying t = some .string ∧ ∃ s, StrIs (fr.eval oa) s ∧ n = s.length) ∨ ((∃ e, P.underlying t = some (.slice e)) ∧ ∃ p z, fr.eval oa = .slice p n z) ∨ (∃ e, P.underlying t = some (.array n e)) ∨
      ((∃ k e, P.underlying t = some (.map k e)) ∧ ((fr.eval oa = .map none ∧ n = 0) ∨ ∃ r es c, fr.eval oa = .map (some r) ∧ σ.blks.get r = some (.map es c) ∧ n = es.length))) :
    OpOK P o fr σ (.val (.int .i64 n) σ) := fun ρ w a hR hS => by
  have hv := hS.eval oa
  rw [exec_builtin (s := Builtin.len_ argTypes o.type (args.map a.eval)) h (fun _ => rfl)]
  subst ha
  refine ValOK.pure hR (v' := .int .i64 n) ?_ (by simp [VRel])
  simp only [Sem.run_bind, Builtin.len_, List.map_toArray, List.map_cons, List.map_nil, ht0, List.getElem?_toArray, List.getElem?_cons_zero]
  rcases hl with ⟨hu, s, hs, rfl⟩ | ⟨⟨e, hu⟩, p, z, hs⟩ | ⟨e, hu⟩ | ⟨⟨k, e, hu⟩, hs⟩
  · have hv := hs _ _ hv
    simp only [Sem.run_bind, underlying_run hu, Result.andThen_ok, hv, Sem.run_pure]
    rfl
  · rw [hs] at hv
    cases p with
    | none => simp only [VRel] at hv; obtain ⟨rfl, hv⟩ := hv; simp [underlying_run hu, hv, goInt]
    | some p =>
      obtain ⟨b, off⟩ := p
      simp only [VRel] at hv
      rcases hv with ⟨L, cap, _, hle, _, hv⟩ | ⟨rfl, ad, hv⟩ <;> simp [underlying_run hu, hv, goInt]
  · simp [underlying_run hu, goInt]
  · rcases hs with ⟨hs, rfl⟩ | ⟨r, es, c, hs, hb, rfl⟩
    · rw [hs] at hv
      simp only [VRel] at hv
      simp [underlying_run hu, hv, goInt]
    · rw [hs] at hv
      simp only [VRel] at hv
      obtain ⟨L, hL, hv⟩ := hv
      obtain ⟨es', h1, h2⟩ := hR.blk r L _ hL hb
      have hlen : ∀ (es : List HEntry) (l : List MapEntry), EntsRel ρ es l → es.length = l.length := by
        intro es
        induction es with
        | nil => intro l h; simp only [EntsRel] at h; simp [h]
        | cons e es ih => intro l h; obtain ⟨e', es', rfl, _, h3⟩ := h; simp [ih _ h3]
      have := hlen _ _ h2
      simp only [Array.length_toList] at this
      have hg : (getObj L.blk).run P w = .ok (.map es' c) w := by simp [getObj, Sem.run, h1]
      simp [underlying_run hu, hv, hg, goInt, this]

theorem ok_clear {args : Array Operand} {argTypes : Array TypeId} {oa : Operand} {t elem : TypeId} {b off n : Nat} {z : HV} {σ' : Store} (h : o.op = .call { callee := .builtin .clear, args, argTypes }) (ha : args = #[oa]) (ht0 : argTypes[0]? = some t)
    (hu : P.underlying t = some (.slice elem)) (hs : fr.eval oa = .slice (some (b, off)) n (szOf P elem)) (hn0 : n ≠ 0) (hz : zeroHV P elem = some z) (hzl : z.cells.length = szOf P elem) (hsc : z.cells.all scalarHV = true)
    (hst : σ.storeN b off (List.replicate n z.cells).flatten = some σ') : OpOK P o fr σ (.val (.tuple []) σ') := fun ρ w a hR hS => by
  have hv := hS.eval oa
  obtain ⟨zv, hzv, hzn, hzrun, i, hi⟩ := zero_run (ρ := ρ) hz
  rw [exec_builtin (s := Builtin.clear_ argTypes o.type (args.map a.eval)) h (fun _ => rfl)]
  subst ha
  rw [hs] at hv
  simp only [VRel] at hv
  rcases hv with ⟨L, cap, hL, hle, hfit, hv⟩ | ⟨h0, ad, hv⟩
  · obtain ⟨_, _, _, c, k, hc, hfit2, _, _⟩ := hR.wf.store hst
    obtain ⟨cells, hcells, hfit3, _⟩ := hR.cellsAt hL hc
    have htot : cells.size = L.tot := by obtain ⟨_, _, _, ht, _⟩ := hcells; exact ht
    have hrel : VsRel ρ (List.replicate n z.cells).flatten (Builtin.zeroCells zv.cells n).toList := by
      have h1 := zeros_ok (hzv.cells hzn) n (szOf P elem) hzl
      have hzs : zv.cells.size = szOf P elem := by
        have := (hzv.cells hzn).length
        simp at this
        omega
      unfold Builtin.zeroCells
      rw [hzs]
      by_cases e : n * szOf P elem = 0
      · have : (List.replicate n z.cells).flatten.length = 0 := by simp [hzl]; rcases Nat.mul_eq_zero.1 e with h | h <;> simp [h]
        rw [List.eq_nil_of_length_eq_zero this, e]
        simp
      · simpa [e, hzs] using h1
    have hrl := hrel.length
    simp only [Array.length_toList] at hrl
    have hall : (List.replicate n z.cells).flatten.all scalarHV = true := by
      rw [List.all_eq_true] at hsc ⊢
      intro x hx
      simp only [List.mem_flatten, List.mem_replicate] at hx
      obtain ⟨l, ⟨_, rfl⟩, hx⟩ := hx
      exact hsc x hx
    obtain ⟨w', h1, h2⟩ := storeCells_loc (P := P) hcells (L.base + off) (Builtin.zeroCells zv.cells n).toList (by simp; omega) (VsRel.oneCells hall hrel)
    obtain ⟨h3, h4⟩ := hR.store hst hL hrel h2
    refine ⟨undef, w', ρ, .inl ?_, by simp [VRel, undef], h3, h4⟩
    match n, hn0 with
    | n + 1, _ =>
      simp only [Sem.run_bind, Builtin.clear_, List.map_toArray, List.map_cons, List.map_nil, ht0, List.getElem?_toArray, List.getElem?_cons_zero, underlying_run hu, Result.andThen_ok, hv, hzrun, h1, Sem.run_pure, pure_bind]
      rfl
  · omega

theorem ok_call {f : Operand} {args : Array Operand} {argTypes : Array TypeId} (h : o.op = .call { callee := .value f, args, argTypes }) : OpOK P o fr σ (.call (fr.eval f) (args.toList.map fr.eval)) := fun ρ w a hR hS => by
  refine ⟨a.eval f, args.map a.eval, hS.eval f, ?_, ?_⟩
  · simp only [Array.toList_map]; exact VsRel.map _ fun x _ => hS.eval x
  · simp [execOp, h, resolve]

theorem ok_panic {x : Operand} {t : TypeId} {v : HV} (h : o.op = .panic x) (hx : fr.eval x = .iface t v) : OpOK P o fr σ (.panic (.iface t v)) := fun ρ w a hR hS => by
  have hv := hS.eval x
  rw [hx] at hv
  have hv' := hv
  simp only [VRel] at hv
  obtain ⟨v', hv, hr⟩ := hv
  exact ⟨.iface t v', w, by simp [execOp, h, hv, Instr.panic], by rw [← hv]; exact hv', hR, .refl _ _⟩

theorem ok_typeAssert_iface {x : Operand} {xt asserted : TypeId} {ok : Bool} {want : Array (String × TypeId)} {t : TypeId} {v : HV} {i : TypeInfo} (h : o.op = .typeAssert x xt asserted ok) (hu : P.underlying asserted = some (.interface want))
    (hx : fr.eval x = .iface t v) (hi : P.info? t = some i) (hm : Instr.missingMethod want i.methods = none) : OpOK P o fr σ (.val (if ok then .tuple [.iface t v, .bool true] else .iface t v) σ) := fun ρ w a hR hS => by
  have hv := hS.eval x
  rw [hx] at hv
  have hv' := hv
  simp only [VRel] at hv
  obtain ⟨v', hv, hr⟩ := hv
  rw [hv] at hv'
  refine ValOK.pure hR (v' := if ok then .tuple #[.iface t v', .bool true] else .iface t v') ?_ ?_
  · simp only [execOp, h, hv, Instr.typeAssert, Sem.run_bind, underlying_run hu, Result.andThen_ok, typeInfo_run hi, hm, Sem.run_pure]
  · cases ok with
    | true => simp only [if_true, VRel]; exact ⟨_, rfl, by simp only [VsRel.cons_iff, VsRel.nil, and_true]; exact ⟨hv', by simp [VRel]⟩⟩
    | false => simpa using hv'

theorem ok_typeAssert_iface_no {x : Operand} {xt asserted : TypeId} {want : Array (String × TypeId)} {i : TypeInfo} (h : o.op = .typeAssert x xt asserted true) (hu : P.underlying asserted = some (.interface want))
    (hz : zeroHV P asserted = some .nilIface) (hx : fr.eval x = .nilIface ∨ ∃ t v m, fr.eval x = .iface t v ∧ P.info? t = some i ∧ Instr.missingMethod want i.methods = some m) : OpOK P o fr σ (.val (.tuple [.nilIface, .bool false]) σ) := fun ρ w a hR hS => by
  have hv := hS.eval x
  obtain ⟨zv, hzv, hzn, hzrun, _⟩ := zero_run (ρ := ρ) hz
  simp only [VRel] at hzv
  refine ValOK.pure hR (v' := .tuple #[.nilIface, .bool false]) ?_ (by simp [VRel])
  rcases hx with hx | ⟨t, v, m, hx, hi, hm⟩
  · rw [hx] at hv
    simp only [VRel] at hv
    simp [execOp, h, hv, Instr.typeAssert, underlying_run hu, hzrun, hzv]
  · rw [hx] at hv
    simp only [VRel] at hv
    obtain ⟨v', hv, hr⟩ := hv
    simp [execOp, h, hv, Instr.typeAssert, underlying_run hu, typeInfo_run hi, hm, hzrun, hzv]

theorem ok_typeAssert_nil {x : Operand} {xt asserted : TypeId} {d : TypeDesc} {z : HV} (h : o.op = .typeAssert x xt asserted true) (hu : P.underlying asserted = some d) (hd : ∀ ms, d ≠ .interface ms)
    (hz : zeroHV P asserted = some z) (hx : fr.eval x = .nilIface ∨ ∃ t v, fr.eval x = .iface t v ∧ t ≠ asserted) : OpOK P o fr σ (.val (.tuple [z, .bool false]) σ) := fun ρ w a hR hS => by
  have hv := hS.eval x
  obtain ⟨zv, hzv, hzn, hzrun, _⟩ := zero_run (ρ := ρ) hz
  refine ValOK.pure hR (v' := .tuple #[zv, .bool false]) ?_ (by simp only [VRel]; exact ⟨_, rfl, by simp only [VsRel.cons_iff, VsRel.nil, and_true]; exact ⟨hzv, by simp [VRel]⟩⟩)
  rcases hx with hx | ⟨t, v, hx, hne⟩
  · rw [hx] at hv
    simp only [VRel] at hv
    cases d <;> first | exact absurd rfl (hd _) | simp [execOp, h, hv, Instr.typeAssert, underlying_run hu, hzrun]
  · rw [hx] at hv
    simp only [VRel] at hv
    obtain ⟨v', hv, hr⟩ := hv
    cases d <;> first | exact absurd rfl (hd _) | simp [execOp, h, hv, Instr.typeAssert, underlying_run hu, hzrun, hne]

theorem ok_typeAssert_yes {x : Operand} {xt asserted : TypeId} {ok : Bool} {d : TypeDesc} {v : HV} (h : o.op = .typeAssert x xt asserted ok) (hu : P.underlying asserted = some d) (hd : ∀ ms, d ≠ .interface ms)
    (hx : fr.eval x = .iface asserted v) : OpOK P o fr σ (.val (if ok then .tuple [v, .bool true] else v) σ) := fun ρ w a hR hS => by
  have hv := hS.eval x
  rw [hx] at hv
  simp only [VRel] at hv
  obtain ⟨v', hv, hr⟩ := hv
  refine ValOK.pure hR (v' := if ok then .tuple #[v', .bool true] else v') ?_ ?_
  · cases d <;> first | exact absurd rfl (hd _) | simp [execOp, h, hv, Instr.typeAssert, underlying_run hu]
  · cases ok with
    | true => simp only [if_true, VRel]; exact ⟨_, rfl, by simp only [VsRel.cons_iff, VsRel.nil, and_true]; exact ⟨hr, by simp [VRel]⟩⟩
    | false => simpa using hr

end
end Go.HI

/- The operations over the abstract heap are the machine's: equality by layout, maps. -/
namespace Go.HI
noncomputable section

variable {P : Program} {o : Oper} {fr : HFrame} {σ : Store}

/-! ### Equality -/
/-- Cells as one value of a type. -/
def AsVal (P : Program) (ρ : Ren) (t : TypeId) (xs : List HV) (v : Value) : Prop :=
  if isAggB P t then ∃ vs, v = .agg vs ∧ VsRel ρ xs vs.toList else ∃ x, xs = [x] ∧ VRel ρ x v

theorem part_asVal {ρ : Ren} {t : TypeId} {xs : List HV} {vs : Array Value} (h : VsRel ρ xs vs.toList) {d : TypeDesc} (hd : P.underlying t = some d) (off : Nat)
    (hs : isAggB P t = true ∨ ∃ x, (xs.drop off).take (szOf P t) = [x]) (w : World) : ∃ v, (part t vs off).run P w = .ok v w ∧ AsVal P ρ t ((xs.drop off).take (szOf P t)) v := by
  unfold AsVal
  cases hb : isAggB P t with
  | true =>
    obtain ⟨v, h1, h2⟩ := part_run (P := P) h hd off (r := .agg ((xs.drop off).take (szOf P t))) (by rw [if_pos hb]) w
    simp only [VRel] at h2
    obtain ⟨us, rfl, h3⟩ := h2
    exact ⟨_, h1, by simpa using h3⟩
  | false =>
    rcases hs with hs | ⟨x, hx⟩
    · rw [hb] at hs; cases hs
    · have h0 : xs[off]? = some x := by
        have := congrArg List.head? hx
        rw [List.head?_take] at this
        split at this
        · simp at this
        · rw [List.head?_drop] at this; simpa using this
      obtain ⟨v, h1, h2⟩ := part_run (P := P) h hd off (r := x) (by rw [hb]; simpa using h0) w
      exact ⟨v, h1, by simpa using ⟨x, hx, h2⟩⟩

theorem eqT_single {d : Nat} {t : TypeId} {xs ys : List HV} {r : Bool} (h : eqT P d t xs ys = some r) (hb : isAggB P t = false) : (∃ x, xs = [x]) ∧ ∃ y, ys = [y] := by
  cases d with
  | zero => simp [eqT] at h
  | succ d =>
    simp only [eqT] at h
    split at h
    · split at h
      · exact ⟨⟨_, rfl⟩, _, rfl⟩
      · cases h
    · split at h
      · exact ⟨⟨_, rfl⟩, _, rfl⟩
      · cases h
    · split at h
      · exact ⟨⟨_, rfl⟩, _, rfl⟩
      · cases h
    · rename_i fs hu; unfold isAggB at hb; rw [hu] at hb; cases hb
    · cases h

theorem eqT_under {d : Nat} {t : TypeId} {xs ys : List HV} {r : Bool} (h : eqT P d t xs ys = some r) : ∃ td, P.underlying t = some td := by
  cases d with
  | zero => simp [eqT] at h
  | succ d =>
    cases hu : P.underlying t with
    | some td => exact ⟨td, rfl⟩
    | none => simp [eqT, hu] at h

theorem eqT_ok {ρ : Ren} (D : Nat) (w : World) : ∀ (d : Nat) (t : TypeId) (xs ys : List HV) (r : Bool) (vx vy : Value), eqT P d t xs ys = some r → AsVal P ρ t xs vx → AsVal P ρ t ys vy →
    (Op.equalIn (d + D) t vx vy).run P w = .ok r w := by
  intro d
  induction d with
  | zero => intro t xs ys r vx vy h; simp [eqT] at h
  | succ d ih =>
    intro t xs ys r vx vy h hx hy
    rw [show d + 1 + D = (d + D) + 1 by omega]
    simp only [eqT] at h
    split at h
    · rename_i hu
      have hb : isAggB P t = false := by simp [isAggB, hu]
      simp only [AsVal, hb, Bool.false_eq_true, if_false] at hx hy
      split at h
      · obtain ⟨x, hx1, hx2⟩ := hx
        obtain ⟨y, hy1, hy2⟩ := hy
        simp only [List.cons.injEq, and_true] at hx1 hy1
        subst hx1
        subst hy1
        simp only [VRel] at hx2 hy2
        subst hx2
        subst hy2
        simp only [Option.some.injEq] at h
        subst h
        simp [Op.equalIn, underlying_run hu]
      · cases h
    · rename_i k hu
      have hb : isAggB P t = false := by simp [isAggB, hu]
      simp only [AsVal, hb, Bool.false_eq_true, if_false] at hx hy
      split at h
      · obtain ⟨x, hx1, hx2⟩ := hx
        obtain ⟨y, hy1, hy2⟩ := hy
        simp only [List.cons.injEq, and_true] at hx1 hy1
        subst hx1
        subst hy1
        simp only [VRel] at hx2 hy2
        subst hx2
        subst hy2
        split at h
        · rename_i hk
          simp only [Option.some.injEq] at h
          subst h
          subst hk
          simp [Op.equalIn, underlying_run hu]
        · cases h
      · cases h
    · rename_i hu
      have hb : isAggB P t = false := by simp [isAggB, hu]
      simp only [AsVal, hb, Bool.false_eq_true, if_false] at hx hy
      split at h
      · obtain ⟨x, hx1, hx2⟩ := hx
        obtain ⟨y, hy1, hy2⟩ := hy
        simp only [List.cons.injEq, and_true] at hx1 hy1
        subst hx1
        subst hy1
        simp only [VRel] at hx2 hy2
        subst hx2
        subst hy2
        simp only [Option.some.injEq] at h
        subst h
        rename_i a b
        rw [run_equalIn_string w _ t _ _ hu, ByteArray.toList_eq, ByteArray.toList_eq]
      · cases h
    · rename_i fs hu
      have hb : isAggB P t = true := by simp [isAggB, hu]
      simp only [AsVal, hb, if_true] at hx hy
      obtain ⟨ax, rfl, hx⟩ := hx
      obtain ⟨ay, rfl, hy⟩ := hy
      split at h
      · cases h
      · rename_i hp
        have hfs : P.fieldsOf t = fs := by simp [Program.fieldsOf, hu]
        rw [run_equalIn_struct w (d + D) t ax ay (by rw [hfs]; exact hu) (by simpa using hp), hfs]
        clear hfs hu
        revert r
        generalize fs.toList = l
        induction l with
        | nil => intro r h; simp at h; subst h; simp [Op.eqFields]
        | cons f l ihl =>
          intro r h
          simp only [List.foldr_cons] at h
          split at h
          · cases h
          · rename_i hn
            split at h
            · rename_i a b ha hb'
              simp only [Option.some.injEq] at h
              subst h
              obtain ⟨td, htd⟩ := eqT_under ha
              have hsx : isAggB P f.type = true ∨ ∃ x, (xs.drop f.offset).take (szOf P f.type) = [x] := by
                cases hbb : isAggB P f.type with
                | true => exact .inl rfl
                | false => exact .inr (eqT_single ha hbb).1
              have hsy : isAggB P f.type = true ∨ ∃ x, (ys.drop f.offset).take (szOf P f.type) = [x] := by
                cases hbb : isAggB P f.type with
                | true => exact .inl rfl
                | false => exact .inr (eqT_single ha hbb).2
              obtain ⟨px, hpx, hpx2⟩ := part_asVal hx htd f.offset hsx w
              obtain ⟨py, hpy, hpy2⟩ := part_asVal hy htd f.offset hsy w
              have := ih f.type _ _ a px py ha hpx2 hpy2
              simp only [Op.eqFields]
              rw [if_pos hn]
              simp only [Sem.run_bind, hpx, hpy, this, Result.andThen_ok]
              cases a with
              | true => simpa using ihl b hb'
              | false => simp
            · cases h
    · cases h

theorem asVal_shape {ρ : Ren} {t : TypeId} {x : HV} {v : Value} (hr : VRel ρ x v) (h : shapeOK P t x = true) : AsVal P ρ t x.cells v := by
  unfold AsVal
  cases x with
  | any => simp [shapeOK] at h
  | agg cs =>
    simp only [shapeOK] at h
    rw [if_pos h]
    simp only [VRel] at hr
    simpa [HV.cells] using hr
  | _ =>
    simp only [shapeOK, Bool.not_eq_true'] at h
    rw [h]
    simp only [Bool.false_eq_true, if_false]
    exact ⟨_, rfl, hr⟩

theorem keyEq_run {ρ : Ren} {t : TypeId} {x y : HV} {vx vy : Value} {r : Bool} (h : keyEq P t x y = some r) (hx : VRel ρ x vx) (hy : VRel ρ y vy) (w : World) : (Op.equal t vx vy).run P w = .ok r w := by
  unfold keyEq at h
  split at h
  · rename_i hs
    simp only [Bool.and_eq_true] at hs
    exact eqT_ok 9988 w 12 t x.cells y.cells r vx vy h (asVal_shape hx hs.1) (asVal_shape hy hs.2)
  · cases h

theorem ok_eqAny {ρ : Ren} {t : TypeId} {x y : HV} {x' y' : Value} {r : Bool} (h : eqAny P t x y = some r) (hx : VRel ρ x x') (hy : VRel ρ y y') (w : World) (op : BinOp) (p q : Operand) :
    (Op.equal t x' y').run P w = .ok r w ∧ (eqGuard op t p q x' y').run P w = .ok () w ∧ binOp .eql t x' y' = (do pure (.bool (← Op.equal t x' y'))) ∧
      binOp .neq t x' y' = (do pure (.bool (!(← Op.equal t x' y')))) := by
  unfold eqAny at h
  split at h
  · rename_i xs ys
    split at h
    · cases h
    · rename_i hg
      simp only [Bool.or_eq_true, Bool.not_eq_true', not_or, Bool.not_eq_true, Bool.not_eq_false] at hg
      simp only [VRel] at hx hy
      obtain ⟨vx, rfl, hx⟩ := hx
      obtain ⟨vy, rfl, hy⟩ := hy
      refine ⟨eqT_ok (ρ := ρ) 9988 w 12 t xs ys r _ _ h ?_ ?_, run_eqGuard_agg w op t p q vx vy hg.1, rfl, rfl⟩
      · unfold AsVal; rw [if_pos hg.2]; exact ⟨_, rfl, hx⟩
      · unfold AsVal; rw [if_pos hg.2]; exact ⟨_, rfl, hy⟩
  · obtain ⟨h1, h2, h3, h4⟩ := eqNil_run h hx hy w op p q
    exact ⟨h1 9999, h2, h3, h4⟩

theorem ok_eql {t u : TypeId} {x y : Operand} {r : Bool} (h : o.op = .binOp .eql t x y u) (he : eqAny P t (fr.eval x) (fr.eval y) = some r) : OpOK P o fr σ (.val (.bool r) σ) := fun ρ w a hR hS => by
  obtain ⟨h1, h2, h3, _⟩ := ok_eqAny he (hS.eval x) (hS.eval y) w .eql x y
  refine ValOK.pure hR (v' := .bool r) ?_ (by simp [VRel])
  simp only [execOp, h, Sem.run_bind, h2, Result.andThen_ok, h3, h1, Sem.run_pure]
theorem ok_neq {t u : TypeId} {x y : Operand} {r : Bool} (h : o.op = .binOp .neq t x y u) (he : eqAny P t (fr.eval x) (fr.eval y) = some r) : OpOK P o fr σ (.val (.bool !r) σ) := fun ρ w a hR hS => by
  obtain ⟨h1, h2, _, h3⟩ := ok_eqAny he (hS.eval x) (hS.eval y) w .neq x y
  refine ValOK.pure hR (v' := .bool !r) ?_ (by simp [VRel])
  simp only [execOp, h, Sem.run_bind, h2, Result.andThen_ok, h3, h1, Sem.run_pure]

/-! ### Keys -/
def ckFields (e : Bool) (n : Nat) (cs : Array Value) : List Field → Sem Unit
  | [] => pure ()
  | f :: fs => if f.name ≠ "_" then do
      Instr.checkKey e n f.type (← part f.type cs f.offset)
      ckFields e n cs fs
    else ckFields e n cs fs

theorem ck_struct {e : Bool} {n : Nat} {t : TypeId} {cs : Array Value} {fs : Array Field} (hu : P.underlying t = some (.struct fs)) (w : World) :
    (Instr.checkKey e (n + 1) t (.agg cs)).run P w = (ckFields e n cs fs.toList).run P w := by
  simp only [Instr.checkKey, Sem.run_bind, underlying_run hu, Result.andThen_ok]
  rw [← Array.forIn_toList]
  generalize fs.toList = l
  clear hu
  induction l generalizing w with
  | nil => simp [ckFields]
  | cons f l ih =>
    simp only [List.forIn_cons, ckFields, Sem.run_bind, Sem.run_ite]
    split
    · generalize (part f.type cs f.offset).run P w = r1
      cases r1 with
      | ok a w1 =>
        simp only [Result.andThen_ok]
        generalize (Instr.checkKey e n f.type a).run P w1 = r2
        cases r2 with
        | ok b w2 => simp only [Result.andThen_ok, Sem.run_pure]; exact ih w2
        | halt x w2 => simp [Result.andThen]
      | halt x w1 => simp [Result.andThen]
    · simp only [Sem.run_pure, Result.andThen_ok]
      exact ih w

theorem ck_ok {ρ : Ren} (D : Nat) (e : Bool) (w : World) : ∀ (d : Nat) (t : TypeId) (xs ys : List HV) (r : Bool) (vx : Value), eqT P d t xs ys = some r → AsVal P ρ t xs vx →
    (Instr.checkKey e (d + D) t vx).run P w = .ok () w := by
  intro d
  induction d with
  | zero => intro t xs ys r vx h; simp [eqT] at h
  | succ d ih =>
    intro t xs ys r vx h hx
    rw [show d + 1 + D = (d + D) + 1 by omega]
    have h0 := h
    simp only [eqT] at h
    split at h
    · rename_i hu; simp [Instr.checkKey, underlying_run hu]
    · rename_i k hu; simp [Instr.checkKey, underlying_run hu]
    · rename_i hu; simp [Instr.checkKey, underlying_run hu]
    · rename_i fs hu
      have hb : isAggB P t = true := by simp [isAggB, hu]
      simp only [AsVal, hb, if_true] at hx
      obtain ⟨ax, rfl, hx⟩ := hx
      split at h
      · cases h
      · rename_i hp
        rw [ck_struct hu]
        clear hu h0
        revert r
        generalize fs.toList = l
        induction l with
        | nil => intro r h; simp [ckFields]
        | cons f l ihl =>
          intro r h
          simp only [List.foldr_cons] at h
          split at h
          · cases h
          · rename_i hn
            split at h
            · rename_i a b ha hb'
              obtain ⟨td, htd⟩ := eqT_under ha
              have hsx : isAggB P f.type = true ∨ ∃ x, (xs.drop f.offset).take (szOf P f.type) = [x] := by
                cases hbb : isAggB P f.type with
                | true => exact .inl rfl
                | false => exact .inr (eqT_single ha hbb).1
              obtain ⟨px, hpx, hpx2⟩ := part_asVal hx htd f.offset hsx w
              have := ih f.type _ _ a px ha hpx2
              simp only [ckFields]
              rw [if_pos hn]
              simp only [Sem.run_bind, hpx, this, Result.andThen_ok]
              exact ihl b hb'
            · cases h
    · cases h

theorem keyOK_run {ρ : Ren} {t : TypeId} {k : HV} {v : Value} (h : keyOK P t k = true) (hr : VRel ρ k v) (e : Bool) (w : World) : (Instr.checkKey e 10000 t v).run P w = .ok () w := by
  unfold keyOK keyEq at h
  split at h
  · rename_i hs
    simp only [Bool.and_eq_true] at hs
    obtain ⟨r, hr'⟩ := Option.isSome_iff_exists.1 h
    exact ck_ok 9988 e w 12 t _ _ r v hr' (asVal_shape hr hs.1)
  · cases h

/-! ### Finding -/
theorem EntsRel.length {ρ : Ren} : ∀ {es : List HEntry} {l : List MapEntry}, EntsRel ρ es l → es.length = l.length
  | [], _, h => by simp only [EntsRel] at h; simp [h]
  | _ :: _, _, h => by obtain ⟨e', es', rfl, _, h3⟩ := h; simp [h3.length]

theorem EntsRel.get {ρ : Ren} : ∀ {es : List HEntry} {l : List MapEntry} {i : Nat} {e : HEntry}, EntsRel ρ es l → es[i]? = some e → ∃ e', l[i]? = some e' ∧ EntRel ρ e e'
  | [], _, i, e, _, h => by simp at h
  | x :: xs, _, i, e, hr, h => by
    obtain ⟨e', es', rfl, h1, h2⟩ := hr
    cases i with
    | zero => simp at h; subst h; exact ⟨e', by simp, h1⟩
    | succ i => simp at h; simpa using h2.get h

theorem EntsRel.append {ρ : Ren} : ∀ {a b : List HEntry} {a' b' : List MapEntry}, EntsRel ρ a a' → EntsRel ρ b b' → EntsRel ρ (a ++ b) (a' ++ b')
  | [], b, a', b', h, k => by simp only [EntsRel] at h; subst h; simpa using k
  | x :: xs, b, a', b', h, k => by
    obtain ⟨e', es', rfl, h1, h2⟩ := h
    exact ⟨e', es' ++ b', rfl, h1, h2.append k⟩

theorem EntsRel.modify {ρ : Ren} {f : HEntry → HEntry} {g : MapEntry → MapEntry} (hf : ∀ e e', EntRel ρ e e' → EntRel ρ (f e) (g e')) : ∀ {es : List HEntry} {l : List MapEntry} (i : Nat), EntsRel ρ es l → EntsRel ρ (es.modify i f) (l.modify i g)
  | [], _, i, h => by simp only [EntsRel] at h; subst h; simp [EntsRel]
  | x :: xs, _, i, h => by
    obtain ⟨e', es', rfl, h1, h2⟩ := h
    cases i with
    | zero => simp only [List.modify_zero_cons]; exact ⟨_, _, rfl, hf _ _ h1, h2⟩
    | succ i => simp only [List.modify_succ_cons]; exact ⟨_, _, rfl, h1, h2.modify hf i⟩

theorem EntsRel.eraseIdx {ρ : Ren} : ∀ {es : List HEntry} {l : List MapEntry} (i : Nat), EntsRel ρ es l → EntsRel ρ (es.eraseIdx i) (l.eraseIdx i)
  | [], _, i, h => by simp only [EntsRel] at h; subst h; simp [EntsRel]
  | x :: xs, _, i, h => by
    obtain ⟨e', es', rfl, h1, h2⟩ := h
    cases i with
    | zero => simpa using h2
    | succ i => simp only [List.eraseIdx_cons_succ]; exact ⟨_, _, rfl, h1, h2.eraseIdx i⟩

theorem EntsRel.filter {ρ : Ren} {p : HEntry → Bool} {q : MapEntry → Bool} (hp : ∀ e e', EntRel ρ e e' → p e = q e') : ∀ {es : List HEntry} {l : List MapEntry}, EntsRel ρ es l → EntsRel ρ (es.filter p) (l.filter q)
  | [], _, h => by simp only [EntsRel] at h; subst h; simp [EntsRel]
  | x :: xs, _, h => by
    obtain ⟨e', es', rfl, h1, h2⟩ := h
    simp only [List.filter_cons, hp _ _ h1]
    split
    · exact ⟨_, _, rfl, h1, h2.filter hp⟩
    · exact h2.filter hp

theorem findIx_run {ρ : Ren} {t : TypeId} {k : HV} {v : Value} (hk : VRel ρ k v) (w : World) : ∀ (es : List HEntry) (l : List MapEntry) (r : Option Nat) (i : Nat), findIx P t k es = some r → EntsRel ρ es l →
    (Instr.findAsking t v l i).run P w = .ok (r.bind fun j => (l[j]?).map fun e => (i + j, e.val)) w
  | [], l, r, i, h, hr => by
    simp only [EntsRel] at hr
    subst hr
    simp only [findIx, Option.some.injEq] at h
    subst h
    simp [Instr.findAsking]
  | e :: es, l, r, i, h, hr => by
    obtain ⟨e', l', rfl, h1, h2⟩ := hr
    simp only [findIx] at h
    simp only [Instr.findAsking]
    split at h
    · rename_i hq
      simp only [Option.some.injEq] at h
      subst h
      simp [keyEq_run hq hk h1.1]
    · rename_i hq
      simp only [Option.map_eq_some_iff] at h
      obtain ⟨r', h3, rfl⟩ := h
      have := findIx_run hk w es l' r' (i + 1) h3 h2
      simp only [Sem.run_bind, keyEq_run hq hk h1.1, Result.andThen_ok, Bool.false_eq_true, if_false, this]
      cases r' with
      | none => simp
      | some j => simp; congr 1; funext e; congr 1; omega
    · cases h

theorem findNow_run {ρ : Ren} {t : TypeId} {k : HV} {v : Value} {d : TypeDesc} (hd : P.underlying t = some d) (hk : VRel ρ k v) : ∀ (es : List HEntry) (l : List MapEntry) (r : Option Nat) (i : Nat) (q : Option (Nat × Value)), findIx P t k es = some r → EntsRel ρ es l →
    Instr.findNow d v l i = some q → q = (r.bind fun j => (l[j]?).map fun e => (i + j, e.val))
  | [], l, r, i, q, h, hr, hq => by
    simp only [EntsRel] at hr
    subst hr
    simp only [findIx, Option.some.injEq] at h
    subst h
    simp only [Instr.findNow, Option.some.injEq] at hq
    simp [← hq]
  | e :: es, l, r, i, q, h, hr, hq => by
    obtain ⟨e', l', rfl, h1, h2⟩ := hr
    simp only [findIx] at h
    simp only [Instr.findNow] at hq
    have hsame : ∀ b b', keyEq P t k e.key = some b → Instr.sameNow d v e'.key = some b' → b' = b := by
      intro b b' hb hb'
      have hrun := keyEq_run hb hk h1.1 (default : World)
      have heq : ∀ x, Op.equal t v x = Op.equalIn (9999 + 1) t v x := fun _ => rfl
      rw [heq] at hrun
      generalize e'.key = kv at hrun hb'
      generalize 9999 = D at hrun
      unfold Instr.sameNow at hb'
      split at hb'
      · split at hb'
        · rename_i hkk
          subst hkk
          simp only [Option.some.injEq] at hb'
          simp [Op.equalIn, underlying_run hd] at hrun
          rw [← hb', ← hrun]
        · cases hb'
      · simp only [Option.some.injEq] at hb'
        simp [Op.equalIn, underlying_run hd] at hrun
        rw [← hb', ← hrun]
      · simp only [Option.some.injEq] at hb'
        simp [Op.equalIn, underlying_run hd] at hrun
        rw [← hb', ← hrun]
      · cases hb'
    split at h
    · rename_i hq1
      simp only [Option.some.injEq] at h
      subst h
      split at hq
      · simp only [Option.some.injEq] at hq; subst hq; simp
      · rename_i hs; have := hsame _ _ hq1 hs; cases this
      · cases hq
    · rename_i hq1
      simp only [Option.map_eq_some_iff] at h
      obtain ⟨r', h3, rfl⟩ := h
      split at hq
      · rename_i hs; have := hsame _ _ hq1 hs; cases this
      · have := findNow_run hd hk es l' r' (i + 1) q h3 h2 hq
        rw [this]
        cases r' with
        | none => simp
        | some j => simp; congr 1; funext e; congr 1; omega
      · cases hq
    · cases h

theorem findKey_run {ρ : Ren} {t : TypeId} {k : HV} {v : Value} {d : TypeDesc} (hd : P.underlying t = some d) (hk : VRel ρ k v) {es : List HEntry} {l : List MapEntry} {r : Option Nat} (h : findIx P t k es = some r) (hr : EntsRel ρ es l) (w : World) :
    (Instr.findKey t v l).run P w = .ok (r.bind fun j => (l[j]?).map fun e => (j, e.val)) w := by
  unfold Instr.findKey
  simp only [Sem.run_bind, underlying_run hd, Result.andThen_ok]
  cases hq : Instr.findNow d v l 0 with
  | some q =>
    have := findNow_run hd hk es l r 0 q h hr hq
    simp only [Sem.run_pure]
    rw [this]
    simp
  | none =>
    have := findIx_run hk w es l r 0 h hr
    simpa using this

end
end Go.HI

/- The operations over the abstract heap are the machine's: maps. -/
namespace Go.HI
noncomputable section

variable {P : Program} {o : Oper} {fr : HFrame} {σ : Store}

theorem getObj_run {w : World} {r : Nat} {x : Obj} (h : w.heap[r]? = some x) (hx : ∀ cs ty fz, x ≠ .cells cs ty fz) : (getObj r).run P w = .ok x w := by
  cases x <;> first | exact absurd rfl (hx _ _ _) | simp [getObj, Sem.run, h]

theorem setObj_run {w : World} {r : Nat} {x : Obj} (y : Obj) (h : w.heap[r]? = some x) (hx : ∀ cs ty fz, x ≠ .cells cs ty fz) : (setObj r y).run P w = .ok () (w.putObj r y) := by
  cases x <;> first | exact absurd rfl (hx _ _ _) | simp [setObj, Sem.run, h, World.putObj]

theorem putObj_here {w : World} {r : Nat} {x : Obj} (y : Obj) (h : w.heap[r]? = some x) : (w.putObj r y).heap[r]? = some y := World.putObj_heap_same (Array.getElem?_eq_some_iff.1 h).1

theorem lookup_fin {ρ : Ren} {w : World} {v : HV} {v' : Value} {b ok : Bool} (hv : VRel ρ v v') : ∃ u, (if ok then Value.tuple #[v', .bool b] else v') = u ∧ VRel ρ (if ok then .tuple [v, .bool b] else v) u := by
  refine ⟨_, rfl, ?_⟩
  cases ok with
  | true => simp only [if_true, VRel]; exact ⟨_, rfl, by simp only [VsRel.cons_iff, VsRel.nil, and_true]; exact ⟨hv, by simp [VRel]⟩⟩
  | false => simpa using hv

theorem ok_lookup_nil {t kt et : TypeId} {m k : Operand} {ok : Bool} {z : HV} {d : TypeDesc} (h : o.op = .lookup t m k ok) (hu : P.underlying t = some (.map kt et)) (hd : P.underlying kt = some d) (hz : zeroHV P et = some z) (hm : fr.eval m = .map none)
    (hk : keyOK P kt (fr.eval k) = true) : OpOK P o fr σ (.val (if ok then .tuple [z, .bool false] else z) σ) := fun ρ w a hR hS => by
  have hv := hS.eval m
  rw [hm] at hv
  simp only [VRel] at hv
  obtain ⟨zv, hzv, hzn, hzrun, _⟩ := zero_run (ρ := ρ) hz
  have hfind := findKey_run (ρ := ρ) (es := []) (l := []) (r := none) hd (hS.eval k) (by simp [findIx]) (by simp [EntsRel]) w
  obtain ⟨u, h1, h2⟩ := lookup_fin (w := w) (b := false) (ok := ok) hzv
  refine ValOK.pure hR (v' := u) ?_ h2
  simp only [execOp, h, hv, Instr.lookup, Sem.run_bind, underlying_run hu, Result.andThen_ok, Sem.run_pure, keyOK_run hk (hS.eval k), hfind, Option.bind_none, hzrun, h1, pure_bind]

def lookRes (ok : Bool) (z : HV) : Option HV → HV
  | some v => if ok then .tuple [v, .bool true] else v
  | none => if ok then .tuple [z, .bool false] else z

theorem ok_lookup_at {t kt et : TypeId} {m k : Operand} {ok : Bool} {z : HV} {d : TypeDesc} {r : Nat} {q : Option HV} (h : o.op = .lookup t m k ok) (hu : P.underlying t = some (.map kt et)) (hd : P.underlying kt = some d)
    (hz : zeroHV P et = some z) (hm : fr.eval m = .map (some r)) (hb : ∀ ρ w, Rel ρ σ w → ∀ L, ρ r = some L → ∃ es' clk es ix, w.heap[L.blk]? = some (.map es' clk) ∧ EntsRel ρ es es'.toList ∧ findIx P kt (fr.eval k) es = some ix ∧ (ix.bind fun i => (es[i]?).map (·.val)) = q) (hk : keyOK P kt (fr.eval k) = true) :
    OpOK P o fr σ (.val (lookRes ok z q) σ) := fun ρ w a hR hS => by
  have hv := hS.eval m
  rw [hm] at hv
  simp only [VRel] at hv
  obtain ⟨L, hL, hv⟩ := hv
  obtain ⟨es', clk, es, ix, hes, hrel, hf, hq⟩ := hb ρ w hR L hL
  rw [← hq]
  obtain ⟨zv, hzv, hzn, hzrun, _⟩ := zero_run (ρ := ρ) hz
  have hfind := findKey_run (P := P) hd (hS.eval k) hf hrel w
  have hget := getObj_run (P := P) hes (by simp)
  cases hix : (ix.bind fun i => (es[i]?).map (·.val)) with
  | none =>
    have hnone : (ix.bind fun j => (es'.toList[j]?).map fun e => (j, e.val)) = none := by
      cases ix with
      | none => rfl
      | some i =>
        simp only [Option.bind_some, Option.map_eq_none_iff] at hix ⊢
        rw [List.getElem?_eq_none_iff] at hix ⊢
        rw [← hrel.length]; exact hix
    rw [hnone] at hfind
    obtain ⟨u, h1, h2⟩ := lookup_fin (w := w) (b := false) (ok := ok) hzv
    refine ValOK.pure hR (v' := u) ?_ h2
    simp only [execOp, h, hv, Instr.lookup, Sem.run_bind, underlying_run hu, hget, Result.andThen_ok, Sem.run_pure, keyOK_run hk (hS.eval k), hfind, hzrun, h1, pure_bind]
  | some v =>
    cases ix with
    | none => simp at hix
    | some i =>
      simp only [Option.bind_some, Option.map_eq_some_iff] at hix
      obtain ⟨e, he, rfl⟩ := hix
      obtain ⟨e', he', hee⟩ := hrel.get he
      have hsome : ((some i).bind fun j => (es'.toList[j]?).map fun e => (j, e.val)) = some (i, e'.val) := by simp only [Option.bind_some, he', Option.map_some]
      rw [hsome] at hfind
      obtain ⟨u, h1, h2⟩ := lookup_fin (w := w) (b := true) (ok := ok) hee.2.1
      refine ValOK.pure hR (v' := u) ?_ h2
      simp only [execOp, h, hv, Instr.lookup, Sem.run_bind, underlying_run hu, hget, Result.andThen_ok, Sem.run_pure, keyOK_run hk (hS.eval k), hfind, h1, pure_bind]

theorem ok_lookup {t kt et : TypeId} {m k : Operand} {ok : Bool} {z : HV} {d : TypeDesc} {r : Nat} {es : List HEntry} {clk : Nat} {ix : Option Nat} (h : o.op = .lookup t m k ok) (hu : P.underlying t = some (.map kt et)) (hd : P.underlying kt = some d)
    (hz : zeroHV P et = some z) (hm : fr.eval m = .map (some r)) (hb : σ.blks.get r = some (.map es clk)) (hk : keyOK P kt (fr.eval k) = true) (hf : findIx P kt (fr.eval k) es = some ix) :
    OpOK P o fr σ (.val (lookRes ok z (ix.bind fun i => (es[i]?).map (·.val))) σ) :=
  ok_lookup_at h hu hd hz hm (fun ρ w hR L hL => by
    obtain ⟨es', hes, hrel⟩ := hR.blk r L _ hL hb
    exact ⟨es', clk, es, ix, hes, hrel, hf, rfl⟩) hk

/-! Maps without an order -/
theorem hitsU_perm {t : TypeId} {k : HV} {es es2 : List (HV × HV)} (hp : es.Perm es2) : ∀ l, hitsU P t k es = some l → ∃ l2, hitsU P t k es2 = some l2 ∧ l.Perm l2 := by
  induction hp with
  | nil => exact fun l h => ⟨l, h, .refl _⟩
  | cons x _ ih =>
    intro l h
    simp only [hitsU] at h
    split at h
    · rename_i b l' hb hl
      cases h
      obtain ⟨l2, h1, h2⟩ := ih _ hl
      refine ⟨if b then x.2 :: l2 else l2, by simp only [hitsU, hb, h1], ?_⟩
      split
      · exact h2.cons _
      · exact h2
    · cases h
  | swap x y l0 =>
    intro l h
    simp only [hitsU] at h
    split at h
    · rename_i b l' hb hl
      cases h
      split at hl
      · rename_i b' l'' hb' hl'
        cases hl
        refine ⟨if b' then x.2 :: (if b then y.2 :: l'' else l'') else (if b then y.2 :: l'' else l''), by simp only [hitsU, hb, hb', hl'], ?_⟩
        cases b <;> cases b' <;> simp
        exact List.Perm.swap _ _ _
      · cases hl
    · cases h
  | trans _ _ ih1 ih2 =>
    intro l h
    obtain ⟨l2, h1, h2⟩ := ih1 l h
    obtain ⟨l3, h3, h4⟩ := ih2 l2 h1
    exact ⟨l3, h3, h2.trans h4⟩

def pairOf (e : HEntry) : HV × HV := (e.key, e.val)

theorem hitsU_find {t : TypeId} {k : HV} : ∀ (es : List HEntry) (l : List HV), hitsU P t k (es.map pairOf) = some l →
    (l = [] → findIx P t k es = some none) ∧ (∀ v, l = [v] → ∃ i, findIx P t k es = some (some i) ∧ (es[i]?).map (·.val) = some v)
  | [], l, h => by
    simp only [List.map_nil, hitsU, Option.some.injEq] at h
    subst h
    exact ⟨fun _ => rfl, fun v hv => by cases hv⟩
  | e :: es, l, h => by
    simp only [List.map_cons, hitsU] at h
    split at h
    · rename_i b l' hb hl
      cases h
      obtain ⟨h1, h2⟩ := hitsU_find es l' hl
      have hb' : keyEq P t k e.key = some b := hb
      cases b with
      | true =>
        refine ⟨fun h => (by cases h), fun v hv => ⟨0, by simp only [findIx, hb'], ?_⟩⟩
        simp only [if_true, List.cons.injEq] at hv
        simp [← hv.1, pairOf]
      | false =>
        simp only [Bool.false_eq_true, if_false, findIx, hb']
        refine ⟨fun h => by rw [h1 h]; rfl, fun v hv => ?_⟩
        obtain ⟨i, h3, h4⟩ := h2 v hv
        exact ⟨i + 1, by rw [h3]; rfl, by simpa using h4⟩
    · cases h

theorem pairs_perm {ρ : Ren} {l l' : List MapEntry} (hp : l.Perm l') : ∀ es, PairsRel ρ es l → ∃ es2 : List HEntry, EntsRel ρ es2 l' ∧ es.Perm (es2.map pairOf) := by
  have base : ∀ (l : List MapEntry) (es : List (HV × HV)), PairsRel ρ es l → ∃ es2 : List HEntry, EntsRel ρ es2 l ∧ es = es2.map pairOf := by
    intro l
    induction l with
    | nil =>
      intro es h
      cases es with
      | nil => exact ⟨[], by simp [EntsRel], rfl⟩
      | cons e es => obtain ⟨_, _, h, _⟩ := h; cases h
    | cons x l ih =>
      intro es h
      cases es with
      | nil => simp [PairsRel] at h
      | cons e es =>
        obtain ⟨e', es', h1, h2, h3⟩ := h
        cases h1
        obtain ⟨es2, h4, h5⟩ := ih es h3
        exact ⟨⟨e.1, e.2, x.born⟩ :: es2, ⟨_, _, rfl, ⟨h2.1, h2.2, rfl⟩, h4⟩, by simp [pairOf, h5]⟩
  have perm : ∀ es, PairsRel ρ es l → ∃ es', PairsRel ρ es' l' ∧ es.Perm es' := by
    induction hp with
    | nil => exact fun es h => ⟨es, h, .refl _⟩
    | cons x _ ih =>
      intro es h
      cases es with
      | nil => simp [PairsRel] at h
      | cons e es =>
        obtain ⟨e', es', h1, h2, h3⟩ := h
        cases h1
        obtain ⟨es2, h4, h5⟩ := ih es h3
        exact ⟨e :: es2, ⟨_, _, rfl, h2, h4⟩, h5.cons _⟩
    | swap x y l0 =>
      intro es h
      cases es with
      | nil => simp [PairsRel] at h
      | cons e es =>
        obtain ⟨e', es', h1, h2, h3⟩ := h
        cases h1
        cases es with
        | nil => simp [PairsRel] at h3
        | cons f es =>
          obtain ⟨f', fs', h4, h5, h6⟩ := h3
          cases h4
          exact ⟨f :: e :: es, ⟨_, _, rfl, h5, _, _, rfl, h2, h6⟩, List.Perm.swap _ _ _⟩
    | trans _ _ ih1 ih2 =>
      intro es h
      obtain ⟨es2, h1, h2⟩ := ih1 es h
      obtain ⟨es3, h3, h4⟩ := ih2 es2 h1
      exact ⟨es3, h3, h2.trans h4⟩
  intro es h
  obtain ⟨es', h1, h2⟩ := perm es h
  obtain ⟨es2, h3, h4⟩ := base l' es' h1
  exact ⟨es2, h3, h4 ▸ h2⟩

theorem ok_lookup_o {t kt et : TypeId} {m k : Operand} {ok : Bool} {z : HV} {d : TypeDesc} {r : Nat} {es : List (HV × HV)} {q : Option HV} (h : o.op = .lookup t m k ok) (hu : P.underlying t = some (.map kt et)) (hd : P.underlying kt = some d)
    (hz : zeroHV P et = some z) (hm : fr.eval m = .map (some r)) (hb : σ.blks.get r = some (.omap es)) (hk : keyOK P kt (fr.eval k) = true) (hf : findU P kt (fr.eval k) es = some q) :
    OpOK P o fr σ (.val (lookRes ok z q) σ) :=
  ok_lookup_at h hu hd hz hm (fun ρ w hR L hL => by
    obtain ⟨es', clk, l, h1, h2, h3⟩ := hR.blk r L _ hL hb
    obtain ⟨es2, h4, h5⟩ := pairs_perm h2 es h3
    unfold findU at hf
    split at hf
    · rename_i hh
      cases hf
      obtain ⟨l2, h6, h7⟩ := hitsU_perm (P := P) h5 _ hh
      have := (hitsU_find es2 l2 h6).1 (List.nil_perm.1 h7)
      exact ⟨es', clk, es2, none, h1, h4, this, rfl⟩
    · rename_i v hh
      cases hf
      obtain ⟨l2, h6, h7⟩ := hitsU_perm (P := P) h5 _ hh
      obtain ⟨i, h8, h9⟩ := (hitsU_find es2 l2 h6).2 v (List.singleton_perm.1 h7).symm
      exact ⟨es', clk, es2, some i, h1, h4, h8, by simpa using h9⟩
    · cases hf) hk

theorem byteArray_refl (b : ByteArray) : (b == b) = true := by
  cases b with
  | mk d => show (d == d) = true; simp

theorem simple_eq {ρ : Ren} : ∀ {x y : HV} {v u : Value}, simpleCell x = true → HV.beq x y = true → VRel ρ x v → VRel ρ y u → v = u ∧ ∀ n, Instr.sameBits n v u = true
  | .bool b, y, v, u, _, hb, h1, h2 => by
    cases y <;> simp [HV.beq] at hb
    subst hb
    simp only [VRel] at h1 h2
    subst h1
    subst h2
    exact ⟨rfl, fun n => by cases n <;> simp [Instr.sameBits]⟩
  | .int k n, y, v, u, _, hb, h1, h2 => by
    cases y <;> simp [HV.beq] at hb
    obtain ⟨rfl, rfl⟩ := hb
    simp only [VRel] at h1 h2
    subst h1
    subst h2
    exact ⟨rfl, fun n => by cases n <;> simp [Instr.sameBits]⟩
  | .str s, y, v, u, _, hb, h1, h2 => by
    cases y <;> simp [HV.beq] at hb
    subst hb
    simp only [VRel] at h1 h2
    subst h1
    subst h2
    exact ⟨rfl, fun n => by cases n <;> simp only [Instr.sameBits] <;> exact byteArray_refl _⟩
  | .any, _, _, _, h, _, _, _ | .ptr _, _, _, _, h, _, _, _ | .slice .., _, _, _, h, _, _, _ | .map _, _, _, _, h, _, _, _ | .func .., _, _, _, h, _, _, _ | .nilFunc, _, _, _, h, _, _, _
  | .iface .., _, _, _, h, _, _, _ | .nilIface, _, _, _, h, _, _, _ | .agg _, _, _, _, h, _, _, _ | .tuple _, _, _, _, h, _, _, _ => by simp [simpleCell] at h

theorem simples_eq {ρ : Ren} : ∀ {xs ys : List HV} {vs us : List Value}, xs.all simpleCell = true → HV.beqs xs ys = true → VsRel ρ xs vs → VsRel ρ ys us → vs = us ∧ ∀ n, (vs.zip us).all (fun p => Instr.sameBits n p.1 p.2) = true
  | [], ys, vs, us, _, hb, h1, h2 => by
    cases ys <;> simp [HV.beqs] at hb
    simp only [VsRel] at h1 h2
    subst h1
    subst h2
    simp
  | x :: xs, ys, vs, us, hs, hb, h1, h2 => by
    cases ys with
    | nil => simp [HV.beqs] at hb
    | cons y ys =>
      simp only [HV.beqs, Bool.and_eq_true] at hb
      simp only [List.all_cons, Bool.and_eq_true] at hs
      cases vs with
      | nil => simp at h1
      | cons v vs =>
        cases us with
        | nil => simp at h2
        | cons u us =>
          rw [VsRel.cons_iff] at h1 h2
          obtain ⟨e1, f1⟩ := simple_eq hs.1 hb.1 h1.1 h2.1
          obtain ⟨e2, f2⟩ := simples_eq hs.2 hb.2 h1.2 h2.2
          exact ⟨by rw [e1, e2], fun n => by simp only [List.zip_cons_cons, List.all_cons, f1, f2, Bool.and_self]⟩

theorem sameKey_bits {ρ : Ren} {x y : HV} {v u : Value} (h : sameKey x y = true) (h1 : VRel ρ x v) (h2 : VRel ρ y u) (w : World) : (Instr.keyThatStays v u).run P w = .ok u w := by
  have hb : Instr.sameBits 10000 v u = true := by
    generalize hD : 10000 = D
    unfold sameKey at h
    split at h
    · rename_i xs ys
      simp only [Bool.and_eq_true] at h
      simp only [VRel] at h1 h2
      obtain ⟨vs, rfl, h1⟩ := h1
      obtain ⟨us, rfl, h2⟩ := h2
      obtain ⟨e, f⟩ := simples_eq h.1 h.2 h1 h2
      subst hD
      have hsz : vs.size = us.size := by simpa using congrArg List.length e
      have : Instr.sameBits (9999 + 1) (.agg vs) (.agg us) = true := by
        simp only [Instr.sameBits, hsz, beq_self_eq_true, Bool.true_and]
        exact f 9999
      exact this
    · simp only [Bool.and_eq_true] at h
      exact (simple_eq h.1 h.2 h1 h2).2 D
  unfold Instr.keyThatStays
  rw [if_pos hb]
  rfl

theorem ok_mapUpdate {t kt et : TypeId} {m k x : Operand} {d : TypeDesc} {r : Nat} {es es' : List HEntry} {clk c' : Nat} (h : o.op = .mapUpdate t m k x ∨ o.op = .insert t m k x) (hu : P.underlying t = some (.map kt et)) (hd : P.underlying kt = some d)
    (hm : fr.eval m = .map (some r)) (hb : σ.blks.get r = some (.map es clk)) (hk : keyOK P kt (fr.eval k) = true) (hf : updK P kt (fr.eval k) (fr.eval x) clk es = some (es', c')) :
    OpOK P o fr σ (.val (.tuple []) { σ with blks := σ.blks.set r (.map es' c') }) := fun ρ w a hR hS => by
  have hv := hS.eval m
  rw [hm] at hv
  simp only [VRel] at hv
  obtain ⟨L, hL, hv⟩ := hv
  obtain ⟨l, hes, hrel⟩ := hR.blk r L _ hL hb
  have hget := getObj_run (P := P) hes (by simp)
  have hset : ∀ y, (setObj L.blk y).run P w = .ok () (w.putObj L.blk y) := fun y => setObj_run y hes (by simp)
  have hexec : execOp a.eval o = (do Instr.mapUpdate t (a.eval m) (a.eval k) (a.eval x); pure .skip) := by
    rcases h with h | h <;> simp only [execOp, h]
  unfold updK at hf
  have fin : ∀ (l' : Array MapEntry), EntsRel ρ es' l'.toList → (Instr.mapUpdate t (a.eval m) (a.eval k) (a.eval x)).run P w = .ok () (w.putObj L.blk (.map l' c')) → ValOK σ.next ρ w ((execOp a.eval o).run P w) (.tuple []) { σ with blks := σ.blks.set r (.map es' c') } := by
    intro l' hl' hrun
    obtain ⟨h1, h2⟩ := hR.putObj hL hb (y := .map es' c') (by simp [HBlk.obj]) (by simp [HBlk.obj]) (.map l' c') (fun cs ty fz => by rw [hes]; simp) ⟨l', putObj_here _ hes, hl'⟩
    refine ⟨undef, _, ρ, .inr ⟨?_, rfl⟩, by simp [VRel, undef], h1, h2⟩
    rw [hexec]
    simp [hrun]
  split at hf
  · rename_i hix
    simp only [Option.some.injEq, Prod.mk.injEq] at hf
    obtain ⟨rfl, rfl⟩ := hf
    have hfind := findKey_run (P := P) hd (hS.eval k) hix hrel w
    refine fin (l.push { key := a.eval k, val := a.eval x, born := clk }) ?_ ?_
    · rw [Array.toList_push]
      exact hrel.append ⟨_, _, rfl, ⟨hS.eval k, hS.eval x, rfl⟩, rfl⟩
    · simp only [Instr.mapUpdate, Sem.run_bind, underlying_run hu, Result.andThen_ok, hv, hget, keyOK_run hk (hS.eval k), hfind, Option.bind_none, hset]
  · rename_i i hix
    split at hf
    · rename_i e he
      split at hf
      · rename_i hsk
        simp only [Option.some.injEq, Prod.mk.injEq] at hf
        obtain ⟨rfl, rfl⟩ := hf
        obtain ⟨e', he', hee⟩ := hrel.get he
        have hfind := findKey_run (P := P) hd (hS.eval k) hix hrel w
        simp only [Option.bind_some, he', Option.map_some] at hfind
        have hstay := sameKey_bits (P := P) hsk hee.1 (hS.eval k) w
        have hget' : ((l[i]?).map (·.key)).getD (a.eval k) = e'.key := by
          rw [← Array.getElem?_toList, he']; rfl
        refine fin (l.modify i fun e => { e with key := a.eval k, val := a.eval x }) ?_ ?_
        · rw [Array.toList_modify]
          unfold modifyE
          refine hrel.modify (fun e e' h => ?_) i
          exact ⟨hS.eval k, hS.eval x, h.2.2⟩
        · simp only [Instr.mapUpdate, Sem.run_bind, underlying_run hu, Result.andThen_ok, hv, hget, keyOK_run hk (hS.eval k), hfind, hget', hstay, hset]
      · cases hf
    · cases hf
  · cases hf

theorem ok_delete {args : Array Operand} {argTypes : Array TypeId} {om ok' : Operand} {t kt et : TypeId} {d : TypeDesc} {r : Nat} {es : List HEntry} {clk : Nat} {ix : Option Nat} (h : o.op = .call { callee := .builtin .delete, args, argTypes }) (ha : args = #[om, ok']) (ht0 : argTypes[0]? = some t)
    (hu : P.underlying t = some (.map kt et)) (hd : P.underlying kt = some d) (hm : fr.eval om = .map (some r)) (hb : σ.blks.get r = some (.map es clk)) (hk : keyOK P kt (fr.eval ok') = true) (hf : findIx P kt (fr.eval ok') es = some ix) (hin : ∀ i, ix = some i → i < es.length) :
    OpOK P o fr σ (.val (.tuple []) (match ix with | some i => { σ with blks := σ.blks.set r (.map (es.eraseIdx i) clk) } | none => { σ with blks := σ.blks.set r (.map es clk) })) := fun ρ w a hR hS => by
  have hv := hS.eval om
  rw [hm] at hv
  simp only [VRel] at hv
  obtain ⟨L, hL, hv⟩ := hv
  obtain ⟨l, hes, hrel⟩ := hR.blk r L _ hL hb
  have hget := getObj_run (P := P) hes (by simp)
  have hset : ∀ y, (setObj L.blk y).run P w = .ok () (w.putObj L.blk y) := fun y => setObj_run y hes (by simp)
  have hfind := findKey_run (P := P) hd (hS.eval ok') hf hrel w
  rw [exec_builtin (s := Builtin.delete_ argTypes o.type (args.map a.eval)) h (fun _ => rfl)]
  subst ha
  cases ix with
  | none =>
    obtain ⟨h1, h2⟩ := hR.putObj hL hb (y := .map es clk) (by simp [HBlk.obj]) (by simp [HBlk.obj]) (.map l clk) (fun cs ty fz => by rw [hes]; simp) ⟨l, putObj_here _ hes, hrel⟩
    refine ⟨undef, _, ρ, .inl ?_, by simp [VRel, undef], h1, h2⟩
    simp only [Sem.run_bind, Builtin.delete_, List.map_toArray, List.map_cons, List.map_nil, ht0, List.getElem?_toArray, List.getElem?_cons_zero, List.getElem?_cons_succ, underlying_run hu, Result.andThen_ok, hv, hget, keyOK_run hk (hS.eval ok'), hfind, Option.bind_none, hset, Sem.run_pure]
    rfl
  | some i =>
    have hi := hin i rfl
    have hi' : i < l.toList.length := by rw [← hrel.length]; exact hi
    obtain ⟨h1, h2⟩ := hR.putObj hL hb (y := .map (es.eraseIdx i) clk) (by simp [HBlk.obj]) (by simp [HBlk.obj]) (.map (l.eraseIdxIfInBounds i) clk) (fun cs ty fz => by rw [hes]; simp) ⟨_, putObj_here _ hes, by
      have : (l.eraseIdxIfInBounds i).toList = l.toList.eraseIdx i := by
        rw [Array.eraseIdxIfInBounds, dif_pos (by simpa using hi')]
        simp
      rw [this]
      exact hrel.eraseIdx i⟩
    refine ⟨undef, _, ρ, .inl ?_, by simp [VRel, undef], h1, h2⟩
    simp only [Option.bind_some, List.getElem?_eq_getElem hi', Option.map_some] at hfind
    simp only [Sem.run_bind, Builtin.delete_, List.map_toArray, List.map_cons, List.map_nil, ht0, List.getElem?_toArray, List.getElem?_cons_zero, List.getElem?_cons_succ, underlying_run hu, Result.andThen_ok, hv, hget, keyOK_run hk (hS.eval ok'), hfind, hset, Sem.run_pure]
    rfl

/-! ### Ranging -/
theorem ok_range_nil {t kt et : TypeId} {x : Operand} (h : o.op = .range t x) (hu : P.underlying t = some (.map kt et)) (hx : fr.eval x = .map none) :
    OpOK P o fr σ (.val (.ptr (some (σ.next, 0))) (σ.push (.iter none 0 [] 0))) := fun ρ w a hR hS => by
  have hv := hS.eval x
  rw [hx] at hv
  simp only [VRel] at hv
  refine ⟨.pointer (some ⟨w.heap.size, 0, none⟩), w.alloc (.mapIter none 0 #[] 0), ρ.add σ.next ⟨w.heap.size, 0, 0⟩, .inl ?_, ?_, hR.alloc (by simp [HBlk.single]) _ _ ⟨rfl, none, heap_alloc_new w _, rfl⟩, Fr.alloc hR _ _⟩
  · simp [execOp, h, hv, Instr.range, underlying_run hu]
  · simp only [VRel]; exact ⟨_, Ren.add_same _ _ _, rfl⟩

theorem ok_range {t kt et : TypeId} {x : Operand} {m : Nat} {es : List HEntry} {clk : Nat} (h : o.op = .range t x) (hu : P.underlying t = some (.map kt et)) (hx : fr.eval x = .map (some m)) (hb : σ.blks.get m = some (.map es clk)) :
    OpOK P o fr σ (.val (.ptr (some (σ.next, 0))) (σ.push (.iter (some m) clk [] clk))) := fun ρ w a hR hS => by
  have hv := hS.eval x
  rw [hx] at hv
  simp only [VRel] at hv
  obtain ⟨L, hL, hv⟩ := hv
  obtain ⟨l, hes, hrel⟩ := hR.blk m L _ hL hb
  have hget := getObj_run (P := P) hes (by simp)
  refine ⟨.pointer (some ⟨w.heap.size, 0, none⟩), w.alloc (.mapIter (some L.blk) clk #[] clk), ρ.add σ.next ⟨w.heap.size, 0, 0⟩, .inl ?_, ?_, hR.alloc (by simp [HBlk.single]) _ _ ⟨rfl, some L.blk, heap_alloc_new w _, L, hL, rfl⟩, Fr.alloc hR _ _⟩
  · simp [execOp, h, hv, Instr.range, underlying_run hu, hget]
  · simp only [VRel]; exact ⟨_, Ren.add_same _ _ _, rfl⟩

theorem ok_next_nil {it : Operand} {r : Nat} {s : Nat} {sn : List Nat} {la : Nat} (h : o.op = .next it false) (hx : fr.eval it = .ptr (some (r, 0))) (hb : σ.blks.get r = some (.iter none s sn la)) : OpOK P o fr σ (.val (.tuple [.bool false]) σ) := fun ρ w a hR hS => by
  have hv := hS.eval it
  rw [hx] at hv
  obtain ⟨L, hL, hv⟩ := hv.ptr_inv
  obtain ⟨h0, m', hit, hm⟩ := hR.blk r L _ hL hb
  simp only at hm
  subst hm
  rw [h0] at hv
  have hget := getObj_run (P := P) hit (by simp)
  refine ValOK.pure hR (v' := .tuple #[.bool false]) ?_ (by simp [VRel])
  simp [execOp, h, hv, Instr.next, hget]

theorem ok_next {it : Operand} {r m : Nat} {since last clk : Nat} {seen : List Nat} {es : List HEntry} (h : o.op = .next it false) (hx : fr.eval it = .ptr (some (r, 0))) (hb : σ.blks.get r = some (.iter (some m) since seen last)) (hbm : σ.blks.get m = some (.map es clk))
    (hgone : (!seen.isEmpty && !es.isEmpty && es.all (fun e => decide (e.born ≥ last))) = false) {left old new : List HEntry} (hleft : left = es.filter fun e => !seen.contains e.born) (hold : old = left.filter fun e => decide (e.born < since)) (hnew : new = left.filter fun e => decide (e.born ≥ since)) :
    OpOK P o fr σ (.alts ((if old.isEmpty then [(.tuple [.bool false], σ)] else []) ++ (old ++ new).map fun e =>
      (.tuple [.bool true, e.key, e.val], { σ with blks := σ.blks.set r (.iter (some m) since (seen ++ [e.born]) clk) }))) := fun ρ w a hR hS => by
  have hv := hS.eval it
  rw [hx] at hv
  obtain ⟨L, hL, hv⟩ := hv.ptr_inv
  obtain ⟨h0, m', hit, Lm, hLm, hm⟩ := hR.blk r L _ hL hb
  subst hm
  rw [h0] at hv
  obtain ⟨l, hes, hrel⟩ := hR.blk m Lm _ hLm hbm
  have hget := getObj_run (P := P) hit (by simp)
  have hgetm := getObj_run (P := P) hes (by simp)
  have hset : ∀ y, (setObj L.blk y).run P w = .ok () (w.putObj L.blk y) := fun y => setObj_run y hit (by simp)
  obtain ⟨left', hl'⟩ : ∃ x : Array MapEntry, x = l.filter fun e => !(⟨seen⟩ : Array Nat).contains e.born := ⟨_, rfl⟩
  obtain ⟨old', ho'⟩ : ∃ x : Array MapEntry, x = left'.filter (·.born < since) := ⟨_, rfl⟩
  obtain ⟨new', hn'⟩ : ∃ x : Array MapEntry, x = left'.filter (·.born ≥ since) := ⟨_, rfl⟩
  have rl : EntsRel ρ left left'.toList := by
    rw [hleft, hl', Array.toList_filter]
    exact hrel.filter fun e e' he => by rw [he.2.2]; simp
  have ro : EntsRel ρ old old'.toList := by
    rw [hold, ho', Array.toList_filter]
    exact rl.filter fun e e' he => by rw [he.2.2]
  have rn : EntsRel ρ new new'.toList := by
    rw [hnew, hn', Array.toList_filter]
    exact rl.filter fun e e' he => by rw [he.2.2]
  have ron := ro.append rn
  have hgone' : (!(⟨seen⟩ : Array Nat).isEmpty && !l.isEmpty && l.all (·.born ≥ last)) = false := by
    have e1 : (⟨seen⟩ : Array Nat).isEmpty = seen.isEmpty := by cases seen <;> rfl
    have e2 : l.isEmpty = es.isEmpty := by
      have := hrel.length
      rw [Bool.eq_iff_iff]
      simp only [Array.isEmpty_iff_size_eq_zero, List.isEmpty_iff_length_eq_zero]
      simp at this
      omega
    have e3 : l.all (·.born ≥ last) = es.all (fun e => decide (e.born ≥ last)) := by
      rw [← Array.all_toList]
      clear hgone hbm hes hgetm e2 hl' rl ron
      have : ∀ (es : List HEntry) (l : List MapEntry), EntsRel ρ es l → l.all (fun e => decide (e.born ≥ last)) = es.all (fun e => decide (e.born ≥ last)) := by
        intro es
        induction es with
        | nil => intro l h; simp only [EntsRel] at h; subst h; rfl
        | cons e es ih => intro l h; obtain ⟨e', l', rfl, h1, h2⟩ := h; simp only [List.all_cons, ih _ h2, h1.2.2]
      exact this _ _ hrel
    rw [e1, e2, e3]
    exact hgone
  obtain ⟨cands, hc⟩ : ∃ x : Array (Option MapEntry), x = (if old'.isEmpty then #[none] else #[]) ++ (old' ++ new').map some := ⟨_, rfl⟩
  have hoe : old'.isEmpty = old.isEmpty := by
    have := ro.length
    rw [Bool.eq_iff_iff]
    simp only [Array.isEmpty_iff_size_eq_zero, List.isEmpty_iff_length_eq_zero]
    simp at this
    omega
  have hpos : 0 < cands.size := by
    rw [hc]
    by_cases e : old'.isEmpty = true
    · simp [e]
      omega
    · simp only [e]
      have : old'.size ≠ 0 := by simpa [Array.isEmpty_iff_size_eq_zero] using e
      simp
      omega
  obtain ⟨k, w1, hch, hk, hh⟩ : ∃ k w1, (choose (.mapNext cands.size)).run P w = .ok k w1 ∧ k < cands.size ∧ World.sameHeap w w1 := by
    simp only [run_choose]
    split
    · exact ⟨0, w, rfl, hpos, rfl, rfl, rfl, rfl⟩
    · exact ⟨_, _, rfl, by simp only [Question.cut]; exact Nat.mod_lt _ hpos, rfl, rfl, rfl, rfl⟩
  have hR1 := hR.same hh.1
  have hF1 := Fr.same (N := σ.next) (ρ := ρ) hh
  have hset1 : ∀ y, (setObj L.blk y).run P w1 = .ok () (w1.putObj L.blk y) := fun y => setObj_run y (by rw [hh.1]; exact hit) (by simp)
  have hrun : (execOp a.eval o).run P w = ((match cands[k]? with
      | some (some e) => (do
          setObj L.blk (.mapIter (some Lm.blk) since ((⟨seen⟩ : Array Nat).push e.born) clk)
          pure (.tuple #[.bool true, e.key, e.val]) : Sem Value)
      | some none => pure (.tuple #[.bool false])
      | none => stuck "Next: no such candidate").run P w1).andThen fun v w => .ok (.value v) w := by
    simp only [execOp, h, hv, Instr.next, Sem.run_bind, hget, Result.andThen_ok, hgetm, hgone', Bool.false_eq_true, if_false, ← hl', ← ho', ← hn', ← hc, hch]
    rfl
  have hcl : cands.toList = (if old.isEmpty then [none] else []) ++ (old'.toList ++ new'.toList).map some := by
    rw [hc, hoe]
    cases old.isEmpty <;> simp
  have hkl : k < cands.toList.length := by simpa using hk
  have hck : cands[k]? = cands.toList[k]? := by rw [Array.getElem?_toList]
  show ∃ v σ', (v, σ') ∈ _ ∧ ValOK σ.next ρ w ((execOp a.eval o).run P w) v σ'
  rw [hrun]
  by_cases hend : old.isEmpty = true ∧ k = 0
  · obtain ⟨he, rfl⟩ := hend
    refine ⟨.tuple [.bool false], σ, by simp [he], ?_⟩
    have : cands[0]? = some none := by rw [hck, hcl, he]; simp
    rw [this]
    exact ⟨.tuple #[.bool false], w1, ρ, .inl (by simp), by simp [VRel], hR1, hF1⟩
  · obtain ⟨j, hj, hjk⟩ : ∃ j e', (old'.toList ++ new'.toList)[j]? = some e' ∧ cands[k]? = some (some e') := by
      rw [hck, hcl]
      cases he : old.isEmpty with
      | true =>
        have hk0 : k ≠ 0 := fun e => hend ⟨he, e⟩
        obtain ⟨k', rfl⟩ : ∃ k', k = k' + 1 := ⟨k - 1, by omega⟩
        simp only [if_true, List.cons_append, List.nil_append, List.getElem?_cons_succ, List.getElem?_map]
        have hlt : k' < (old'.toList ++ new'.toList).length := by
          rw [hcl, he] at hkl
          simp at hkl
          simp
          omega
        exact ⟨k', _, List.getElem?_eq_getElem hlt, by rw [List.getElem?_eq_getElem hlt]; rfl⟩
      | false =>
        simp only [Bool.false_eq_true, if_false, List.nil_append, List.getElem?_map]
        have hlt : k < (old'.toList ++ new'.toList).length := by
          rw [hcl, he] at hkl
          simpa using hkl
        exact ⟨k, _, List.getElem?_eq_getElem hlt, by rw [List.getElem?_eq_getElem hlt]; rfl⟩
    obtain ⟨hj1, hj2⟩ := hjk
    have hjl : j < (old ++ new).length := by
      rw [ron.length]
      exact (List.getElem?_eq_some_iff.1 hj1).1
    obtain ⟨e'', he1, he2⟩ := ron.get (List.getElem?_eq_getElem hjl)
    rw [hj1] at he1
    cases he1
    rw [hj2]
    have hborn := he2.2.2
    obtain ⟨h1, h2⟩ := hR1.putObj hL hb (y := .iter (some m) since (seen ++ [(old ++ new)[j].born]) clk) (by simp [HBlk.obj]) (by simp [HBlk.obj]) (.mapIter (some Lm.blk) since ((⟨seen⟩ : Array Nat).push hj.born) clk) (fun cs ty fz => by rw [hh.1, hit]; simp)
      ⟨h0, some Lm.blk, by rw [putObj_here _ (by rw [hh.1]; exact hit), hborn]; simp, Lm, hLm, rfl⟩
    refine ⟨.tuple [.bool true, (old ++ new)[j].key, (old ++ new)[j].val], _, ?_, .tuple #[.bool true, hj.key, hj.val], _, ρ, .inl ?_, ?_, h1, hF1.trans h2⟩
    · exact List.mem_append_right _ (List.mem_map.2 ⟨(old ++ new)[j], List.getElem_mem hjl, rfl⟩)
    · simp only [Sem.run_bind, hset1, Result.andThen_ok, Sem.run_pure]
    · simp only [VRel]
      exact ⟨_, rfl, by simp only [VsRel.cons_iff, VsRel.nil, and_true]; exact ⟨by simp [VRel], he2.1, he2.2.1⟩⟩

theorem EntsRel.find {ρ : Ren} {stamp : Nat} : ∀ {es : List HEntry} {l : List MapEntry} {e : HEntry}, EntsRel ρ es l → es.find? (fun e => e.born == stamp) = some e → ∃ e', l.find? (fun e => e.born == stamp) = some e' ∧ EntRel ρ e e'
  | [], _, _, _, h => by simp at h
  | x :: xs, l, e, hr, h => by
    obtain ⟨x', xs', rfl, h1, h2⟩ := hr
    rw [List.find?_cons] at h ⊢
    rw [← h1.2.2]
    cases hq : (x.born == stamp) with
    | true =>
      rw [hq] at h
      simp only [Option.some.injEq] at h
      subst h
      exact ⟨x', rfl, h1⟩
    | false =>
      rw [hq] at h
      exact EntsRel.find h2 h

theorem ok_entry {it : Operand} {r m : Nat} {since clk stamp : Nat} {seen : List Nat} {es : List HEntry} {e : HEntry} (h : o.op = .entry it) (hx : fr.eval it = .ptr (some (r, 0))) (hb : σ.blks.get r = some (.iter (some m) since seen clk)) (hbm : σ.blks.get m = some (.map es clk))
    (hs : seen.getLast? = some stamp) (he : es.find? (fun e => e.born == stamp) = some e) : OpOK P o fr σ (.val (.tuple [e.key, e.val]) σ) := fun ρ w a hR hS => by
  have hv := hS.eval it
  rw [hx] at hv
  obtain ⟨L, hL, hv⟩ := hv.ptr_inv
  obtain ⟨h0, m', hit, Lm, hLm, hm⟩ := hR.blk r L _ hL hb
  subst hm
  rw [h0] at hv
  obtain ⟨l, hes, hrel⟩ := hR.blk m Lm _ hLm hbm
  have hget := getObj_run (P := P) hit (by simp)
  have hgetm := getObj_run (P := P) hes (by simp)
  have hback : (⟨seen⟩ : Array Nat).back? = some stamp := by rw [← hs]; simp [Array.back?_eq_getElem?, List.getLast?_eq_getElem?]
  obtain ⟨e', he', hee⟩ : ∃ e', l.find? (·.born == stamp) = some e' ∧ EntRel ρ e e' := by
    rw [← Array.find?_toList]
    exact hrel.find he
  refine ValOK.pure hR (v' := .tuple #[e'.key, e'.val]) ?_ ?_
  · simp only [execOp, h, hv, Instr.entry, Sem.run_bind, hget, Result.andThen_ok, hback, hgetm]
    simp [he']
  · simp only [VRel]
    exact ⟨_, rfl, by simp only [VsRel.cons_iff, VsRel.nil, and_true]; exact ⟨hee.1, hee.2.1⟩⟩

end
end Go.HI
