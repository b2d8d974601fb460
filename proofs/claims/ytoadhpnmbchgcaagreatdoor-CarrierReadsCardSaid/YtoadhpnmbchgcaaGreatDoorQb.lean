/- The statement 'CarrierReads': the row, and the tied card. -/
import Derived.Test.YtoadhpnmbchgcaaGreatDoorD3
import Derived.Test.YtoadhpnmbchgcaaGreatDoorCards
import Derived.Test.YtoadhpnmbchgcaaGreatDoorTie
import Derived.ProofKit
import Derived.OpenShut
import Derived.LaidMore
import Derived.Lay
import Derived.Lib.LaidTab
import Derived.SevenTiedAt
import Derived.Stop.Joined
namespace Go.Proofs.YtoadhpnmbchgcaaGreatDoor
open Go.HI Go.ChangeShapes Go.WideShapes Go.ChangeAt Go.RowKit

theorem own : ownKnob Tryz.prog.godebug = none := by kernel_rfl
theorem cells69 : Tryz.prog.cellsOf 69 = 6 := by kernel_rfl
theorem cells3 : Tryz.prog.cellsOf 3 = 1 := by kernel_rfl

/-! ### The table of SHA-256 -/
theorem round_tab : (Rows.laid_dialtone_digest_round : DataW Unit) = Lib.tabData .u32 roundKs := by kernel_rfl
theorem roundT : (Tryz.prog.globals[3]?).map (·.type) = some 424 := by kernel_rfl
theorem roundG : Tryz.prog.globalNamed "dialtone/digest.round" = some 3 := by kernel_rfl
theorem round424 : Tryz.prog.underlying 424 = some (.array 64 229) := by kernel_rfl
theorem round229 : Tryz.prog.underlying 229 = some (.int .u32) := by kernel_rfl
theorem roundC : Tryz.prog.cellsOf 229 = 1 := by kernel_rfl
theorem roundC2 : Tryz.prog.cellsOf 424 = 64 := by kernel_rfl

noncomputable def roundVs : Array Value := (roundKs.map fun z => Value.int .u32 z).toArray
theorem roundVs_size : roundVs.size = 64 := by kernel_rfl

/-- What the list says of the table. -/
theorem round_laid {W : World} (h : laidMetH Tryz.prog Rows.carrierReadsRow.laid W) : ∃ t, W.heap[3]? = some (.cells roundVs t (0, 0)) := by
  rw [MakeChecks.laidMetH_plain _ _ _ (by kernel_rfl)] at h
  obtain ⟨ps, ⟨g0, t0, cs0, f0, p0, q0, hg0, ht0, hv0, hd0, ⟨g1, t1, cs1, f1, p1, q1, hg1, ht1, hv1, hd1, hrest, e1⟩, e0⟩, hnd, hpl⟩ := h
  obtain rfl := Option.some.inj (roundG.symm.trans hg1)
  obtain rfl := Option.some.inj (roundT.symm.trans ht1)
  have hcs : cs1.toList = roundKs.map fun z => Value.int .u32 z := Lib.cells_of_tab round424 round229 roundC roundC2 (by rw [← round_tab]; exact hd1)
  have hcs1 : cs1 = roundVs := by
    unfold roundVs
    rw [← hcs]
  have hsz : cs1.size = 64 := by rw [hcs1, roundVs_size]
  have hmem : MemPlace.cell 3 0 ∈ ps := by
    rw [e0, e1]
    refine List.mem_append_right _ (List.mem_append_left _ (List.mem_append_left _ ?_))
    simp only [MemPlace.row, List.mem_map, List.mem_range]
    exact ⟨0, by omega, rfl⟩
  obtain ⟨⟨c, t, hc⟩, _⟩ := hpl 3 0 hmem
  refine ⟨t, ?_⟩
  have hv : W.var? Tryz.prog "dialtone/digest.round" = some cs1 := hv1
  unfold World.var? at hv
  rw [roundG] at hv
  simp only [Option.bind_some, hc, Option.some.injEq] at hv
  rw [hc, hv, hcs1]

/-! ### Six integers -/
section
variable {H : Type} {enc : TypeId × Value → H} {w : World} {base : Nat} {spare : Nat → Bool} {held : Bool}

theorem one_of {l : List Value} {a : Value} {i : Nat} (h : (l.drop i).take 1 = [a]) : l[i]? = some a := by
  have := congrArg (·[0]?) h
  simpa using this

set_option maxRecDepth 100000 in
theorem okWide_six {b0 : Nat} {v : Value} (h : Value.okWide Tryz.prog w .any b0 69 v) : ∃ cs, v = .agg cs ∧ cs.size = Tryz.prog.cellsOf 69 := by
  unfold Value.okWide at h
  rw [Tryz.underlying69] at h
  obtain ⟨cs, h1, h2, _⟩ := h
  exact ⟨cs, h1, h2⟩

set_option maxRecDepth 100000 in
theorem open_six {b0 : Nat} {v : Value} {d : DataW H} {ps : List MemPlace} (hval : Value.okWide Tryz.prog w .any b0 69 v) (hd : DataW.Trod enc Tryz.prog w base spare held 69 v d ps) :
    ∃ x0 x1 x2 x3 x4 x5 : Int, v = .agg #[.int .i64 x0, .int .i64 x1, .int .i64 x2, .int .i64 x3, .int .i64 x4, .int .i64 x5] ∧
      d = .agg [.lit (.int .i64 x0), .lit (.int .i64 x1), .lit (.int .i64 x2), .lit (.int .i64 x3), .lit (.int .i64 x4), .lit (.int .i64 x5)] ∧ ps = [] ∧
      (Lit.int .i64 x0).wf = true ∧ (Lit.int .i64 x1).wf = true ∧ (Lit.int .i64 x2).wf = true ∧ (Lit.int .i64 x3).wf = true ∧ (Lit.int .i64 x4).wf = true ∧ (Lit.int .i64 x5).wf = true := by
  obtain ⟨cs, rfl, hsz⟩ := okWide_six hval
  rw [cells69] at hsz
  obtain ⟨fuel, hf⟩ := hd
  obtain ⟨xs, m, _, ex, _, hl, hel⟩ := DataW.trod_array Tryz.underlying69 hf
  rw [cells3] at hel
  simp only [Nat.mul_one] at hel
  have get : ∀ i, i < 6 → ∃ n : Int, cs.toList[i]? = some (.int .i64 n) ∧ xs[i]? = some (.lit (.int .i64 n), []) ∧ (Lit.int .i64 n).wf = true := by
    intro i hi
    have hE := hel i hi
    rw [List.getElem?_eq_getElem (by omega)] at hE
    obtain ⟨n, e1, e2, hw⟩ := DataW.trod_int Tryz.underlying3 hE
    exact ⟨n, one_of e1, by rw [List.getElem?_eq_getElem (by omega), e2], hw⟩
  obtain ⟨x0, a0, b0, w0⟩ := get 0 (by omega)
  obtain ⟨x1, a1, b1, w1⟩ := get 1 (by omega)
  obtain ⟨x2, a2, b2, w2⟩ := get 2 (by omega)
  obtain ⟨x3, a3, b3, w3⟩ := get 3 (by omega)
  obtain ⟨x4, a4, b4, w4⟩ := get 4 (by omega)
  obtain ⟨x5, a5, b5, w5⟩ := get 5 (by omega)
  obtain ⟨l⟩ := cs
  have hcs : l = [.int .i64 x0, .int .i64 x1, .int .i64 x2, .int .i64 x3, .int .i64 x4, .int .i64 x5] := by
    match l, hsz, a0, a1, a2, a3, a4, a5 with
    | [y0, y1, y2, y3, y4, y5], _, a0, a1, a2, a3, a4, a5 =>
      simp at a0 a1 a2 a3 a4 a5
      rw [a0, a1, a2, a3, a4, a5]
  have hxs : xs = [(.lit (.int .i64 x0), []), (.lit (.int .i64 x1), []), (.lit (.int .i64 x2), []), (.lit (.int .i64 x3), []), (.lit (.int .i64 x4), []), (.lit (.int .i64 x5), [])] := by
    match xs, hl, b0, b1, b2, b3, b4, b5 with
    | [y0, y1, y2, y3, y4, y5], _, b0, b1, b2, b3, b4, b5 =>
      simp at b0 b1 b2 b3 b4 b5
      rw [b0, b1, b2, b3, b4, b5]
  simp only [Prod.mk.injEq] at ex
  refine ⟨x0, x1, x2, x3, x4, x5, by rw [hcs], by rw [ex.1, hxs]; rfl, by rw [ex.2, hxs]; rfl, w0, w1, w2, w3, w4, w5⟩

theorem shut_six {x0 x1 x2 x3 x4 x5 : Int} (w0 : (Lit.int .i64 x0).wf = true) (w1 : (Lit.int .i64 x1).wf = true) (w2 : (Lit.int .i64 x2).wf = true) (w3 : (Lit.int .i64 x3).wf = true) (w4 : (Lit.int .i64 x4).wf = true) (w5 : (Lit.int .i64 x5).wf = true) :
    DataW.Trod enc Tryz.prog w base spare held 69 (.agg #[.int .i64 x0, .int .i64 x1, .int .i64 x2, .int .i64 x3, .int .i64 x4, .int .i64 x5]) (.agg [.lit (.int .i64 x0), .lit (.int .i64 x1), .lit (.int .i64 x2), .lit (.int .i64 x3), .lit (.int .i64 x4), .lit (.int .i64 x5)]) [] := by
  refine ⟨2, ?_⟩
  simp [DataW.trod, Value.cells, Tryz.underlying69, Tryz.underlying3, cells69, cells3, w0, w1, w2, w3, w4, w5, List.range, List.range.loop]
end

theorem i64_of {n : Int} (h : (Lit.int .i64 n).wf = true) : i64 n := by
  have := bounds_i64 h
  exact ⟨this.1, by omega⟩

/-! ### The call, in the machine's memory -/
noncomputable def ρ0 : Ren := fun b => if b = 3 then some ⟨3, 0, 64⟩ else none

theorem words_rel {ρ : Ren} : ∀ (l : List Int), VsRel ρ (wordsL l) (l.map fun z => Value.int .u32 z)
  | [] => rfl
  | x :: l => ⟨_, _, rfl, rfl, words_rel l⟩
theorem words_eq' {ρ : Ren} : ∀ (l : List Int) (vs : List Value), VsRel ρ (wordsL l) vs → vs = l.map fun z => Value.int .u32 z
  | [], vs, h => h
  | x :: l, vs, h => by
    obtain ⟨v, vs', rfl, h1, h2⟩ := h
    have h1 : v = .int .u32 x := h1
    rw [h1, words_eq' l vs' h2]
    rfl

theorem ks_len : (wordsL roundKs).length = 64 := by kernel_rfl
theorem roundVs_list : roundVs.toList = roundKs.map fun z => Value.int .u32 z := rfl
theorem roundVs_len : (roundKs.map fun z => Value.int .u32 z).length = 64 := by kernel_rfl

theorem ρ0_some {b : Nat} {L : HI.Loc} (h : ρ0 b = some L) : b = 3 ∧ L = (⟨3, 0, 64⟩ : HI.Loc) := by
  unfold ρ0 at h
  split at h
  · rename_i e
    cases h
    exact ⟨e, rfl⟩
  · cases h

theorem σt_get {b : Nat} {x : HBlk} (h : σt.blks.get b = some x) : b = 3 ∧ x = ksBlk := by
  have h : (T.set .e 3 ksBlk).get b = some x := h
  rw [T.get_set] at h
  split at h
  · rename_i e
    cases h
    exact ⟨e, rfl⟩
  · simp at h

theorem rel0 {W : World} {t : TypeId} (h : W.heap[3]? = some (.cells roundVs t (0, 0))) : Rel ρ0 σt W where
  wf := by
    refine ⟨fun b hb => ?_, fun f _ => rfl, fun b c f p v hx => ?_, fun b b' c c' f p p' v hx => ?_⟩
    · cases hx : σt.blks.get b with
      | none => rfl
      | some x =>
        have := (σt_get hx).1
        have hb : 4 ≤ b := hb
        omega
    · have := (σt_get hx).2
      cases this
    · have := (σt_get hx).2
      cases this
  dom := fun b L hL => by
    obtain ⟨rfl, rfl⟩ := ρ0_some hL
    exact ⟨by show 3 < 4; decide, heap_lt h⟩
  blk := fun b L x hL hx => by
    obtain ⟨rfl, rfl⟩ := ρ0_some hL
    obtain ⟨_, rfl⟩ := σt_get hx
    intro _
    refine ⟨roundVs, ⟨t, (0, 0), h, roundVs_size, fun i _ hi => by omega⟩, ?_, ?_⟩
    · show 0 + (wordsL roundKs).length ≤ 64
      rw [ks_len]
      exact Nat.le_refl _
    · show VsRel ρ0 (wordsL roundKs) ((roundVs.toList.drop 0).take (wordsL roundKs).length)
      rw [ks_len, List.drop_zero, roundVs_list, List.take_of_length_le (by rw [roundVs_len]; exact Nat.le_refl _)]
      exact words_rel roundKs
  inj := fun b b' L L' x x' hL hL' _ _ hne => by
    have h1 := (ρ0_some hL).1
    have h2 := (ρ0_some hL').1
    omega
  glob := fun g hg => by
    have : g = 3 := by
      have hg : [3].contains g = true := hg
      simpa using hg
    subst this
    exact ⟨64, rfl⟩

theorem kept_of_same {W W' : World} {may : MemPlace → Prop} (h1 : W'.os = W.os) (h2 : W'.output = W.output) (h : ∀ i, i < W.heap.size → W'.heap[i]? = W.heap[i]?) : W.keptBut W' may := by
  refine ⟨h1, h2, fun i hi => ?_⟩
  rw [h i hi]
  cases W.heap[i]? with
  | none => trivial
  | some o =>
    cases o with
    | cells c t fr => exact ⟨rfl, rfl, rfl, fun _ _ => rfl⟩
    | map es clk => exact .inr ⟨rfl, rfl⟩
    | _ => rfl

theorem call_reads {W : World} {t : TypeId} (h : W.heap[3]? = some (.cells roundVs t (0, 0))) {source x0 x1 x2 x3 x4 x5 at_ c other : Int} (hs : i64 source) (h0 : i64 x0) (h1 : i64 x1) (h2 : i64 x2) (h3 : i64 x3) (h4 : i64 x4) (h5 : i64 x5) (ha : i64 at_) (ho : i64 other) :
    Calls Tryz.prog 6 #[.int .i64 source, .agg #[.int .i64 x0, .int .i64 x1, .int .i64 x2, .int .i64 x3, .int .i64 x4, .int .i64 x5], .int .i64 at_, .int .u8 c, .int .i64 other] W
      fun e W' => e = .returned (.bool true) ∧ ∀ may, W.keptBut W' may := by
  have hc := ends_6 (c := c) hs h0 h1 h2 h3 h4 h5 ha ho 0 ρ0 W #[.int .i64 source, .agg #[.int .i64 x0, .int .i64 x1, .int .i64 x2, .int .i64 x3, .int .i64 x4, .int .i64 x5], .int .i64 at_, .int .u8 c, .int .i64 other] (rel0 h)
    ⟨_, _, rfl, rfl, _, _, rfl, ⟨_, rfl, _, _, rfl, rfl, _, _, rfl, rfl, _, _, rfl, rfl, _, _, rfl, rfl, _, _, rfl, rfl, _, _, rfl, rfl, rfl⟩, _, _, rfl, rfl, _, _, rfl, rfl, _, _, rfl, rfl, rfl⟩
  refine (callsIn_wide.1 hc).mono fun e W' hp => ?_
  obtain ⟨x, σ', ρ', hx, ⟨hR, hK⟩, hrel, hfr⟩ := hp
  have hR : x = .returned (.bool true) := hR
  subst hR
  obtain ⟨v, rfl, hv⟩ := hx
  have hv : v = .bool true := hv
  subst hv
  refine ⟨rfl, fun may => kept_of_same hfr.os hfr.output fun i hi => ?_⟩
  by_cases e3 : i = 3
  · subst e3
    obtain ⟨cs', hcs, hsz⟩ := hfr.shape 3 roundVs t (0, 0) h
    have hL : ρ' 3 = some ⟨3, 0, 64⟩ := hfr.sub 3 _ rfl
    obtain ⟨cs2, ⟨ty2, fz2, hh, _, _⟩, _, hvs⟩ := hrel.blk 3 _ _ hL hK rfl
    have hh : W'.heap[3]? = some (.cells cs2 ty2 fz2) := hh
    rw [hcs] at hh
    cases hh
    have hvs : VsRel ρ' (wordsL roundKs) ((cs'.toList.drop 0).take (wordsL roundKs).length) := hvs
    rw [ks_len, List.drop_zero, List.take_of_length_le (by rw [Array.length_toList, hsz, roundVs_size]; exact Nat.le_refl _)] at hvs
    have := words_eq' roundKs _ hvs
    have : cs' = roundVs := by
      apply Array.toList_inj.1
      rw [this, roundVs_list]
    rw [hcs, h, this]
  · refine hfr.keep i hi fun b L hL => ?_
    obtain ⟨_, rfl⟩ := ρ0_some hL
    exact fun e => e3 e.symm

end Go.Proofs.YtoadhpnmbchgcaaGreatDoor
