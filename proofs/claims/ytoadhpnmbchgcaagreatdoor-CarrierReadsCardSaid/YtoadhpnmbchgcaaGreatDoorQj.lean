/- CarrierReads: for every source, notice, place, byte and other source that integers determine, the law answers true (the row, and its tied card). Conditions: the listed package-level variables hold what the program's text lays. -/
import Derived.Test.YtoadhpnmbchgcaaGreatDoorQc
import Derived.Test.YtoadhpnmbchgcaaGreatDoorQd
import Derived.Test.YtoadhpnmbchgcaaGreatDoorQe
import Derived.Test.YtoadhpnmbchgcaaGreatDoorQi
/- CarrierReads: the row's facts together; the tied card. -/
namespace Go.Proofs.YtoadhpnmbchgcaaGreatDoor
open Go Go.ChangeShapes Go.WideShapes Go.ChangeAt Go.RowKit

theorem facts_of {P : Program} {f : FuncId} {fn : Func} {s : ChangeSpec} {c : OpenClaim}
    (h3 : c.wf (OpenSpec.ofChange s) = true) (h1 : laidOutB P = true) (h2 : mapsRowed P = true) (h4 : fn.params.all (P.readableRec ·) = true) (h5 : namedTie P c.named s.vars = true)
    (h6 : (c.stops == []) = true) (h8 : (P.stops == []) = true) (h7 : (c.knobs == []) = true) (h9 : (P.stopKnobs == []) = true)
    (h10 : (c.inPlace == P.inPlace f) = true) (h11 : (c.unfollowed == P.unfollowed f) = true) (h12 : (c.recurses == P.recurses f) = true) (h13 : (c.named == P.varsNamed f) = true)
    (h14 : (c.maps == (fn.params.toList ++ s.plain.varTypes P).any (P.mapsRec ·)) = true) (h15 : (c.ifaces == (fn.params.toList ++ s.plain.varTypes P).any (P.ifacesRec ·)) = true) (h16 : (c.mapsOut == P.mapsAmong fn.resultTypes.toList) = true)
    (h17 : (c.loops == (fn.params.toList ++ s.plain.varTypes P).any (P.loopsFrom ·)) = true) (h18 : (c.wideKeys == (fn.params.toList ++ s.plain.varTypes P ++ fn.resultTypes.toList).any (P.wideKeysFrom ·)) = true)
    (h19 : s.vars.all (P.varReadable ·) = true) (h20 : fn.resultTypes.all (fun t => P.readableRec t && decide (t < P.types.size)) = true) (h21 : (c.ifacesOut == fn.resultTypes.toList.any (P.ifacesRec ·)) = true) (h22 : (c.loopsOut == fn.resultTypes.toList.any (P.loopsFrom ·)) = true)
    (h23 : (c.plainKeys == P.plainKeys) = true) (h24 : c.shortTexts.isNone = true) (h30 : P.stopsHeard = true) (h31 : P.mayEnter = true) (h32 : (c.lifted == P.liftsFinal) = true) (h33 : (P.make == some c.make) = true)
    (h34 : (c.kinds == (if c.domain.isEmpty then [] else fn.params.toList.map fun t => match P.underlying t with | some (.int k) => some k | _ => none)) = true) (h35 : (c.pinned == c.pinnedBy) = true)
    (h36 : (c.veiled == (fn.params.toList ++ s.plain.varTypes P ++ fn.resultTypes.toList).any (P.veiledRec ·)) = true) (h37 : c.veiledFits P fn.params.toList (fn.params.toList ++ s.plain.varTypes P ++ fn.resultTypes.toList) = true) :
    joinedFacts P f fn s c = true := by
  unfold joinedFacts
  rw [h3, h1, h2, h4, h5, h6, h8, h7, h9, h10, h11, h12, h13, h14, h15, h16, h17, h18, h19, h20, h21, h22, h23, h24, h30, h31, h32, h33, h35, h36, h37]
  simp only [Bool.true_and, Bool.and_true]
  exact h34

set_option maxRecDepth 100000 in
theorem facts_reads : joinedFacts Tryz.pinned.checked.prog 6 Tryz.f6 Rows.carrierReadsSpec Rows.carrierReadsRow = true :=
  facts_of r3 k1 k2 r4 r5 rfl k8 rfl k9 r10 r11 r12 r13 r14 r15 r16 r17 r18 r19 r20 r21 r22 r23 rfl k30 k31 r32 r33 r34 r35 r36 r37

theorem carrierReads_said : Rows.CarrierReadsSaid :=
  OpenClaim.holds_of_wide 6 Tryz.f6 rfl rfl rfl rfl rfl rfl rfl ⟨rfl, rfl, rfl, rfl, rfl⟩ rfl rfl rfl rfl rfl named_reads Tryz.func6 facts_reads
    inst_reads wrap_reads
    (fun os started H enc _ => carrierReads_lifted os started H enc)

theorem carrierReads_plain (f : FuncId) (fn : Func) (hf : Tryz.pinned.checked.prog.funcNamed "dialtone/dialtonelaw43.CarrierReads" = some f) (hfn : Tryz.pinned.checked.prog.funcs[f]? = some fn) :
    true = Tryz.pinned.checked.prog.looks [] ∧ ∀ (j : Nat) t, fn.params[j]? = some t → Tryz.pinned.checked.prog.wantsStandIn t = false := by
  obtain rfl : f = 6 := Option.some.inj (hf.symm.trans cn)
  obtain rfl : fn = Tryz.f6 := Option.some.inj (hfn.symm.trans Tryz.func6)
  refine ⟨cl, fun j t ht => ?_⟩
  rw [Tryz.params6] at ht
  have hm : t ∈ [3, 69, 3, 5, 3] := by simpa using Array.mem_of_getElem? ht
  exact (show Tryz.prog.wantsStandIn t = false by simpa using List.all_eq_true.1 ci t hm)

/-- The tied card. -/
theorem carrierReads_card : Rows.CarrierReadsCardSaid :=
  Claim7.holds_tied_plain_at .later [] _ _ _ _ carrierReads_said (fun _ h => by cases h) cw (fun _ h => by cases h) carrierReads_row_tie rfl ⟨rfl, rfl⟩ cm rfl carrierReads_plain cg
#print axioms carrierReads_card

end Go.Proofs.YtoadhpnmbchgcaaGreatDoor
