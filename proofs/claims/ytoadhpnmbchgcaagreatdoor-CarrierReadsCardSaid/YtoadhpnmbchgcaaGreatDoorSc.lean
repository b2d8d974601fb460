/- 'sane' as a whole. -/
import Derived.Test.YtoadhpnmbchgcaaGreatDoorSb0
import Derived.Test.YtoadhpnmbchgcaaGreatDoorSb1
import Derived.Test.YtoadhpnmbchgcaaGreatDoorSb2
import Derived.Test.YtoadhpnmbchgcaaGreatDoorSb3
import Derived.Test.YtoadhpnmbchgcaaGreatDoorSb4
import Derived.Test.YtoadhpnmbchgcaaGreatDoorSb5
import Derived.Test.YtoadhpnmbchgcaaGreatDoorSb6
import Derived.Test.YtoadhpnmbchgcaaGreatDoorSb7
namespace Go.HI
open Go Go.Proofs
noncomputable section
def lastK : KE Bool := fun e σ' => endB e (.returned (.bool true)) && (gcB 4 σ' && sameB 4 σ' σt)
theorem lastPc : (erX AB V0 B0 D0 sums3 3000).code none (restC 21 code13) (frameOf p21_f 271 [3]) (storeOf p21_b p21_m p21_n [3]) (leaveK AB Tryz.prog Tryz.f13.results.toList lastK) = true := by kernel_rfl
theorem body13 : Tryz.f13.body = some (seqs (part13 0 3) (seqs (part13 3 1) (seqs (part13 4 1) (seqs (part13 5 2) (seqs (part13 7 1) (seqs (part13 8 3) (seqs (part13 11 1) (seqs (part13 12 1) (seqs (part13 13 1) (seqs (part13 14 1) (seqs (part13 15 1) (seqs (part13 16 1) (seqs (part13 17 1) (seqs (part13 18 1) (seqs (part13 19 1) (seqs (part13 20 1) ((restC 21 code13)))))))))))))))))) := by kernel_rfl
theorem func13 : Tryz.prog.funcs[13]? = some Tryz.f13 := by kernel_rfl
theorem nt13 : Tryz.f13.ntmps = 271 := by kernel_rfl

theorem same_store {σ' : Store} (h : sameB 4 σ' σt = true) : ∀ ρ w, Rel ρ (σ'.gc 4) w → Rel ρ (σt.gc 4) w := fun _ _ hR => same_rel h hR

theorem sane_small : HCall Tryz.prog 13 [] σt (fun e σ' => e = .returned (.bool true) ∧ σ'.next = 4 ∧ (∀ f, σ'.fams.get f = none) ∧ σ'.globs = [3] ∧ ∀ b, σ'.blks.get b = σt.blks.get b) := by
  have h1 : HCall Tryz.prog 13 [] σt (fun e σ' => lastK e σ' = true) := by
    refine HCall.of_body func13 body13 (Nat.zero_le _) ?_
    rw [nt13]
    refine HWp.piece pc0 ( HWp.piece pc3 ( HWp.piece pc4 ( HWp.piece pc5 ( HWp.piece pc7 ( HWp.piece pc8 ( HWp.piece pc11 ( HWp.piece pc12 ( HWp.piece pc13 ( HWp.piece pc14 ( HWp.piece pc15 ( HWp.piece pc16 ( HWp.piece pc17 ( HWp.piece pc18 ( HWp.piece pc19 ( HWp.piece pc20 (?_))))))))))))))))
    refine ((erX_ok AB_good V0_eq B0_ok (D := D0) sums3_ok 3000 3000 (Nat.le_refl _)).1 none _ _ _ _ lastPc).mono fun x fr σ hx => ?_
    exact leaveK_ok AB_good hx
  have h2 : HCall Tryz.prog 13 [] σt (fun e σ' => e = .returned (.bool true) ∧ ∃ τ, σ' = Store.gc τ 4 ∧ sameB 4 τ σt = true) := h1.gc fun e σ' h => by
    simp only [lastK, Bool.and_eq_true] at h
    obtain ⟨e1, e2, e3⟩ := h
    have e1 := endB_eq e1
    exact .inr ⟨4, Nat.le_refl _, gcB_ok e2, by rw [e1]; rfl, e1, σ', rfl, e3⟩
  refine HCall.told h2 fun e σ' ⟨h1, τ, h2, h3⟩ => ⟨σt, ⟨h1, rfl, fun f => rfl, rfl, fun b => rfl⟩, ?_, ?_⟩
  · rw [h2]; rfl
  · intro ρ w hR
    rw [h2] at hR
    have := same_rel h3 hR
    refine this.congr' (fun b => ?_) rfl (fun f => ?_) rfl
    · rw [gc_get]
      split
      · rfl
      · rename_i hb
        show (T.set .e 3 ksBlk).get b = none
        rw [T.get_set]
        split
        · omega
        · rfl
    · rw [gc_fam]
      split <;> rfl
end
end Go.HI
