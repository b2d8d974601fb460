/- wire.PutInt: an integer's bytes. -/
import Derived.Test.YtoadhpnmbchgcaaGreatDoorD1
namespace Go.HI
open Go Go.Proofs
noncomputable section

def zigQ (n : Int) : Int := xorZ .u64 (shlQ .u64 (wrapQ .u64 n) 1) (wrapQ .u64 (shrQ n 63))
def byteQ (x : Int) : UInt8 := UInt8.ofNat (Int.toNat x)
def lastB (z : Int) : UInt8 := byteQ (wrapQ .u8 (andZ .u64 z 127))
def moreB (z : Int) : UInt8 := byteQ (orZ .u8 (wrapQ .u8 (andZ .u64 z 127)) 128)

def treeP (K : HEnd → Prop) : Nat → Int → List UInt8 → Prop
  | 0, z, _ => br (ltQ z 128) False False
  | k + 1, z, acc => br (ltQ z 128) (treeP K k (shrQ z 7) (acc ++ [moreB z])) (K (.returned (.tuple [.str (acc ++ [lastB z]), .int .i64 0])))

def goal135 (n : Int) (K : HEnd → Prop) : Prop := (erS VS V0 Tryz.prog B0 D0 sums1S 30).fn 135 [.int .i64 n] emptyS (fun e _ => K e)
theorem t135 (n : Int) (K : HEnd → Prop) : goal135 n K = br (ltQ n (-4611686018427387903)) (br (ltQ 4611686018427387903 n) (treeP K 10 (zigQ n) []) (K (.returned (.tuple [.str [], .int .i64 10])))) (K (.returned (.tuple [.str [], .int .i64 10]))) := by kernel_rfl

def lebI : Nat → Int → List UInt8
  | 0, _ => []
  | k + 1, z => Bool.rec (moreB z :: lebI k (shrQ z 7)) [lastB z] (ltQ z 128)

theorem treeP_ok : ∀ (k : Nat) (z : Int) (acc : List UInt8), 0 ≤ z → z < 128 ^ k → (k = 0 → 1 ≤ z) → treeP (lf (· = .returned (.tuple [.str (acc ++ lebI k z), .int .i64 0]))) k z acc
  | 0, z, acc, h0, h1, h2 => by
    have : z < 1 := by simpa using h1
    have := h2 rfl
    omega
  | k + 1, z, acc, h0, h1, _ => by
    rw [treeP, br_iff]
    refine ⟨fun h => ?_, fun h => ?_⟩
    · refine ⟨rfl, ?_⟩
      rw [lebI, h]
    · have hz : ¬ z < 128 := by rw [ltQ_eq] at h; simpa using h
      have e1 : shrQ z 7 = z / 128 := by
        rw [shrQ_eq, Int.fdiv_eq_ediv_of_nonneg _ (by decide)]
        rfl
      have hk : (128 : Int) ^ (k + 1) = 128 ^ k * 128 := Int.pow_succ ..
      have := treeP_ok k (shrQ z 7) (acc ++ [moreB z]) (by rw [e1]; omega) (by
        rw [e1]
        rw [hk] at h1
        exact Int.ediv_lt_of_lt_mul (by decide) h1) (fun _ => by rw [e1]; omega)
      have hl : lebI (k + 1) z = moreB z :: lebI k (shrQ z 7) := by rw [lebI, h]
      rw [hl]
      simpa using this

/-! ### Numbers -/
theorem wrapU64 (n : Int) : wrapQ .u64 n = n % 18446744073709551616 := by
  rw [wrapQ_eq]
  unfold IntKind.wrap
  simp only [IntKind.bits, IntKind.signed, Bool.false_and, Bool.false_eq_true, if_false]
  rfl
theorem wrapU8 (n : Int) : wrapQ .u8 n = n % 256 := by
  rw [wrapQ_eq]
  unfold IntKind.wrap
  simp only [IntKind.bits, IntKind.signed, Bool.false_and, Bool.false_eq_true, if_false]
  rfl

theorem zigQ_nonneg {n : Int} (h0 : 0 ≤ n) (h1 : n < 9223372036854775808) : zigQ n = 2 * n := by
  obtain ⟨m, rfl⟩ : ∃ m : Nat, n = m := ⟨n.toNat, by omega⟩
  have hm : m < 9223372036854775808 := by omega
  have e1 : shrQ (m : Int) 63 = 0 := by
    show ((m / 2 ^ 63 : Nat) : Int) = 0
    rw [Nat.div_eq_of_lt (by omega)]
    rfl
  have e2 : shlQ .u64 (wrapQ .u64 (m : Int)) 1 = 2 * (m : Int) := by
    rw [shlQ_eq, wrapU64, ← wrapQ_eq, wrapU64]
    omega
  unfold zigQ xorZ
  rw [e1, e2]
  have e3 : wrapQ .u64 0 = 0 := by decide
  rw [e3]
  have e4 : (BitVec.ofInt IntKind.u64.bits (2 * (m : Int)) ^^^ BitVec.ofInt IntKind.u64.bits 0).toNat = 2 * m := by
    have : (2 * (m : Int)) = ((2 * m : Nat) : Int) := by omega
    rw [this]
    simp only [BitVec.ofInt_natCast]
    have e0 : BitVec.ofInt IntKind.u64.bits 0 = 0#64 := rfl
    rw [e0]
    show (BitVec.ofNat 64 (2 * m) ^^^ 0#64).toNat = 2 * m
    rw [BitVec.xor_zero, BitVec.toNat_ofNat]
    omega
  rw [e4, ← wrapQ_eq, wrapU64]
  omega

theorem zigQ_neg {n : Int} (h0 : n < 0) (h1 : -9223372036854775808 ≤ n) : zigQ n = -2 * n - 1 := by
  obtain ⟨m, rfl⟩ : ∃ m : Nat, n = -((m : Int) + 1) := ⟨(-n - 1).toNat, by omega⟩
  have hm : m < 9223372036854775808 := by omega
  have e1 : shrQ (-((m : Int) + 1)) 63 = -1 := by
    rw [shrQ_eq, Int.fdiv_eq_ediv_of_nonneg _ (by decide)]
    have : (2 : Int) ^ 63 = 9223372036854775808 := by decide
    rw [this]
    omega
  have e2 : shlQ .u64 (wrapQ .u64 (-((m : Int) + 1))) 1 = 18446744073709551616 - 2 * ((m : Int) + 1) := by
    rw [shlQ_eq, wrapU64, ← wrapQ_eq, wrapU64]
    omega
  unfold zigQ xorZ
  rw [e1, e2]
  have e3 : wrapQ .u64 (-1) = 18446744073709551615 := by decide
  rw [e3]
  have e4 : (BitVec.ofInt IntKind.u64.bits (18446744073709551616 - 2 * ((m : Int) + 1)) ^^^ BitVec.ofInt IntKind.u64.bits 18446744073709551615).toNat = 2 * m + 1 := by
    have h2 : (18446744073709551616 - 2 * ((m : Int) + 1)) = ((18446744073709551616 - 2 * (m + 1) : Nat) : Int) := by omega
    rw [h2]
    have h3 : (18446744073709551615 : Int) = ((18446744073709551615 : Nat) : Int) := by rfl
    rw [h3]
    simp only [BitVec.ofInt_natCast]
    show (BitVec.ofNat 64 (18446744073709551616 - 2 * (m + 1)) ^^^ BitVec.ofNat 64 18446744073709551615).toNat = 2 * m + 1
    have e5 : BitVec.ofNat 64 18446744073709551615 = BitVec.allOnes 64 := by decide
    rw [e5, BitVec.xor_allOnes, BitVec.toNat_not, BitVec.toNat_ofNat]
    omega
  rw [e4, ← wrapQ_eq, wrapU64]
  omega

def zig (n : Int) : Int := if 0 ≤ n then 2 * n else -2 * n - 1
theorem zigQ_eq {n : Int} (h : i64 n) : zigQ n = zig n := by
  unfold zig
  split
  · exact zigQ_nonneg (by assumption) h.2
  · exact zigQ_neg (by omega) h.1

def putB (n : Int) : List UInt8 := lebI 10 (zig n)

def maxI (n : Int) : Prop := -4611686018427387903 ≤ n ∧ n ≤ 4611686018427387903

theorem comes_135 {n : Int} (h : maxI n) : Comes 135 [.int .i64 n] (.tuple [.str (putB n), .int .i64 0]) := hcall_of_tree VS_ok sums1S_ok rfl (by
  show goal135 n (lf _)
  rw [t135, br_iff, br_iff, ltQ_eq, ltQ_eq]
  obtain ⟨h1, h2⟩ := h
  refine ⟨fun hb => ?_, fun _ => ⟨fun hb => ?_, fun _ => ?_⟩⟩
  · have : n < -4611686018427387903 := by simpa using hb
    omega
  · have : 4611686018427387903 < n := by simpa using hb
    omega
  · have hz : 0 ≤ zig n ∧ zig n < 128 ^ 10 := by
      unfold zig
      have : (128 : Int) ^ 10 = 1180591620717411303424 := by decide
      rw [this]
      split <;> omega
    rw [zigQ_eq ⟨by omega, by omega⟩]
    exact treeP_ok 10 (zig n) [] hz.1 hz.2 (fun h => by cases h))

def sumPut : SumF := fun args σ => match args with
  | [.int .i64 n] => some (.guard (maxI n) (.one (.returned (.tuple [.str (putB n), .int .i64 0])) σ))
  | _ => none
theorem sumPut_ok : SumFOK Tryz.prog 135 sumPut := by
  intro args σ s hs R hR
  unfold sumPut at hs
  split at hs
  · cases hs
    obtain ⟨h1, h2⟩ : _ ∧ _ := hR
    exact (comes_135 h1).sum h2
  · cases hs

end
end Go.HI

/- carrier.Text: the text of a notice. -/
namespace Go.HI
open Go Go.Proofs
noncomputable section

def sums3S : SumsS := sumsOf [(66, sumWithinX), (57, sumFormed), (135, sumPut)]

theorem sums3S_ok : SumsSOK Tryz.prog sums3S := sumsOf_ok fun p hp => by
  simp only [List.mem_cons, List.not_mem_nil, or_false] at hp
  rcases hp with rfl | rfl | rfl
  · exact sumWithin_ok within_66
  · exact sumFormed_ok
  · exact sumPut_ok

def goal17 (so ki nu lk la lh cn cf ct ch ca : Int) (cb : Bool) (ek ea er : Int) (K : HEnd → Prop) : Prop := (erS VS V0 Tryz.prog B0 D0 sums3S 60).fn 17 [noticeHV so ki nu lk la lh cn cf ct ch ca cb ek ea er] emptyS (fun e _ => K e)
theorem t17 (so : Int) (ki : Int) (nu : Int) (lk : Int) (la : Int) (lh : Int) (cn : Int) (cf : Int) (ct : Int) (ch : Int) (ca : Int) (cb : Bool) (ek : Int) (ea : Int) (er : Int) (K : Go.HI.HEnd → Prop) : goal17 so ki nu lk la lh cn cf ct ch ca cb ek ea er K = (br (formedQ so ki nu lk la lh cn cf ct ch ca cb ek ea er)
 (K (.returned (HV.tuple [(HV.str []), (HV.int .i64 430)])))
 (br (eqQ ki 1)
 (br (eqQ ki 2)
 ((maxI ki) ∧ ((fit2 [] (putB ki)) ∧ ((maxI nu) ∧ ((fit2 ([] ++ (putB ki)) (putB nu)) ∧ ((maxI cf) ∧ ((fit2 (([] ++ (putB ki)) ++ (putB nu)) (putB cf)) ∧ ((maxI ct) ∧ ((fit2 ((([] ++ (putB ki)) ++ (putB nu)) ++ (putB cf)) (putB ct)) ∧ ((maxI ca) ∧ ((fit2 (((([] ++ (putB ki)) ++ (putB nu)) ++ (putB cf)) ++ (putB ct)) (putB ca)) ∧ ((maxI ek) ∧ ((fit2 ((((([] ++ (putB ki)) ++ (putB nu)) ++ (putB cf)) ++ (putB ct)) ++ (putB ca)) (putB ek)) ∧ ((maxI ea) ∧ ((fit2 (((((([] ++ (putB ki)) ++ (putB nu)) ++ (putB cf)) ++ (putB ct)) ++ (putB ca)) ++ (putB ek)) (putB ea)) ∧ ((maxI er) ∧ ((fit2 ((((((([] ++ (putB ki)) ++ (putB nu)) ++ (putB cf)) ++ (putB ct)) ++ (putB ca)) ++ (putB ek)) ++ (putB ea)) (putB er)) ∧ (K (.returned (HV.tuple [(HV.str (((((((([] ++ (putB ki)) ++ (putB nu)) ++ (putB cf)) ++ (putB ct)) ++ (putB ca)) ++ (putB ek)) ++ (putB ea)) ++ (putB er))), (HV.int .i64 0)])))))))))))))))))))
 (br cb
 ((maxI ki) ∧ ((fit2 [] (putB ki)) ∧ ((maxI nu) ∧ ((fit2 ([] ++ (putB ki)) (putB nu)) ∧ ((maxI cf) ∧ ((fit2 (([] ++ (putB ki)) ++ (putB nu)) (putB cf)) ∧ ((maxI ct) ∧ ((fit2 ((([] ++ (putB ki)) ++ (putB nu)) ++ (putB cf)) (putB ct)) ∧ ((maxI ch) ∧ ((fit2 (((([] ++ (putB ki)) ++ (putB nu)) ++ (putB cf)) ++ (putB ct)) (putB ch)) ∧ ((maxI ca) ∧ ((fit2 ((((([] ++ (putB ki)) ++ (putB nu)) ++ (putB cf)) ++ (putB ct)) ++ (putB ch)) (putB ca)) ∧ ((maxI 0) ∧ ((fit2 (((((([] ++ (putB ki)) ++ (putB nu)) ++ (putB cf)) ++ (putB ct)) ++ (putB ch)) ++ (putB ca)) (putB 0)) ∧ (K (.returned (HV.tuple [(HV.str ((((((([] ++ (putB ki)) ++ (putB nu)) ++ (putB cf)) ++ (putB ct)) ++ (putB ch)) ++ (putB ca)) ++ (putB 0))), (HV.int .i64 0)])))))))))))))))))
 ((maxI ki) ∧ ((fit2 [] (putB ki)) ∧ ((maxI nu) ∧ ((fit2 ([] ++ (putB ki)) (putB nu)) ∧ ((maxI cf) ∧ ((fit2 (([] ++ (putB ki)) ++ (putB nu)) (putB cf)) ∧ ((maxI ct) ∧ ((fit2 ((([] ++ (putB ki)) ++ (putB nu)) ++ (putB cf)) (putB ct)) ∧ ((maxI ch) ∧ ((fit2 (((([] ++ (putB ki)) ++ (putB nu)) ++ (putB cf)) ++ (putB ct)) (putB ch)) ∧ ((maxI ca) ∧ ((fit2 ((((([] ++ (putB ki)) ++ (putB nu)) ++ (putB cf)) ++ (putB ct)) ++ (putB ch)) (putB ca)) ∧ ((maxI 1) ∧ ((fit2 (((((([] ++ (putB ki)) ++ (putB nu)) ++ (putB cf)) ++ (putB ct)) ++ (putB ch)) ++ (putB ca)) (putB 1)) ∧ (K (.returned (HV.tuple [(HV.str ((((((([] ++ (putB ki)) ++ (putB nu)) ++ (putB cf)) ++ (putB ct)) ++ (putB ch)) ++ (putB ca)) ++ (putB 1))), (HV.int .i64 0)])))))))))))))))))))
 ((maxI ki) ∧ ((fit2 [] (putB ki)) ∧ ((maxI nu) ∧ ((fit2 ([] ++ (putB ki)) (putB nu)) ∧ ((maxI lk) ∧ ((fit2 (([] ++ (putB ki)) ++ (putB nu)) (putB lk)) ∧ ((maxI la) ∧ ((fit2 ((([] ++ (putB ki)) ++ (putB nu)) ++ (putB lk)) (putB la)) ∧ ((maxI lh) ∧ ((fit2 (((([] ++ (putB ki)) ++ (putB nu)) ++ (putB lk)) ++ (putB la)) (putB lh)) ∧ (K (.returned (HV.tuple [(HV.str ((((([] ++ (putB ki)) ++ (putB nu)) ++ (putB lk)) ++ (putB la)) ++ (putB lh))), (HV.int .i64 0)]))))))))))))))) := by kernel_rfl

end
end Go.HI

/- wire.Int: an integer out of bytes. -/
namespace Go.HI
open Go Go.Proofs
noncomputable section

def idxQ (a : Int) (i : Nat) : Int := wrapQ .i64 (addQ a (.ofNat i))
def accQ (z b : Int) (i : Nat) : Int := orZ .u64 z (shlQ .u64 (wrapQ .u64 (andZ .u8 b 127)) (min (7 * i) 64))
def valQ (z : Int) : Int := xorZ .i64 (wrapQ .i64 (shrQ z 1)) (IntKind.wrap .i64 (0 - wrapQ .i64 (andZ .u64 z 1)))
def nextQ (a : Int) (i : Nat) : Int := wrapQ .i64 (addQ (idxQ a i) 1)
def intErr (e : Int) : HEnd := .returned (.tuple [.int .i64 0, .int .i64 0, .int .i64 e])
def intEnd (z a : Int) (i : Nat) : HEnd := .returned (.tuple [.int .i64 (valQ z), .int .i64 (nextQ a i), .int .i64 0])

def treeI (s : List UInt8) (a : Int) (K : HEnd → Prop) : Nat → Nat → Int → Prop
  | 0, _, _ => K (intErr 10)
  | k + 1, i, z => br (not (ltQ (idxQ a i) (s.length : Int)))
      ((0 ≤ idxQ a i ∧ idxQ a i < (s.length : Int)) ∧ br (not (ltQ (byteAt s (idxQ a i)) 128))
        (br (eqQ (byteAt s (idxQ a i)) 0)
          (br (ltQ (valQ (accQ z (byteAt s (idxQ a i)) i)) (-4611686018427387903)) (K (intEnd (accQ z (byteAt s (idxQ a i)) i) a i)) (K (intErr 10)))
          (Bool.rec (K (intErr 10)) (br (ltQ (valQ (accQ z (byteAt s (idxQ a i)) i)) (-4611686018427387903)) (K (intEnd (accQ z (byteAt s (idxQ a i)) i) a i)) (K (intErr 10))) (Nat.beq i 0)))
        (treeI s a K k (i + 1) (accQ z (byteAt s (idxQ a i)) i)))
      (K (intErr 10))

def goal139 (s : List UInt8) (a : Int) (K : HEnd → Prop) : Prop := (erS VS V0 Tryz.prog B0 D0 sums1S 60).fn 139 [.str s, .int .i64 a] emptyS (fun e _ => K e)
theorem t139 (s : List UInt8) (a : Int) (K : HEnd → Prop) : goal139 s a K = br (ltQ a 0) (br (ltQ (s.length : Int) a) (treeI s a K 9 0 0) (K (intErr 2))) (K (intErr 2)) := by kernel_rfl

/-! ### What it comes to -/
/-- The bytes from a place on: the number, and how many bytes it takes. -/
def decF : Nat → Nat → Nat → List UInt8 → Option (Nat × Nat)
  | 0, _, _, _ => none
  | _ + 1, _, _, [] => none
  | k + 1, i, z, b :: l => if 128 ≤ b.toNat then decF k (i + 1) (z + (b.toNat - 128) * 128 ^ i) l
      else if b.toNat = 0 ∧ i ≠ 0 then none else some (z + b.toNat * 128 ^ i, i + 1)

def unzig (z : Nat) : Int := if z % 2 = 0 then ((z / 2 : Nat) : Int) else -((z / 2 : Nat) : Int) - 1

/-- The number at a place, and the place behind it. -/
def intAtP (s : List UInt8) (a : Nat) : Option (Int × Nat) :=
  match decF 9 0 0 (s.drop a) with
  | some (z, n) => if -4611686018427387903 ≤ unzig z then some (unzig z, a + n) else none
  | none => none

theorem wrapI64 {n : Int} (h : i64 n) : wrapQ .i64 n = n := by rw [wrapQ_eq]; exact wrapI h

theorem and127 {b : Nat} (h : b < 256) : wrapQ .u64 (andZ .u8 (b : Int) 127) = ((b % 128 : Nat) : Int) := by
  have e1 : (BitVec.ofInt IntKind.u8.bits (b : Int) &&& BitVec.ofInt IntKind.u8.bits 127).toNat = b % 128 := by
    have : (127 : Int) = ((127 : Nat) : Int) := rfl
    rw [this]
    simp only [BitVec.ofInt_natCast]
    show (BitVec.ofNat 8 b &&& BitVec.ofNat 8 127).toNat = b % 128
    rw [BitVec.toNat_and, BitVec.toNat_ofNat, BitVec.toNat_ofNat]
    have h1 : b % 2 ^ 8 = b := Nat.mod_eq_of_lt h
    have h2 : 127 % 2 ^ 8 = 2 ^ 7 - 1 := by decide
    rw [h1, h2, Nat.and_two_pow_sub_one_eq_mod]
  unfold andZ
  rw [e1, ← wrapQ_eq, wrapU8, wrapU64]
  omega

theorem or_add {z c i : Nat} (hz : z < 128 ^ i) (hc : c < 128) (hi : i ≤ 8) : orZ .u64 (z : Int) (shlQ .u64 ((c : Nat) : Int) (min (7 * i) 64)) = ((z + c * 128 ^ i : Nat) : Int) := by
  have hm : min (7 * i) 64 = 7 * i := by omega
  have hp : (128 : Nat) ^ i = 2 ^ (7 * i) := by rw [show (128 : Nat) = 2 ^ 7 from rfl, ← Nat.pow_mul]
  have hle : 2 ^ (7 * i) ≤ 2 ^ 56 := Nat.pow_le_pow_right (by decide) (by omega)
  have h56 : (2 : Nat) ^ 56 = 72057594037927936 := by decide
  rw [h56] at hle
  rw [hm, hp]
  rw [hp] at hz
  have hc2 : c * 2 ^ (7 * i) ≤ 127 * 72057594037927936 := Nat.mul_le_mul (by omega) hle
  have e1 : shlQ .u64 ((c : Nat) : Int) (7 * i) = ((c * 2 ^ (7 * i) : Nat) : Int) := by
    show wrapN .u64 (Nat.mul c (Nat.pow 2 (7 * i))) = _
    show Int.ofNat (Nat.mod (c * 2 ^ (7 * i)) 18446744073709551616) = _
    have : (c * 2 ^ (7 * i)) % 18446744073709551616 = c * 2 ^ (7 * i) := Nat.mod_eq_of_lt (by omega)
    show Int.ofNat ((c * 2 ^ (7 * i)) % 18446744073709551616) = _
    rw [this]
    rfl
  rw [e1]
  unfold orZ
  have e2 : (BitVec.ofInt IntKind.u64.bits ((z : Nat) : Int) ||| BitVec.ofInt IntKind.u64.bits ((c * 2 ^ (7 * i) : Nat) : Int)).toNat = z + c * 2 ^ (7 * i) := by
    simp only [BitVec.ofInt_natCast]
    show (BitVec.ofNat 64 z ||| BitVec.ofNat 64 (c * 2 ^ (7 * i))).toNat = _
    rw [BitVec.toNat_or, BitVec.toNat_ofNat, BitVec.toNat_ofNat, Nat.mod_eq_of_lt (by omega), Nat.mod_eq_of_lt (by omega)]
    have := Nat.two_pow_add_eq_or_of_lt hz c
    rw [Nat.or_comm, Nat.mul_comm c, ← this]
    exact Nat.add_comm _ _
  rw [e2, ← wrapQ_eq, wrapU64]
  omega

theorem valQ_eq {z : Nat} (h : z < 9223372036854775808) : valQ (z : Int) = unzig z := by
  have e1 : shrQ (z : Int) 1 = ((z / 2 : Nat) : Int) := rfl
  have e2 : andZ .u64 (z : Int) 1 = ((z % 2 : Nat) : Int) := by
    have : (BitVec.ofInt IntKind.u64.bits (z : Int) &&& BitVec.ofInt IntKind.u64.bits 1).toNat = z % 2 := by
      have h1 : (1 : Int) = ((1 : Nat) : Int) := rfl
      rw [h1]
      simp only [BitVec.ofInt_natCast]
      show (BitVec.ofNat 64 z &&& BitVec.ofNat 64 1).toNat = z % 2
      rw [BitVec.toNat_and, BitVec.toNat_ofNat, BitVec.toNat_ofNat, Nat.mod_eq_of_lt (by omega)]
      have h2 : 1 % 2 ^ 64 = 2 ^ 1 - 1 := by decide
      rw [h2, Nat.and_two_pow_sub_one_eq_mod]
    unfold andZ
    rw [this, ← wrapQ_eq, wrapU64]
    omega
  have hw : ∀ n : Int, i64 n → IntKind.i64.wrap n = n := fun n hn => wrapI hn
  unfold valQ
  rw [e1, e2, wrapI64 (n := ((z / 2 : Nat) : Int)) ⟨by omega, by omega⟩, wrapI64 (n := ((z % 2 : Nat) : Int)) ⟨by omega, by omega⟩, hw (0 - ((z % 2 : Nat) : Int)) ⟨by omega, by omega⟩]
  unfold unzig xorZ
  rcases Nat.mod_two_eq_zero_or_one z with h0 | h0
  · rw [if_pos h0, h0]
    have e3 : (BitVec.ofInt IntKind.i64.bits ((z / 2 : Nat) : Int) ^^^ BitVec.ofInt IntKind.i64.bits (0 - ((0 : Nat) : Int))).toNat = z / 2 := by
      have : (0 : Int) - ((0 : Nat) : Int) = 0 := by decide
      rw [this]
      simp only [BitVec.ofInt_natCast]
      have e0 : BitVec.ofInt IntKind.i64.bits 0 = 0#64 := rfl
      rw [e0]
      show (BitVec.ofNat 64 (z / 2) ^^^ 0#64).toNat = z / 2
      rw [BitVec.xor_zero, BitVec.toNat_ofNat, Nat.mod_eq_of_lt (by omega)]
    rw [e3]
    exact hw _ ⟨by omega, by omega⟩
  · rw [if_neg (by omega), h0]
    have e3 : (BitVec.ofInt IntKind.i64.bits ((z / 2 : Nat) : Int) ^^^ BitVec.ofInt IntKind.i64.bits (0 - ((1 : Nat) : Int))).toNat = 18446744073709551615 - z / 2 := by
      have : (0 : Int) - ((1 : Nat) : Int) = -1 := by decide
      rw [this]
      simp only [BitVec.ofInt_natCast]
      have e0 : BitVec.ofInt IntKind.i64.bits (-1) = BitVec.allOnes 64 := rfl
      rw [e0]
      show (BitVec.ofNat 64 (z / 2) ^^^ BitVec.allOnes 64).toNat = _
      rw [BitVec.xor_allOnes, BitVec.toNat_not, BitVec.toNat_ofNat, Nat.mod_eq_of_lt (by omega)]
    rw [e3]
    unfold IntKind.wrap
    have e63 : (2 : Int) ^ (64 - 1) = 9223372036854775808 := by decide
    have e64 : (2 : Int) ^ 64 = 18446744073709551616 := by decide
    dsimp only [IntKind.bits, IntKind.signed]
    simp only [Bool.true_and, decide_eq_true_eq, e63, e64]
    split <;> omega

/-- What wire.Int returns at a place within the string. -/
def decEnd (a : Nat) : Option (Nat × Nat) → HEnd
  | some (z, n) => if -4611686018427387903 ≤ unzig z then .returned (.tuple [.int .i64 (unzig z), .int .i64 ((a + n : Nat) : Int), .int .i64 0]) else intErr 10
  | none => intErr 10

theorem treeI_ok {s : List UInt8} {a : Nat} (hs : s.length < 4611686018427387904) {K : HEnd → Prop} : ∀ (k i z : Nat), i + k = 9 → z < 128 ^ i → a + i ≤ s.length + 9 → K (decEnd a (decF k i z (s.drop (a + i)))) → treeI s a K k i (z : Int)
  | 0, i, z, _, _, _, h => h
  | k + 1, i, z, hik, hz, ha, h => by
    have hidx : idxQ (a : Int) i = ((a + i : Nat) : Int) := by
      unfold idxQ
      rw [addQ_eq, wrapI64 ⟨by simp; omega, by simp; omega⟩]
      simp
    rw [treeI, hidx, br_iff]
    constructor
    · intro hb
      have : ¬ ((a + i : Nat) : Int) < (s.length : Int) := by rw [ltQ_eq] at hb; simpa using hb
      have hd : s.drop (a + i) = [] := List.drop_eq_nil_of_le (by omega)
      rw [hd] at h
      exact h
    · intro hb
      have hlt : a + i < s.length := by rw [ltQ_eq] at hb; have : ((a + i : Nat) : Int) < (s.length : Int) := by simpa using hb
                                        omega
      refine ⟨⟨by omega, by omega⟩, ?_⟩
      obtain ⟨b, hbdef⟩ : ∃ b, b = s[a + i] := ⟨_, rfl⟩
      have hbyte : byteAt s ((a + i : Nat) : Int) = ((b.toNat : Nat) : Int) := by
        unfold byteAt
        have : (((a + i : Nat) : Int)).toNat = a + i := by omega
        rw [this, List.getElem?_eq_getElem hlt, hbdef]
        rfl
      have hdrop : s.drop (a + i) = b :: s.drop (a + (i + 1)) := by rw [List.drop_eq_getElem_cons hlt, hbdef]; rfl
      have hb256 : b.toNat < 256 := UInt8.toNat_lt b
      have hacc : accQ (z : Int) ((b.toNat : Nat) : Int) i = ((z + (b.toNat % 128) * 128 ^ i : Nat) : Int) := by
        unfold accQ
        rw [and127 hb256]
        exact or_add hz (Nat.mod_lt _ (by decide)) (by omega)
      have hpow : (128 : Nat) ^ (i + 1) = 128 ^ i * 128 := Nat.pow_succ ..
      have hzn : z + (b.toNat % 128) * 128 ^ i < 128 ^ (i + 1) := by
        have h1 : (b.toNat % 128) * 128 ^ i ≤ 127 * 128 ^ i := Nat.mul_le_mul_right _ (by omega)
        omega
      have hbig : z + (b.toNat % 128) * 128 ^ i < 9223372036854775808 := by
        have : (128 : Nat) ^ (i + 1) ≤ 128 ^ 9 := Nat.pow_le_pow_right (by decide) (by omega)
        have e : (128 : Nat) ^ 9 = 9223372036854775808 := by decide
        omega
      rw [hdrop] at h
      rw [hbyte, hacc]
      have hnext : nextQ (a : Int) i = ((a + (i + 1) : Nat) : Int) := by
        unfold nextQ
        rw [hidx, addQ_eq, wrapI64 ⟨by omega, by omega⟩]
        omega
      rw [br_iff]
      constructor
      · intro hc
        have hge : 128 ≤ b.toNat := by
          rw [ltQ_eq] at hc
          have : ¬ ((b.toNat : Nat) : Int) < 128 := by simpa using hc
          omega
        have hm : b.toNat % 128 = b.toNat - 128 := by omega
        rw [hm] at hzn ⊢
        refine treeI_ok hs k (i + 1) _ (by omega) hzn (by omega) ?_
        rw [decF, if_pos hge] at h
        exact h
      · intro hc
        have hlt' : b.toNat < 128 := by
          rw [ltQ_eq] at hc
          have : ((b.toNat : Nat) : Int) < 128 := by simpa using hc
          omega
        have hm : b.toNat % 128 = b.toNat := Nat.mod_eq_of_lt hlt'
        rw [hm] at hbig ⊢
        have hend : K (if b.toNat = 0 ∧ i ≠ 0 then intErr 10 else decEnd a (some (z + b.toNat * 128 ^ i, i + 1))) := by
          rw [decF, if_neg (by omega)] at h
          split
          · rename_i hh; rw [if_pos hh] at h; exact h
          · rename_i hh; rw [if_neg hh] at h; exact h
        have hval : valQ (((z + b.toNat * 128 ^ i : Nat)) : Int) = unzig (z + b.toNat * 128 ^ i) := valQ_eq hbig
        have fin : ¬ (b.toNat = 0 ∧ i ≠ 0) → br (ltQ (valQ ((z + b.toNat * 128 ^ i : Nat) : Int)) (-4611686018427387903)) (K (intEnd ((z + b.toNat * 128 ^ i : Nat) : Int) a i)) (K (intErr 10)) := by
          intro hh
          rw [if_neg hh] at hend
          rw [hval, br_iff, ltQ_eq]
          unfold decEnd at hend
          dsimp only at hend
          constructor
          · intro hv
            have hv : unzig (z + b.toNat * 128 ^ i) < -4611686018427387903 := by simpa using hv
            rw [if_neg (by omega)] at hend
            exact hend
          · intro hv
            have hv : ¬ unzig (z + b.toNat * 128 ^ i) < -4611686018427387903 := by simpa using hv
            rw [if_pos (by omega)] at hend
            unfold intEnd
            rw [hval, hnext]
            exact hend
        rw [br_iff]
        constructor
        · intro h0
          have h0 : b.toNat = 0 := by
            rw [eqQ_eq] at h0
            have : ((b.toNat : Nat) : Int) = 0 := by simpa using h0
            omega
          by_cases hi0 : i = 0
          · subst hi0
            exact fin (by omega)
          · have : Nat.beq i 0 = false := by cases i with | zero => exact absurd rfl hi0 | succ n => rfl
            rw [this]
            rw [if_pos ⟨h0, hi0⟩] at hend
            exact hend
        · intro h0
          have h0 : ¬ b.toNat = 0 := by
            rw [eqQ_eq] at h0
            intro hq
            rw [hq] at h0
            exact absurd h0 (by decide)
          exact fin (by omega)

/-- What wire.Int returns. -/
def intOut (s : List UInt8) (a : Nat) : HEnd := if s.length < a then intErr 2 else decEnd a (decF 9 0 0 (s.drop a))

theorem ends_139 {s : List UInt8} {a : Nat} (hs : s.length < 4611686018427387904) (σ : Store) : HCall Tryz.prog 139 [.str s, .int .i64 (a : Int)] σ (fun e σ' => e = intOut s a ∧ σ' = σ) := hcall_of_tree VS_ok sums1S_ok rfl (by
  show goal139 s a (lf _)
  rw [t139, br_iff, br_iff, ltQ_eq, ltQ_eq]
  unfold intOut
  refine ⟨fun h => ?_, fun _ => ⟨fun h => ?_, fun h => ?_⟩⟩
  · have : (a : Int) < 0 := by simpa using h
    omega
  · have : (s.length : Int) < (a : Int) := by simpa using h
    rw [if_pos (by omega)]
    exact ⟨rfl, rfl⟩
  · have : ¬ (s.length : Int) < (a : Int) := by simpa using h
    rw [if_neg (by omega)]
    refine treeI_ok hs 9 0 0 rfl (by decide) (by omega) ⟨?_, rfl⟩
    unfold decEnd
    split
    · split <;> rfl
    · rfl) σ

end
end Go.HI

/- carrier.Read: the notice with a text. -/
namespace Go.HI
open Go Go.Proofs
noncomputable section

def intZ (s : List UInt8) (a : Int) : Option (Int × Nat) := intAtP s a.toNat
def okQ (s : List UInt8) (a : Int) : Bool := (intZ s a).isSome
def numQ (s : List UInt8) (a : Int) : Int := ((intZ s a).getD (0, 0)).1
def nxtQ (s : List UInt8) (a : Int) : Int := (((intZ s a).getD (0, 0)).2 : Nat)
def inS (s : List UInt8) (a : Int) : Prop := 0 ≤ a ∧ a ≤ (s.length : Int) ∧ (s.length : Int) < 4611686018427387904
def sumInt : SumF := fun args σ => match args with
  | [.str s, .int .i64 a] => some (.guard (inS s a) (.ite (okQ s a) (.one (.returned (.tuple [.int .i64 (numQ s a), .int .i64 (nxtQ s a), .int .i64 0])) σ) (.one (intErr 10) σ)))
  | _ => none
/-- The places of the numbers. -/
def pos (s : List UInt8) : Nat → Int
  | 0 => 0
  | k + 1 => nxtQ s (pos s k)
def sums4S : SumsS := sumsOf [(66, sumWithinX), (57, sumFormed), (139, sumInt)]

theorem sumInt_ok : SumFOK Tryz.prog 139 sumInt := by
  intro args σ s hs R hR
  unfold sumInt at hs
  split at hs
  · rename_i s a
    cases hs
    obtain ⟨⟨h0, h1, h2⟩, h3⟩ : inS s a ∧ _ := hR
    obtain ⟨n, rfl⟩ : ∃ n : Nat, a = n := ⟨a.toNat, by omega⟩
    refine (ends_139 (by omega) σ).mono fun e σ' ⟨he, hσ⟩ => ?_
    rw [he, hσ]
    unfold intOut
    rw [if_neg (by omega)]
    have e0 : intZ s (n : Int) = intAtP s n := rfl
    unfold okQ numQ nxtQ at h3
    rw [e0] at h3
    unfold intAtP at h3
    unfold decEnd
    cases hd : decF 9 0 0 (s.drop n) with
    | none => rw [hd] at h3; exact h3
    | some p =>
      rw [hd] at h3
      obtain ⟨z, m⟩ := p
      dsimp only at h3 ⊢
      by_cases hz : -4611686018427387903 ≤ unzig z
      · rw [if_pos hz]
        simp only [if_pos hz] at h3
        exact h3
      · rw [if_neg hz]
        simp only [if_neg hz] at h3
        exact h3
  · cases hs

theorem sums4S_ok : SumsSOK Tryz.prog sums4S := sumsOf_ok fun p hp => by
  simp only [List.mem_cons, List.not_mem_nil, or_false] at hp
  rcases hp with rfl | rfl | rfl
  · exact sumWithin_ok within_66
  · exact sumFormed_ok
  · exact sumInt_ok

def goal19 (so : Int) (s : List UInt8) (K : HEnd → Prop) : Prop := (erS VS V0 Tryz.prog B0 D0 sums4S 80).fn 19 [.int .i64 so, .str s] emptyS (fun e _ => K e)
theorem t19 (so : Int) (s : List UInt8) (K : Go.HI.HEnd → Prop) : goal19 so s K = ((inS s (pos s 0)) ∧ (br (okQ s (pos s 0))
 (K (.returned (HV.tuple [(HV.agg [(HV.int .i64 0), (HV.int .i64 0), (HV.int .i64 0), (HV.int .i64 0), (HV.int .i64 0), (HV.int .i64 0), (HV.int .i64 0), (HV.int .i64 0), (HV.int .i64 0), (HV.int .i64 0), (HV.int .i64 0), (HV.bool .false), (HV.int .i64 0), (HV.int .i64 0), (HV.int .i64 0)]), (HV.int .i64 430)])))
 ((inS s (pos s 1)) ∧ (br (okQ s (pos s 1))
 (K (.returned (HV.tuple [(HV.agg [(HV.int .i64 0), (HV.int .i64 0), (HV.int .i64 0), (HV.int .i64 0), (HV.int .i64 0), (HV.int .i64 0), (HV.int .i64 0), (HV.int .i64 0), (HV.int .i64 0), (HV.int .i64 0), (HV.int .i64 0), (HV.bool .false), (HV.int .i64 0), (HV.int .i64 0), (HV.int .i64 0)]), (HV.int .i64 430)])))
 (br (eqQ (numQ s (pos s 0)) 1)
 (br (eqQ (numQ s (pos s 0)) 2)
 ((inS s (pos s 2)) ∧ (br (okQ s (pos s 2))
 (K (.returned (HV.tuple [(HV.agg [(HV.int .i64 0), (HV.int .i64 0), (HV.int .i64 0), (HV.int .i64 0), (HV.int .i64 0), (HV.int .i64 0), (HV.int .i64 0), (HV.int .i64 0), (HV.int .i64 0), (HV.int .i64 0), (HV.int .i64 0), (HV.bool .false), (HV.int .i64 0), (HV.int .i64 0), (HV.int .i64 0)]), (HV.int .i64 430)])))
 ((inS s (pos s 3)) ∧ (br (okQ s (pos s 3))
 (K (.returned (HV.tuple [(HV.agg [(HV.int .i64 0), (HV.int .i64 0), (HV.int .i64 0), (HV.int .i64 0), (HV.int .i64 0), (HV.int .i64 0), (HV.int .i64 0), (HV.int .i64 0), (HV.int .i64 0), (HV.int .i64 0), (HV.int .i64 0), (HV.bool .false), (HV.int .i64 0), (HV.int .i64 0), (HV.int .i64 0)]), (HV.int .i64 430)])))
 ((inS s (pos s 4)) ∧ (br (okQ s (pos s 4))
 (K (.returned (HV.tuple [(HV.agg [(HV.int .i64 0), (HV.int .i64 0), (HV.int .i64 0), (HV.int .i64 0), (HV.int .i64 0), (HV.int .i64 0), (HV.int .i64 0), (HV.int .i64 0), (HV.int .i64 0), (HV.int .i64 0), (HV.int .i64 0), (HV.bool .false), (HV.int .i64 0), (HV.int .i64 0), (HV.int .i64 0)]), (HV.int .i64 430)])))
 ((inS s (pos s 5)) ∧ (br (okQ s (pos s 5))
 (K (.returned (HV.tuple [(HV.agg [(HV.int .i64 0), (HV.int .i64 0), (HV.int .i64 0), (HV.int .i64 0), (HV.int .i64 0), (HV.int .i64 0), (HV.int .i64 0), (HV.int .i64 0), (HV.int .i64 0), (HV.int .i64 0), (HV.int .i64 0), (HV.bool .false), (HV.int .i64 0), (HV.int .i64 0), (HV.int .i64 0)]), (HV.int .i64 430)])))
 ((inS s (pos s 6)) ∧ (br (okQ s (pos s 6))
 (K (.returned (HV.tuple [(HV.agg [(HV.int .i64 0), (HV.int .i64 0), (HV.int .i64 0), (HV.int .i64 0), (HV.int .i64 0), (HV.int .i64 0), (HV.int .i64 0), (HV.int .i64 0), (HV.int .i64 0), (HV.int .i64 0), (HV.int .i64 0), (HV.bool .false), (HV.int .i64 0), (HV.int .i64 0), (HV.int .i64 0)]), (HV.int .i64 430)])))
 ((inS s (pos s 7)) ∧ (br (okQ s (pos s 7))
 (K (.returned (HV.tuple [(HV.agg [(HV.int .i64 0), (HV.int .i64 0), (HV.int .i64 0), (HV.int .i64 0), (HV.int .i64 0), (HV.int .i64 0), (HV.int .i64 0), (HV.int .i64 0), (HV.int .i64 0), (HV.int .i64 0), (HV.int .i64 0), (HV.bool .false), (HV.int .i64 0), (HV.int .i64 0), (HV.int .i64 0)]), (HV.int .i64 430)])))
 (br (eqQ (pos s 8) ((List.length s) : Int))
 (K (.returned (HV.tuple [(HV.agg [(HV.int .i64 0), (HV.int .i64 0), (HV.int .i64 0), (HV.int .i64 0), (HV.int .i64 0), (HV.int .i64 0), (HV.int .i64 0), (HV.int .i64 0), (HV.int .i64 0), (HV.int .i64 0), (HV.int .i64 0), (HV.bool .false), (HV.int .i64 0), (HV.int .i64 0), (HV.int .i64 0)]), (HV.int .i64 430)])))
 (br (formedQ so (numQ s (pos s 0)) (numQ s (pos s 1)) 0 0 0 (numQ s (pos s 1)) (numQ s (pos s 2)) (numQ s (pos s 3)) 0 (numQ s (pos s 4)) .false (numQ s (pos s 5)) (numQ s (pos s 6)) (numQ s (pos s 7)))
 (K (.returned (HV.tuple [(HV.agg [(HV.int .i64 0), (HV.int .i64 0), (HV.int .i64 0), (HV.int .i64 0), (HV.int .i64 0), (HV.int .i64 0), (HV.int .i64 0), (HV.int .i64 0), (HV.int .i64 0), (HV.int .i64 0), (HV.int .i64 0), (HV.bool .false), (HV.int .i64 0), (HV.int .i64 0), (HV.int .i64 0)]), (HV.int .i64 430)])))
 (K (.returned (HV.tuple [(HV.agg [(HV.int .i64 so), (HV.int .i64 (numQ s (pos s 0))), (HV.int .i64 (numQ s (pos s 1))), (HV.int .i64 0), (HV.int .i64 0), (HV.int .i64 0), (HV.int .i64 (numQ s (pos s 1))), (HV.int .i64 (numQ s (pos s 2))), (HV.int .i64 (numQ s (pos s 3))), (HV.int .i64 0), (HV.int .i64 (numQ s (pos s 4))), (HV.bool .false), (HV.int .i64 (numQ s (pos s 5))), (HV.int .i64 (numQ s (pos s 6))), (HV.int .i64 (numQ s (pos s 7)))]), (HV.int .i64 0)])))))))))))))))))
 ((inS s (pos s 2)) ∧ (br (okQ s (pos s 2))
 (K (.returned (HV.tuple [(HV.agg [(HV.int .i64 0), (HV.int .i64 0), (HV.int .i64 0), (HV.int .i64 0), (HV.int .i64 0), (HV.int .i64 0), (HV.int .i64 0), (HV.int .i64 0), (HV.int .i64 0), (HV.int .i64 0), (HV.int .i64 0), (HV.bool .false), (HV.int .i64 0), (HV.int .i64 0), (HV.int .i64 0)]), (HV.int .i64 430)])))
 ((inS s (pos s 3)) ∧ (br (okQ s (pos s 3))
 (K (.returned (HV.tuple [(HV.agg [(HV.int .i64 0), (HV.int .i64 0), (HV.int .i64 0), (HV.int .i64 0), (HV.int .i64 0), (HV.int .i64 0), (HV.int .i64 0), (HV.int .i64 0), (HV.int .i64 0), (HV.int .i64 0), (HV.int .i64 0), (HV.bool .false), (HV.int .i64 0), (HV.int .i64 0), (HV.int .i64 0)]), (HV.int .i64 430)])))
 ((inS s (pos s 4)) ∧ (br (okQ s (pos s 4))
 (K (.returned (HV.tuple [(HV.agg [(HV.int .i64 0), (HV.int .i64 0), (HV.int .i64 0), (HV.int .i64 0), (HV.int .i64 0), (HV.int .i64 0), (HV.int .i64 0), (HV.int .i64 0), (HV.int .i64 0), (HV.int .i64 0), (HV.int .i64 0), (HV.bool .false), (HV.int .i64 0), (HV.int .i64 0), (HV.int .i64 0)]), (HV.int .i64 430)])))
 ((inS s (pos s 5)) ∧ (br (okQ s (pos s 5))
 (K (.returned (HV.tuple [(HV.agg [(HV.int .i64 0), (HV.int .i64 0), (HV.int .i64 0), (HV.int .i64 0), (HV.int .i64 0), (HV.int .i64 0), (HV.int .i64 0), (HV.int .i64 0), (HV.int .i64 0), (HV.int .i64 0), (HV.int .i64 0), (HV.bool .false), (HV.int .i64 0), (HV.int .i64 0), (HV.int .i64 0)]), (HV.int .i64 430)])))
 ((inS s (pos s 6)) ∧ (br (okQ s (pos s 6))
 (K (.returned (HV.tuple [(HV.agg [(HV.int .i64 0), (HV.int .i64 0), (HV.int .i64 0), (HV.int .i64 0), (HV.int .i64 0), (HV.int .i64 0), (HV.int .i64 0), (HV.int .i64 0), (HV.int .i64 0), (HV.int .i64 0), (HV.int .i64 0), (HV.bool .false), (HV.int .i64 0), (HV.int .i64 0), (HV.int .i64 0)]), (HV.int .i64 430)])))
 (br (inQ (numQ s (pos s 6)) 0 1)
 (K (.returned (HV.tuple [(HV.agg [(HV.int .i64 0), (HV.int .i64 0), (HV.int .i64 0), (HV.int .i64 0), (HV.int .i64 0), (HV.int .i64 0), (HV.int .i64 0), (HV.int .i64 0), (HV.int .i64 0), (HV.int .i64 0), (HV.int .i64 0), (HV.bool .false), (HV.int .i64 0), (HV.int .i64 0), (HV.int .i64 0)]), (HV.int .i64 430)])))
 (br (eqQ (numQ s (pos s 6)) 1)
 (br (eqQ (pos s 7) ((List.length s) : Int))
 (K (.returned (HV.tuple [(HV.agg [(HV.int .i64 0), (HV.int .i64 0), (HV.int .i64 0), (HV.int .i64 0), (HV.int .i64 0), (HV.int .i64 0), (HV.int .i64 0), (HV.int .i64 0), (HV.int .i64 0), (HV.int .i64 0), (HV.int .i64 0), (HV.bool .false), (HV.int .i64 0), (HV.int .i64 0), (HV.int .i64 0)]), (HV.int .i64 430)])))
 (br (formedQ so (numQ s (pos s 0)) (numQ s (pos s 1)) 0 0 0 (numQ s (pos s 1)) (numQ s (pos s 2)) (numQ s (pos s 3)) (numQ s (pos s 4)) (numQ s (pos s 5)) .false 0 0 0)
 (K (.returned (HV.tuple [(HV.agg [(HV.int .i64 0), (HV.int .i64 0), (HV.int .i64 0), (HV.int .i64 0), (HV.int .i64 0), (HV.int .i64 0), (HV.int .i64 0), (HV.int .i64 0), (HV.int .i64 0), (HV.int .i64 0), (HV.int .i64 0), (HV.bool .false), (HV.int .i64 0), (HV.int .i64 0), (HV.int .i64 0)]), (HV.int .i64 430)])))
 (K (.returned (HV.tuple [(HV.agg [(HV.int .i64 so), (HV.int .i64 (numQ s (pos s 0))), (HV.int .i64 (numQ s (pos s 1))), (HV.int .i64 0), (HV.int .i64 0), (HV.int .i64 0), (HV.int .i64 (numQ s (pos s 1))), (HV.int .i64 (numQ s (pos s 2))), (HV.int .i64 (numQ s (pos s 3))), (HV.int .i64 (numQ s (pos s 4))), (HV.int .i64 (numQ s (pos s 5))), (HV.bool .false), (HV.int .i64 0), (HV.int .i64 0), (HV.int .i64 0)]), (HV.int .i64 0)])))))
 (br (eqQ (pos s 7) ((List.length s) : Int))
 (K (.returned (HV.tuple [(HV.agg [(HV.int .i64 0), (HV.int .i64 0), (HV.int .i64 0), (HV.int .i64 0), (HV.int .i64 0), (HV.int .i64 0), (HV.int .i64 0), (HV.int .i64 0), (HV.int .i64 0), (HV.int .i64 0), (HV.int .i64 0), (HV.bool .false), (HV.int .i64 0), (HV.int .i64 0), (HV.int .i64 0)]), (HV.int .i64 430)])))
 (br (formedQ so (numQ s (pos s 0)) (numQ s (pos s 1)) 0 0 0 (numQ s (pos s 1)) (numQ s (pos s 2)) (numQ s (pos s 3)) (numQ s (pos s 4)) (numQ s (pos s 5)) .true 0 0 0)
 (K (.returned (HV.tuple [(HV.agg [(HV.int .i64 0), (HV.int .i64 0), (HV.int .i64 0), (HV.int .i64 0), (HV.int .i64 0), (HV.int .i64 0), (HV.int .i64 0), (HV.int .i64 0), (HV.int .i64 0), (HV.int .i64 0), (HV.int .i64 0), (HV.bool .false), (HV.int .i64 0), (HV.int .i64 0), (HV.int .i64 0)]), (HV.int .i64 430)])))
 (K (.returned (HV.tuple [(HV.agg [(HV.int .i64 so), (HV.int .i64 (numQ s (pos s 0))), (HV.int .i64 (numQ s (pos s 1))), (HV.int .i64 0), (HV.int .i64 0), (HV.int .i64 0), (HV.int .i64 (numQ s (pos s 1))), (HV.int .i64 (numQ s (pos s 2))), (HV.int .i64 (numQ s (pos s 3))), (HV.int .i64 (numQ s (pos s 4))), (HV.int .i64 (numQ s (pos s 5))), (HV.bool .true), (HV.int .i64 0), (HV.int .i64 0), (HV.int .i64 0)]), (HV.int .i64 0)]))))))))))))))))))
 ((inS s (pos s 2)) ∧ (br (okQ s (pos s 2))
 (K (.returned (HV.tuple [(HV.agg [(HV.int .i64 0), (HV.int .i64 0), (HV.int .i64 0), (HV.int .i64 0), (HV.int .i64 0), (HV.int .i64 0), (HV.int .i64 0), (HV.int .i64 0), (HV.int .i64 0), (HV.int .i64 0), (HV.int .i64 0), (HV.bool .false), (HV.int .i64 0), (HV.int .i64 0), (HV.int .i64 0)]), (HV.int .i64 430)])))
 ((inS s (pos s 3)) ∧ (br (okQ s (pos s 3))
 (K (.returned (HV.tuple [(HV.agg [(HV.int .i64 0), (HV.int .i64 0), (HV.int .i64 0), (HV.int .i64 0), (HV.int .i64 0), (HV.int .i64 0), (HV.int .i64 0), (HV.int .i64 0), (HV.int .i64 0), (HV.int .i64 0), (HV.int .i64 0), (HV.bool .false), (HV.int .i64 0), (HV.int .i64 0), (HV.int .i64 0)]), (HV.int .i64 430)])))
 ((inS s (pos s 4)) ∧ (br (okQ s (pos s 4))
 (K (.returned (HV.tuple [(HV.agg [(HV.int .i64 0), (HV.int .i64 0), (HV.int .i64 0), (HV.int .i64 0), (HV.int .i64 0), (HV.int .i64 0), (HV.int .i64 0), (HV.int .i64 0), (HV.int .i64 0), (HV.int .i64 0), (HV.int .i64 0), (HV.bool .false), (HV.int .i64 0), (HV.int .i64 0), (HV.int .i64 0)]), (HV.int .i64 430)])))
 (br (eqQ (pos s 5) ((List.length s) : Int))
 (K (.returned (HV.tuple [(HV.agg [(HV.int .i64 0), (HV.int .i64 0), (HV.int .i64 0), (HV.int .i64 0), (HV.int .i64 0), (HV.int .i64 0), (HV.int .i64 0), (HV.int .i64 0), (HV.int .i64 0), (HV.int .i64 0), (HV.int .i64 0), (HV.bool .false), (HV.int .i64 0), (HV.int .i64 0), (HV.int .i64 0)]), (HV.int .i64 430)])))
 (br (formedQ so (numQ s (pos s 0)) (numQ s (pos s 1)) (numQ s (pos s 2)) (numQ s (pos s 3)) (numQ s (pos s 4)) 0 0 0 0 0 .false 0 0 0)
 (K (.returned (HV.tuple [(HV.agg [(HV.int .i64 0), (HV.int .i64 0), (HV.int .i64 0), (HV.int .i64 0), (HV.int .i64 0), (HV.int .i64 0), (HV.int .i64 0), (HV.int .i64 0), (HV.int .i64 0), (HV.int .i64 0), (HV.int .i64 0), (HV.bool .false), (HV.int .i64 0), (HV.int .i64 0), (HV.int .i64 0)]), (HV.int .i64 430)])))
 (K (.returned (HV.tuple [(HV.agg [(HV.int .i64 so), (HV.int .i64 (numQ s (pos s 0))), (HV.int .i64 (numQ s (pos s 1))), (HV.int .i64 (numQ s (pos s 2))), (HV.int .i64 (numQ s (pos s 3))), (HV.int .i64 (numQ s (pos s 4))), (HV.int .i64 0), (HV.int .i64 0), (HV.int .i64 0), (HV.int .i64 0), (HV.int .i64 0), (HV.bool .false), (HV.int .i64 0), (HV.int .i64 0), (HV.int .i64 0)]), (HV.int .i64 0)])))))))))))))))) := by kernel_rfl

end
end Go.HI

/- Integers as bytes, there and back. -/
namespace Go.HI
open Go Go.Proofs

theorem and127w (y : Nat) (h : y < 18446744073709551616) : andZ .u64 (y : Int) 127 = ((y % 128 : Nat) : Int) := by
  have e1 : (BitVec.ofInt IntKind.u64.bits (y : Int) &&& BitVec.ofInt IntKind.u64.bits 127).toNat = y % 128 := by
    have : (127 : Int) = ((127 : Nat) : Int) := rfl
    rw [this]
    simp only [BitVec.ofInt_natCast]
    show (BitVec.ofNat 64 y &&& BitVec.ofNat 64 127).toNat = y % 128
    rw [BitVec.toNat_and, BitVec.toNat_ofNat, BitVec.toNat_ofNat, Nat.mod_eq_of_lt (by omega)]
    have h2 : 127 % 2 ^ 64 = 2 ^ 7 - 1 := by decide
    rw [h2, Nat.and_two_pow_sub_one_eq_mod]
  unfold andZ
  rw [e1, ← wrapQ_eq, wrapU64]
  omega

theorem lastB_eq {y : Nat} (h : y < 18446744073709551616) : lastB (y : Int) = UInt8.ofNat (y % 128) := by
  unfold lastB byteQ
  rw [and127w y h, wrapU8]
  congr 1
  omega

theorem or128 {x : Nat} (h : x < 128) : orZ .u8 (x : Int) 128 = ((x + 128 : Nat) : Int) := by
  have e1 : (BitVec.ofInt IntKind.u8.bits (x : Int) ||| BitVec.ofInt IntKind.u8.bits 128).toNat = x + 128 := by
    have : (128 : Int) = ((128 : Nat) : Int) := rfl
    rw [this]
    simp only [BitVec.ofInt_natCast]
    show (BitVec.ofNat 8 x ||| BitVec.ofNat 8 128).toNat = x + 128
    rw [BitVec.toNat_or, BitVec.toNat_ofNat, BitVec.toNat_ofNat, Nat.mod_eq_of_lt (by omega)]
    have h2 : 128 % 2 ^ 8 = 2 ^ 7 * 1 := by decide
    have h3 := Nat.two_pow_add_eq_or_of_lt (i := 7) (b := x) (by omega) 1
    rw [h2, Nat.or_comm, ← h3]
    omega
  unfold orZ
  rw [e1, ← wrapQ_eq, wrapU8]
  omega

theorem moreB_eq {y : Nat} (h : y < 18446744073709551616) : moreB (y : Int) = UInt8.ofNat (y % 128 + 128) := by
  unfold moreB byteQ
  rw [and127w y h, wrapU8]
  have e : ((y % 128 : Nat) : Int) % 256 = ((y % 128 : Nat) : Int) := by omega
  rw [e, or128 (Nat.mod_lt _ (by decide))]
  congr 1

theorem shr7 (y : Nat) : shrQ (y : Int) 7 = ((y / 128 : Nat) : Int) := rfl

theorem lebI_small {k y : Nat} (h : y < 128) : lebI (k + 1) (y : Int) = [UInt8.ofNat y] := by
  have : ltQ (y : Int) 128 = true := by rw [ltQ_eq]; simp; omega
  rw [lebI, this]
  show [lastB (y : Int)] = _
  rw [lastB_eq (by omega), Nat.mod_eq_of_lt h]

theorem lebI_great {k y : Nat} (h : 128 ≤ y) (h2 : y < 18446744073709551616) : lebI (k + 1) (y : Int) = UInt8.ofNat (y % 128 + 128) :: lebI k ((y / 128 : Nat) : Int) := by
  have : ltQ (y : Int) 128 = false := by rw [ltQ_eq]; simp; omega
  rw [lebI, this]
  show moreB (y : Int) :: lebI k (shrQ (y : Int) 7) = _
  rw [moreB_eq h2, shr7]

theorem ofNat_toNat' {x : Nat} (h : x < 256) : (UInt8.ofNat x).toNat = x := by
  rw [UInt8.toNat_ofNat']
  exact Nat.mod_eq_of_lt h

theorem decF_leb : ∀ (kd kl i z y : Nat) (rest : List UInt8), y < 128 ^ kd → 1 ≤ kd → kd ≤ kl → y < 18446744073709551616 → (i ≠ 0 → y ≠ 0) →
    decF kd i z (lebI kl (y : Int) ++ rest) = some (z + y * 128 ^ i, i + (lebI kl (y : Int)).length)
  | 0, _, _, _, _, _, _, h, _, _, _ => by omega
  | kd + 1, 0, _, _, _, _, _, _, h, _, _ => by omega
  | kd + 1, kl + 1, i, z, y, rest, hy, _, hk, hb, hi => by
    by_cases h : y < 128
    · rw [lebI_small h]
      show decF (kd + 1) i z (UInt8.ofNat y :: rest) = _
      rw [decF, ofNat_toNat' (by omega), if_neg (by omega), if_neg (by rintro ⟨h1, h2⟩; exact hi h2 h1)]
      rfl
    · have hkd : 1 ≤ kd := by
        rcases Nat.eq_zero_or_pos kd with e | e
        · subst e; simp at hy; omega
        · exact e
      rw [lebI_great (by omega) hb]
      show decF (kd + 1) i z (UInt8.ofNat (y % 128 + 128) :: (lebI kl ((y / 128 : Nat) : Int) ++ rest)) = _
      have hm : y % 128 < 128 := Nat.mod_lt _ (by decide)
      rw [decF, ofNat_toNat' (by omega), if_pos (by omega)]
      have hp : (128 : Nat) ^ (kd + 1) = 128 ^ kd * 128 := Nat.pow_succ ..
      rw [decF_leb kd kl (i + 1) _ (y / 128) rest (by rw [hp] at hy; exact Nat.div_lt_of_lt_mul (by rw [Nat.mul_comm]; exact hy)) hkd (by omega) (by omega) (by omega)]
      have hp2 : (128 : Nat) ^ (i + 1) = 128 ^ i * 128 := Nat.pow_succ ..
      have hy2 : y = 128 * (y / 128) + y % 128 := (Nat.div_add_mod y 128).symm
      have e1 : z + (y % 128 + 128 - 128) * 128 ^ i + y / 128 * 128 ^ (i + 1) = z + y * 128 ^ i := by
        rw [hp2]
        have : y * 128 ^ i = (y % 128) * 128 ^ i + y / 128 * (128 ^ i * 128) := by
          conv => lhs; rw [hy2]
          rw [Nat.add_mul, Nat.mul_comm 128 (y / 128), Nat.mul_assoc, Nat.mul_comm 128 (128 ^ i)]
          omega
        rw [this]
        have : y % 128 + 128 - 128 = y % 128 := by omega
        rw [this]
        omega
      rw [e1, List.length_cons]
      congr 2
      omega

theorem leb_decF : ∀ (k kl i z Z m : Nat) (l : List UInt8), k ≤ kl → k ≤ 9 → decF k i z l = some (Z, m) →
    ∃ y, Z = z + y * 128 ^ i ∧ l = lebI kl (y : Int) ++ l.drop (m - i) ∧ i < m ∧ m - i ≤ l.length ∧ y < 128 ^ k ∧ (i ≠ 0 → y ≠ 0)
  | 0, _, _, _, _, _, _, _, _, h => by simp [decF] at h
  | k + 1, _, _, _, _, _, [], _, _, h => by simp [decF] at h
  | k + 1, 0, _, _, _, _, _, hk, _, _ => by omega
  | k + 1, kl + 1, i, z, Z, m, b :: l, hk, h9, h => by
    have hb256 : b.toNat < 256 := UInt8.toNat_lt b
    rw [decF] at h
    by_cases hb : 128 ≤ b.toNat
    · rw [if_pos hb] at h
      obtain ⟨y, h1, h2, h3, h4, h5, h6⟩ := leb_decF k kl (i + 1) _ Z m l (by omega) (by omega) h
      have hp : (128 : Nat) ^ (k + 1) = 128 ^ k * 128 := Nat.pow_succ ..
      have hp2 : (128 : Nat) ^ (i + 1) = 128 ^ i * 128 := Nat.pow_succ ..
      have hle : (128 : Nat) ^ k ≤ 128 ^ 8 := Nat.pow_le_pow_right (by decide) (by omega)
      have e8 : (128 : Nat) ^ 8 = 72057594037927936 := by decide
      have hy0 : y ≠ 0 := h6 (by omega)
      refine ⟨(b.toNat - 128) + 128 * y, ?_, ?_, by omega, ?_, by omega, fun _ => by omega⟩
      · rw [h1, hp2, Nat.add_mul]
        have : y * (128 ^ i * 128) = 128 * y * 128 ^ i := by rw [Nat.mul_comm (128 ^ i) 128, ← Nat.mul_assoc, Nat.mul_comm y 128]
        omega
      · rw [lebI_great (by omega) (by omega)]
        have e1 : ((b.toNat - 128) + 128 * y) % 128 + 128 = b.toNat := by omega
        have e2 : ((b.toNat - 128) + 128 * y) / 128 = y := by omega
        have e3 : UInt8.ofNat b.toNat = b := UInt8.ofNat_toNat
        have e4 : m - i = (m - (i + 1)) + 1 := by omega
        rw [e1, e2, e3, e4, List.drop_succ_cons, List.cons_append, ← h2]
      · rw [List.length_cons]; omega
    · rw [if_neg hb] at h
      split at h
      · cases h
      · rename_i hz
        cases h
        refine ⟨b.toNat, rfl, ?_, by omega, by simp, ?_, fun hi h0 => hz ⟨h0, hi⟩⟩
        · rw [lebI_small (by omega), UInt8.ofNat_toNat]
          have : i + 1 - i = 1 := by omega
          rw [this]
          rfl
        · have hp : (128 : Nat) ^ (k + 1) = 128 ^ k * 128 := Nat.pow_succ ..
          have : 1 ≤ 128 ^ k := Nat.one_le_pow _ _ (by decide)
          omega

theorem zig_nat {v : Int} (h : maxI v) : ∃ y : Nat, zig v = (y : Int) ∧ y < 9223372036854775808 ∧ unzig y = v := by
  obtain ⟨h1, h2⟩ := h
  unfold zig
  by_cases h0 : 0 ≤ v
  · rw [if_pos h0]
    refine ⟨(2 * v).toNat, by omega, by omega, ?_⟩
    unfold unzig
    have : (2 * v).toNat % 2 = 0 := by omega
    rw [if_pos this]
    omega
  · rw [if_neg h0]
    refine ⟨(-2 * v - 1).toNat, by omega, by omega, ?_⟩
    unfold unzig
    have : ¬ (-2 * v - 1).toNat % 2 = 0 := by omega
    rw [if_neg this]
    omega

theorem zig_unzig (z : Nat) : zig (unzig z) = (z : Int) := by
  unfold zig unzig
  by_cases h : z % 2 = 0
  · rw [if_pos h, if_pos (by omega)]; omega
  · rw [if_neg h, if_neg (by omega)]; omega

theorem pow9 : (128 : Nat) ^ 9 = 9223372036854775808 := by decide

/-- A number that was put is read again. -/
theorem intAt_put {s rest : List UInt8} {a : Nat} {v : Int} (hv : maxI v) (h : s.drop a = putB v ++ rest) : intAtP s a = some (v, a + (putB v).length) := by
  obtain ⟨y, h1, h2, h3⟩ := zig_nat hv
  unfold intAtP
  rw [h]
  unfold putB
  rw [h1, decF_leb 9 10 0 0 y rest (by rw [pow9]; exact h2) (by decide) (by decide) (by omega) (fun hi => absurd rfl hi)]
  dsimp only
  have e : 0 + y * 128 ^ 0 = y := by omega
  rw [e, h3, if_pos hv.1]
  simp

/-- A number that is read stands there as it is put. -/
theorem put_intAt {s : List UInt8} {a m : Nat} {v : Int} (h : intAtP s a = some (v, m)) : maxI v ∧ s.drop a = putB v ++ s.drop m ∧ a < m ∧ m ≤ s.length := by
  unfold intAtP at h
  split at h
  · rename_i z n hd
    split at h
    · rename_i hz
      simp only [Option.some.injEq, Prod.mk.injEq] at h
      obtain ⟨rfl, rfl⟩ := h
      obtain ⟨y, h1, h2, h3, h4, h5, _⟩ := leb_decF 9 10 0 0 z n _ (by decide) (by decide) hd
      have hy : z = y := by omega
      subst hy
      rw [pow9] at h5
      rw [List.length_drop] at h4
      refine ⟨⟨hz, ?_⟩, ?_, by omega, by omega⟩
      · unfold unzig
        split <;> omega
      · unfold putB
        rw [zig_unzig]
        have e : (s.drop a).drop (n - 0) = s.drop (a + n) := by rw [List.drop_drop]; congr 1
        rw [← e]
        exact h2
    · cases h
  · cases h

theorem lebI_length : ∀ (k : Nat) (z : Int), (lebI k z).length ≤ k
  | 0, _ => Nat.le_refl _
  | k + 1, z => by
    rw [lebI]
    cases ltQ z 128 with
    | true => simp
    | false => simp only [List.length_cons]; have := lebI_length k (shrQ z 7); omega
theorem putB_length (v : Int) : (putB v).length ≤ 10 := lebI_length 10 _

noncomputable def putL : List Int → List UInt8
  | [] => []
  | x :: xs => putB x ++ putL xs

theorem putL_append : ∀ (a b : List Int), putL (a ++ b) = putL a ++ putL b
  | [], _ => rfl
  | x :: a, b => by rw [List.cons_append, putL, putL, putL_append a b, List.append_assoc]

theorem pos_nat (s : List UInt8) : ∀ k, ∃ a : Nat, pos s k = (a : Int)
  | 0 => ⟨0, rfl⟩
  | _ + 1 => ⟨_, rfl⟩

theorem at_put {s : List UInt8} {a : Nat} {v : Int} {rest : List UInt8} (hv : maxI v) (h : s.drop a = putB v ++ rest) : okQ s (a : Int) = true ∧ numQ s (a : Int) = v ∧ nxtQ s (a : Int) = ((a + (putB v).length : Nat) : Int) := by
  have e : intZ s (a : Int) = some (v, a + (putB v).length) := intAt_put hv h
  unfold okQ numQ nxtQ
  rw [e]
  exact ⟨rfl, rfl, rfl⟩

/-- What was put, number behind number. -/
theorem chain_put {s : List UInt8} : ∀ (xs : List Int) (done : List Int) (rest : List UInt8), (∀ x ∈ xs, maxI x) → s = putL done ++ (putL xs ++ rest) → pos s done.length = ((putL done).length : Int) →
    ∀ i (hi : i < xs.length), okQ s (pos s (done.length + i)) = true ∧ numQ s (pos s (done.length + i)) = xs[i] ∧ pos s (done.length + (i + 1)) = ((putL (done ++ xs.take (i + 1))).length : Int)
  | [], _, _, _, _, _, i, hi => by simp at hi
  | x :: xs, done, rest, hx, hs, hp, i, hi => by
    have hdrop : s.drop (putL done).length = putB x ++ (putL xs ++ rest) := by
      rw [hs, List.drop_left, putL, List.append_assoc]
    obtain ⟨h1, h2, h3⟩ := at_put (hx x (List.mem_cons_self ..)) hdrop
    have hlen : (putL (done ++ [x])).length = (putL done).length + (putB x).length := by
      rw [putL_append, putL, putL, List.append_nil, List.length_append]
    have hp1 : pos s (done.length + 1) = ((putL (done ++ [x])).length : Int) := by
      show nxtQ s (pos s done.length) = _
      rw [hp, h3, hlen]
    cases i with
    | zero =>
      rw [Nat.add_zero, hp]
      exact ⟨h1, h2, by simpa using hp1⟩
    | succ i =>
      have ih := chain_put (s := s) xs (done ++ [x]) rest (fun y hy => hx y (List.mem_cons_of_mem _ hy)) (by
        rw [putL_append, putL, putL, List.append_nil, List.append_assoc, ← List.append_assoc (putB x), ← putL]
        exact hs) (by simpa using hp1) i (by simpa using hi)
      have el : (done ++ [x]).length = done.length + 1 := by simp
      rw [el] at ih
      have e1 : done.length + 1 + i = done.length + (i + 1) := by omega
      have e2 : done.length + 1 + (i + 1) = done.length + (i + 1 + 1) := by omega
      rw [e1, e2] at ih
      refine ⟨ih.1, by simpa using ih.2.1, ?_⟩
      rw [ih.2.2, List.take_succ_cons, List.append_assoc]
      rfl

theorem chain_all {s : List UInt8} {xs : List Int} (hx : ∀ x ∈ xs, maxI x) (hs : s = putL xs) (i : Nat) (hi : i < xs.length) : okQ s (pos s i) = true ∧ numQ s (pos s i) = xs[i] := by
  have := chain_put (s := s) xs [] [] hx (by rw [putL, List.nil_append, List.append_nil]; exact hs) rfl i hi
  rw [List.length_nil, Nat.zero_add] at this
  exact ⟨this.1, this.2.1⟩
theorem chain_end {s : List UInt8} {xs : List Int} (hx : ∀ x ∈ xs, maxI x) (hs : s = putL xs) (h0 : 0 < xs.length) : pos s xs.length = (s.length : Int) := by
  have := (chain_put (s := s) xs [] [] hx (by rw [putL, List.nil_append, List.append_nil]; exact hs) rfl (xs.length - 1) (by omega)).2.2
  have e : ([] : List Int).length + (xs.length - 1 + 1) = xs.length := by simp; omega
  have e2 : xs.length - 1 + 1 = xs.length := by omega
  rw [e, e2, List.take_length, List.nil_append, ← hs] at this
  exact this

/-- What is read, number behind number. -/
structure Got (s : List UInt8) (xs : List Int) (a : Int) : Prop where
  txt : ∃ n : Nat, a = n ∧ n ≤ s.length ∧ s = putL xs ++ s.drop n
  max : ∀ x ∈ xs, maxI x

theorem Got.start (s : List UInt8) : Got s [] 0 := ⟨⟨0, rfl, Nat.zero_le _, rfl⟩, fun x hx => by cases hx⟩

theorem Got.inS {s : List UInt8} {xs : List Int} {a : Int} (h : Got s xs a) (hs : s.length < 4611686018427387904) : inS s a := by
  obtain ⟨n, rfl, h1, _⟩ := h.txt
  exact ⟨by omega, by omega, by omega⟩

theorem Got.step {s : List UInt8} {xs : List Int} {a : Int} (h : Got s xs a) (hk : okQ s a = true) : Got s (xs ++ [numQ s a]) (nxtQ s a) := by
  obtain ⟨n, rfl, h1, h2⟩ := h.txt
  unfold okQ at hk
  obtain ⟨p, hp⟩ := Option.isSome_iff_exists.1 hk
  obtain ⟨v, m⟩ := p
  have hp' : intAtP s n = some (v, m) := hp
  obtain ⟨g1, g2, g3, g4⟩ := put_intAt hp'
  have hn : numQ s (n : Int) = v := by unfold numQ; rw [hp]; rfl
  have hx : nxtQ s (n : Int) = (m : Int) := by unfold nxtQ; rw [hp]; rfl
  refine ⟨⟨m, hx, g4, ?_⟩, fun x hx => ?_⟩
  · rw [hn, putL_append, putL, putL, List.append_nil, List.append_assoc, ← g2]
    exact h2
  · rcases List.mem_append.1 hx with hx | hx
    · exact h.max x hx
    · rw [List.mem_singleton] at hx
      rw [hx, hn]
      exact g1

theorem Got.whole {s : List UInt8} {xs : List Int} {a : Int} (h : Got s xs a) (he : a = (s.length : Int)) : s = putL xs := by
  obtain ⟨n, rfl, h1, h2⟩ := h.txt
  have : n = s.length := by omega
  subst this
  rw [List.drop_length, List.append_nil] at h2
  exact h2

end Go.HI

/- Notices and their texts: Text, and Read, as they are meant. -/
namespace Go.HI
open Go Go.Proofs
noncomputable section

/-! ### What is formed, in words -/
theorem claimQ_iff {cn cf ct ch ca : Int} : claimQ cn cf ct ch ca = true ↔ (0 ≤ cn ∧ cn ≤ 99999999) ∧ (0 ≤ cf ∧ cf ≤ 7) ∧ (0 ≤ ct ∧ ct ≤ 7) ∧ cf ≠ ct ∧ (0 ≤ ch ∧ ch ≤ 63) ∧ (0 ≤ ca ∧ ca ≤ 10000000) := by
  unfold claimQ
  simp only [Bool.and_eq_true, inQ_iff, eqQ_eq, Bool.not_eq_true', beq_eq_false_iff_ne]

theorem lineQ_iff {k a h : Int} : lineQ k a h = true ↔ (1 ≤ k ∧ k ≤ 7) ∧ (0 ≤ a ∧ a ≤ 10000000) ∧ ((k ≤ 2 ∧ 0 ≤ h ∧ h ≤ 63) ∨ (2 < k ∧ h = -1)) := by
  unfold lineQ
  simp only [Bool.and_eq_true, inQ_iff]
  constructor
  · rintro ⟨h1, h2, h3⟩
    refine ⟨h1, h2, ?_⟩
    cases hk : inQ k 1 2 with
    | true =>
      rw [hk] at h3
      have h3 := inQ_iff.1 h3
      have hk := inQ_iff.1 hk
      exact .inl ⟨hk.2, h3⟩
    | false =>
      rw [hk] at h3
      have h3 : eqQ h (-1) = true := h3
      rw [eqQ_eq] at h3
      have hk' : ¬ (1 ≤ k ∧ k ≤ 2) := fun h => by rw [inQ_iff.2 h] at hk; cases hk
      exact .inr ⟨by omega, by simpa using h3⟩
  · rintro ⟨h1, h2, h3⟩
    refine ⟨h1, h2, ?_⟩
    rcases h3 with ⟨h3, h4⟩ | ⟨h3, h4⟩
    · rw [inQ_iff.2 ⟨h1.1, h3⟩]
      exact inQ_iff.2 h4
    · have : inQ k 1 2 = false := by
        cases hk : inQ k 1 2 with
        | false => rfl
        | true => have := inQ_iff.1 hk; omega
      rw [this, h4]
      rfl

theorem eventQ_iff {ek ea er ca : Int} : eventQ ek ea er ca = true ↔ (1 ≤ ek ∧ ek ≤ 6) ∧ (ca ≤ ea ∧ ea ≤ 20000000) ∧ (((ek = 2 ∨ ek = 6) ∧ 1 ≤ er ∧ er ≤ 9) ∨ (ek ≠ 2 ∧ ek ≠ 6 ∧ er = 0)) := by
  unfold eventQ
  simp only [Bool.and_eq_true, inQ_iff, eqQ_eq]
  refine and_congr_right fun _ => and_congr_right fun _ => ?_
  by_cases h2 : ek = 2
  · subst h2
    simp [inQ_iff]
  · by_cases h6 : ek = 6
    · subst h6
      simp [inQ_iff]
    · have e2 : (ek == 2) = false := by simp [h2]
      have e6 : (ek == 6) = false := by simp [h6]
      rw [e2, e6]
      show inQ er 0 0 = true ↔ _
      rw [inQ_iff]
      simp only [h2, h6, or_self, false_and, not_false_eq_true, true_and, false_or, ne_eq]
      omega

theorem formedQ_iff {so ki nu lk la lh cn cf ct ch ca : Int} {cb : Bool} {ek ea er : Int} : formedQ so ki nu lk la lh cn cf ct ch ca cb ek ea er = true ↔ (0 ≤ so ∧ so ≤ 7) ∧ (0 ≤ nu ∧ nu ≤ 99999999) ∧
    ((ki = 1 ∧ (cn = 0 ∧ cf = 0 ∧ ct = 0 ∧ ch = 0 ∧ ca = 0 ∧ cb = false) ∧ (ek = 0 ∧ ea = 0 ∧ er = 0) ∧ lineQ lk la lh = true) ∨
     (ki = 2 ∧ (lk = 0 ∧ la = 0 ∧ lh = 0) ∧ (ek = 0 ∧ ea = 0 ∧ er = 0) ∧ cn = nu ∧ claimQ cn cf ct ch ca = true) ∨
     (ki = 3 ∧ (lk = 0 ∧ la = 0 ∧ lh = 0) ∧ cn = nu ∧ ch = 0 ∧ cb = false ∧ claimQ cn cf ct ch ca = true ∧ eventQ ek ea er ca = true)) := by
  unfold formedQ
  simp only [Bool.and_eq_true, inQ_iff, eqQ_eq]
  refine and_congr_right fun _ => and_congr_right fun _ => ?_
  by_cases h1 : ki = 1
  · subst h1
    simp
  · by_cases h2 : ki = 2
    · subst h2
      simp [and_assoc]
    · by_cases h3 : ki = 3
      · subst h3
        simp [and_assoc]
      · have e1 : (ki == 1) = false := by simp [h1]
        have e2 : (ki == 2) = false := by simp [h2]
        have e3 : (ki == 3) = false := by simp [h3]
        rw [e1, e2, e3]
        simp [h1, h2, h3]

/-! ### Notices -/
def formedN (n : NT) : Bool := formedQ n.so n.ki n.nu n.lk n.la n.lh n.cn n.cf n.ct n.ch n.ca n.cb n.ek n.ea n.er
def ntHV (n : NT) : HV := noticeHV n.so n.ki n.nu n.lk n.la n.lh n.cn n.cf n.ct n.ch n.ca n.cb n.ek n.ea n.er
def numsN (n : NT) : List Int := if n.ki = 1 then [n.ki, n.nu, n.lk, n.la, n.lh] else if n.ki = 2 then [n.ki, n.nu, n.cf, n.ct, n.ch, n.ca, if n.cb then 1 else 0] else [n.ki, n.nu, n.cf, n.ct, n.ca, n.ek, n.ea, n.er]
def textN (n : NT) : List UInt8 := putL (numsN n)

theorem nums1 {n : NT} (h : n.ki = 1) : numsN n = [n.ki, n.nu, n.lk, n.la, n.lh] := by unfold numsN; rw [if_pos h]
theorem nums2 {n : NT} (h : n.ki = 2) : numsN n = [n.ki, n.nu, n.cf, n.ct, n.ch, n.ca, if n.cb then 1 else 0] := by unfold numsN; rw [if_neg (by omega), if_pos h]
theorem nums3 {n : NT} (h : n.ki = 3) : numsN n = [n.ki, n.nu, n.cf, n.ct, n.ca, n.ek, n.ea, n.er] := by unfold numsN; rw [if_neg (by omega), if_neg (by omega)]

theorem maxI_of {v : Int} (h : -1 ≤ v ∧ v ≤ 100000000) : maxI v := ⟨by omega, by omega⟩

theorem nums_max {n : NT} (h : formedN n = true) : ∀ x ∈ numsN n, maxI x := by
  obtain ⟨_, h2, h3⟩ := formedQ_iff.1 h
  rcases h3 with ⟨k, _, _, hl⟩ | ⟨k, _, _, _, hc⟩ | ⟨k, _, _, _, _, hc, he⟩
  · rw [nums1 k]
    obtain ⟨l1, l2, l3⟩ := lineQ_iff.1 hl
    intro x hx
    simp only [List.mem_cons, List.not_mem_nil, or_false] at hx
    apply maxI_of
    rcases hx with rfl | rfl | rfl | rfl | rfl <;> omega
  · rw [nums2 k]
    obtain ⟨c1, c2, c3, _, c4, c5⟩ := claimQ_iff.1 hc
    intro x hx
    simp only [List.mem_cons, List.not_mem_nil, or_false] at hx
    apply maxI_of
    rcases hx with rfl | rfl | rfl | rfl | rfl | rfl | rfl <;> first | omega | (split <;> omega)
  · rw [nums3 k]
    obtain ⟨c1, c2, c3, _, c4, c5⟩ := claimQ_iff.1 hc
    obtain ⟨e1, e2, e3⟩ := eventQ_iff.1 he
    intro x hx
    simp only [List.mem_cons, List.not_mem_nil, or_false] at hx
    apply maxI_of
    rcases hx with rfl | rfl | rfl | rfl | rfl | rfl | rfl | rfl <;> omega

/-! ### Text -/
def textErr : HEnd := .returned (.tuple [.str [], .int .i64 430])
def textEnd (n : NT) : HEnd := Bool.rec textErr (.returned (.tuple [.str (textN n), .int .i64 0])) (formedN n)

theorem fit_of {a b : List UInt8} (ha : a.length ≤ 1000) (hb : b.length ≤ 1000) : fit2 a b := by
  unfold fit2; omega

theorem ends_17 (n : NT) (σ : Store) : HCall Tryz.prog 17 [ntHV n] σ (fun e σ' => e = textEnd n ∧ σ' = σ) := hcall_of_tree (R := fun e => e = textEnd n) VS_ok sums3S_ok rfl (by
  show goal17 n.so n.ki n.nu n.lk n.la n.lh n.cn n.cf n.ct n.ch n.ca n.cb n.ek n.ea n.er (lf _)
  rw [t17]
  show br (formedN n) _ _
  rw [br_iff]
  refine ⟨fun h => ?_, fun h => ?_⟩
  · have hmax := nums_max h
    have hend : textEnd n = .returned (.tuple [.str (textN n), .int .i64 0]) := by unfold textEnd; rw [h]
    rw [hend]
    have l0 := putB_length n.ki
    have l1 := putB_length n.nu
    have l2 := putB_length n.lk
    have l3 := putB_length n.la
    have l4 := putB_length n.lh
    have l5 := putB_length n.cf
    have l6 := putB_length n.ct
    have l7 := putB_length n.ch
    have l8 := putB_length n.ca
    have l9 := putB_length n.ek
    have l10 := putB_length n.ea
    have l11 := putB_length n.er
    have l12 := putB_length 0
    have l13 := putB_length 1
    obtain ⟨_, h2, h3⟩ := formedQ_iff.1 h
    rcases h3 with ⟨k, _, _, hl⟩ | ⟨k, _, _, _, hc⟩ | ⟨k, _, _, _, _, hc, he⟩
    · have e1 : eqQ n.ki 1 = true := by rw [k]; rfl
      rw [e1]
      rw [nums1 k] at hmax
      simp only [List.mem_cons, List.not_mem_nil, or_false, forall_eq_or_imp, forall_eq] at hmax
      obtain ⟨m0, m1, m2, m3, m4⟩ := hmax
      refine ⟨m0, fit_of ?_ ?_, m1, fit_of ?_ ?_, m2, fit_of ?_ ?_, m3, fit_of ?_ ?_, m4, fit_of ?_ ?_, rfl, ?_⟩
      all_goals first
        | omega
        | (simp only [List.length_append, List.length_nil]; omega)
        | (unfold textN; rw [nums1 k]; simp only [putL, List.nil_append, List.append_nil, List.append_assoc])
    · have e1 : eqQ n.ki 1 = false := by rw [k]; rfl
      have e2 : eqQ n.ki 2 = true := by rw [k]; rfl
      rw [e1, e2]
      rw [nums2 k] at hmax
      simp only [List.mem_cons, List.not_mem_nil, or_false, forall_eq_or_imp, forall_eq] at hmax
      obtain ⟨m0, m1, m2, m3, m4, m5, m6⟩ := hmax
      show br n.cb _ _
      rw [br_iff]
      refine ⟨fun hb => ?_, fun hb => ?_⟩
      all_goals
        refine ⟨m0, fit_of ?_ ?_, m1, fit_of ?_ ?_, m2, fit_of ?_ ?_, m3, fit_of ?_ ?_, m4, fit_of ?_ ?_, m5, fit_of ?_ ?_, maxI_of ⟨by decide, by decide⟩, fit_of ?_ ?_, rfl, ?_⟩
        all_goals first
          | omega
          | (simp only [List.length_append, List.length_nil]; omega)
          | (unfold textN; rw [nums2 k, hb]; simp only [putL, List.nil_append, List.append_nil, List.append_assoc, if_true, Bool.false_eq_true, if_false])
    · have e1 : eqQ n.ki 1 = false := by rw [k]; rfl
      have e2 : eqQ n.ki 2 = false := by rw [k]; rfl
      rw [e1, e2]
      rw [nums3 k] at hmax
      simp only [List.mem_cons, List.not_mem_nil, or_false, forall_eq_or_imp, forall_eq] at hmax
      obtain ⟨m0, m1, m2, m3, m4, m5, m6, m7⟩ := hmax
      refine ⟨m0, fit_of ?_ ?_, m1, fit_of ?_ ?_, m2, fit_of ?_ ?_, m3, fit_of ?_ ?_, m4, fit_of ?_ ?_, m5, fit_of ?_ ?_, m6, fit_of ?_ ?_, m7, fit_of ?_ ?_, rfl, ?_⟩
      all_goals first
        | omega
        | (simp only [List.length_append, List.length_nil]; omega)
        | (unfold textN; rw [nums3 k]; simp only [putL, List.nil_append, List.append_nil, List.append_assoc])
  · have hend : textEnd n = textErr := by unfold textEnd; rw [h]
    rw [hend]
    exact ⟨rfl, rfl⟩) σ

/-! ### Read -/
/-- What a text says. -/
def Said (so : Int) (s : List UInt8) (n : NT) : Prop := n.so = so ∧ formedN n = true ∧ textN n = s

def zeroN : HV := .agg [.int .i64 0, .int .i64 0, .int .i64 0, .int .i64 0, .int .i64 0, .int .i64 0, .int .i64 0, .int .i64 0, .int .i64 0, .int .i64 0, .int .i64 0, .bool false, .int .i64 0, .int .i64 0, .int .i64 0]
def readErr : HEnd := .returned (.tuple [zeroN, .int .i64 430])
def ReadOut (so : Int) (s : List UInt8) (e : HEnd) : Prop := (∃ n, Said so s n ∧ e = .returned (.tuple [ntHV n, .int .i64 0])) ∨ ((¬ ∃ n, Said so s n) ∧ e = readErr)

theorem errLeaf {so : Int} {s : List UInt8} (h : ∀ n, Said so s n → False) : lf (ReadOut so s) readErr := ⟨rfl, .inr ⟨fun ⟨n, hn⟩ => h n hn, rfl⟩⟩

theorem Got.next {s : List UInt8} {xs : List Int} {k : Nat} (h : Got s xs (pos s k)) (hk : okQ s (pos s k) = true) : Got s (xs ++ [numQ s (pos s k)]) (pos s (k + 1)) := h.step hk
theorem nodeR {s : List UInt8} {xs : List Int} {k : Nat} {E X : Prop} (g : Got s xs (pos s k)) (hs : s.length < 4611686018427387904) (he : okQ s (pos s k) = false → E) (hx : okQ s (pos s k) = true → Got s (xs ++ [numQ s (pos s k)]) (pos s (k + 1)) → X) : inS s (pos s k) ∧ br (okQ s (pos s k)) E X :=
  ⟨g.inS hs, br_iff.2 ⟨fun h => hx h (g.next h), he⟩⟩
theorem nodeB {b : Bool} {E X : Prop} (he : b = false → E) (hx : b = true → X) : br b E X := br_iff.2 ⟨hx, he⟩

theorem said_at {so : Int} {s : List UInt8} {n : NT} (h : Said so s n) {i : Nat} {x : Int} (hi : (numsN n)[i]? = some x) : okQ s (pos s i) = true ∧ numQ s (pos s i) = x := by
  obtain ⟨hlt, hx⟩ := List.getElem?_eq_some_iff.1 hi
  have := chain_all (nums_max h.2.1) h.2.2.symm i hlt
  rw [hx] at this
  exact this
theorem said_end {so : Int} {s : List UInt8} {n : NT} (h : Said so s n) {k : Nat} (hk : (numsN n).length = k) (h0 : 0 < k) : pos s k = (s.length : Int) := by
  rw [← hk]
  exact chain_end (nums_max h.2.1) h.2.2.symm (by omega)

theorem said_kind {so : Int} {s : List UInt8} {n : NT} (h : Said so s n) : (okQ s (pos s 0) = true ∧ numQ s (pos s 0) = n.ki) ∧ (okQ s (pos s 1) = true ∧ numQ s (pos s 1) = n.nu) ∧ (n.ki = 1 ∨ n.ki = 2 ∨ n.ki = 3) := by
  obtain ⟨_, _, h3⟩ := formedQ_iff.1 h.2.1
  rcases h3 with ⟨k, _⟩ | ⟨k, _⟩ | ⟨k, _⟩
  · exact ⟨said_at h (by rw [nums1 k]; rfl), said_at h (by rw [nums1 k]; rfl), .inl k⟩
  · exact ⟨said_at h (by rw [nums2 k]; rfl), said_at h (by rw [nums2 k]; rfl), .inr (.inl k)⟩
  · exact ⟨said_at h (by rw [nums3 k]; rfl), said_at h (by rw [nums3 k]; rfl), .inr (.inr k)⟩

end
end Go.HI

/- carrier.Read returns the notice whose text it is, if there is one. -/
namespace Go.HI
open Go Go.Proofs
noncomputable section

variable {so : Int} {s : List UInt8}

theorem said1 {n : NT} (h : Said so s n) (hk : numQ s (pos s 0) = 1) : okQ s (pos s 2) = true ∧ okQ s (pos s 3) = true ∧ okQ s (pos s 4) = true ∧ pos s 5 = (s.length : Int) ∧
    n = ⟨so, numQ s (pos s 0), numQ s (pos s 1), numQ s (pos s 2), numQ s (pos s 3), numQ s (pos s 4), 0, 0, 0, 0, 0, false, 0, 0, 0⟩ := by
  obtain ⟨⟨_, k0⟩, ⟨_, k1⟩, _⟩ := said_kind h
  have k : n.ki = 1 := by rw [← k0]; exact hk
  have a2 := said_at h (i := 2) (x := n.lk) (by rw [nums1 k]; rfl)
  have a3 := said_at h (i := 3) (x := n.la) (by rw [nums1 k]; rfl)
  have a4 := said_at h (i := 4) (x := n.lh) (by rw [nums1 k]; rfl)
  refine ⟨a2.1, a3.1, a4.1, said_end h (by rw [nums1 k]; rfl) (by decide), ?_⟩
  rw [k0, k1, a2.2, a3.2, a4.2, ← h.1]
  obtain ⟨_, _, h3⟩ := formedQ_iff.1 h.2.1
  rcases h3 with ⟨_, ⟨c1, c2, c3, c4, c5, c6⟩, ⟨e1, e2, e3⟩, _⟩ | ⟨k', _⟩ | ⟨k', _⟩
  · cases n
    simp only at c1 c2 c3 c4 c5 c6 e1 e2 e3 ⊢
    subst c1 c2 c3 c4 c5 c6 e1 e2 e3
    rfl
  · omega
  · omega

theorem said2 {n : NT} (h : Said so s n) (hk : numQ s (pos s 0) = 2) : okQ s (pos s 2) = true ∧ okQ s (pos s 3) = true ∧ okQ s (pos s 4) = true ∧ okQ s (pos s 5) = true ∧ okQ s (pos s 6) = true ∧ inQ (numQ s (pos s 6)) 0 1 = true ∧ pos s 7 = (s.length : Int) ∧
    n = ⟨so, numQ s (pos s 0), numQ s (pos s 1), 0, 0, 0, numQ s (pos s 1), numQ s (pos s 2), numQ s (pos s 3), numQ s (pos s 4), numQ s (pos s 5), eqQ (numQ s (pos s 6)) 1, 0, 0, 0⟩ := by
  obtain ⟨⟨_, k0⟩, ⟨_, k1⟩, _⟩ := said_kind h
  have k : n.ki = 2 := by rw [← k0]; exact hk
  have a2 := said_at h (i := 2) (x := n.cf) (by rw [nums2 k]; rfl)
  have a3 := said_at h (i := 3) (x := n.ct) (by rw [nums2 k]; rfl)
  have a4 := said_at h (i := 4) (x := n.ch) (by rw [nums2 k]; rfl)
  have a5 := said_at h (i := 5) (x := n.ca) (by rw [nums2 k]; rfl)
  have a6 := said_at h (i := 6) (x := if n.cb then 1 else 0) (by rw [nums2 k]; rfl)
  refine ⟨a2.1, a3.1, a4.1, a5.1, a6.1, ?_, said_end h (by rw [nums2 k]; rfl) (by decide), ?_⟩
  · rw [a6.2, inQ_iff]
    split <;> omega
  · rw [k0, k1, a2.2, a3.2, a4.2, a5.2, a6.2, ← h.1]
    obtain ⟨_, _, h3⟩ := formedQ_iff.1 h.2.1
    rcases h3 with ⟨k', _⟩ | ⟨_, ⟨l1, l2, l3⟩, ⟨e1, e2, e3⟩, c1, _⟩ | ⟨k', _⟩
    · omega
    · have hcb : eqQ (if n.cb then 1 else 0) 1 = n.cb := by cases n.cb <;> rfl
      rw [hcb]
      cases n
      simp only at l1 l2 l3 e1 e2 e3 c1 ⊢
      subst l1 l2 l3 e1 e2 e3 c1
      rfl
    · omega

theorem said3 {n : NT} (h : Said so s n) (h1 : numQ s (pos s 0) ≠ 1) (h2 : numQ s (pos s 0) ≠ 2) : okQ s (pos s 2) = true ∧ okQ s (pos s 3) = true ∧ okQ s (pos s 4) = true ∧ okQ s (pos s 5) = true ∧ okQ s (pos s 6) = true ∧ okQ s (pos s 7) = true ∧ pos s 8 = (s.length : Int) ∧
    n = ⟨so, numQ s (pos s 0), numQ s (pos s 1), 0, 0, 0, numQ s (pos s 1), numQ s (pos s 2), numQ s (pos s 3), 0, numQ s (pos s 4), false, numQ s (pos s 5), numQ s (pos s 6), numQ s (pos s 7)⟩ := by
  obtain ⟨⟨_, k0⟩, ⟨_, k1⟩, hk⟩ := said_kind h
  rw [k0] at h1 h2
  have k : n.ki = 3 := by omega
  have a2 := said_at h (i := 2) (x := n.cf) (by rw [nums3 k]; rfl)
  have a3 := said_at h (i := 3) (x := n.ct) (by rw [nums3 k]; rfl)
  have a4 := said_at h (i := 4) (x := n.ca) (by rw [nums3 k]; rfl)
  have a5 := said_at h (i := 5) (x := n.ek) (by rw [nums3 k]; rfl)
  have a6 := said_at h (i := 6) (x := n.ea) (by rw [nums3 k]; rfl)
  have a7 := said_at h (i := 7) (x := n.er) (by rw [nums3 k]; rfl)
  refine ⟨a2.1, a3.1, a4.1, a5.1, a6.1, a7.1, said_end h (by rw [nums3 k]; rfl) (by decide), ?_⟩
  rw [k0, k1, a2.2, a3.2, a4.2, a5.2, a6.2, a7.2, ← h.1]
  obtain ⟨_, _, h3⟩ := formedQ_iff.1 h.2.1
  rcases h3 with ⟨k', _⟩ | ⟨k', _⟩ | ⟨_, ⟨l1, l2, l3⟩, c1, c2, c3, _⟩
  · omega
  · omega
  · cases n
    simp only at l1 l2 l3 c1 c2 c3 ⊢
    subst l1 l2 l3 c1 c2 c3
    rfl

theorem ff {b : Bool} (h1 : b = true) (h2 : b = false) : False := by rw [h1] at h2; cases h2
theorem eqQ_true {a b : Int} (h : eqQ a b = true) : a = b := by rw [eqQ_eq] at h; simpa using h
theorem eqQ_of {a b : Int} (h : a = b) : eqQ a b = true := by rw [eqQ_eq]; simpa using h
theorem eqQ_ne {a b : Int} (h : eqQ a b = false) : a ≠ b := fun e => ff (eqQ_of e) h

theorem formedN_mk {so ki nu lk la lh cn cf ct ch ca : Int} {cb : Bool} {ek ea er : Int} : formedN ⟨so, ki, nu, lk, la, lh, cn, cf, ct, ch, ca, cb, ek, ea, er⟩ = formedQ so ki nu lk la lh cn cf ct ch ca cb ek ea er := rfl
theorem ntHV_mk {so ki nu lk la lh cn cf ct ch ca : Int} {cb : Bool} {ek ea er : Int} : ntHV ⟨so, ki, nu, lk, la, lh, cn, cf, ct, ch, ca, cb, ek, ea, er⟩ = .agg [.int .i64 so, .int .i64 ki, .int .i64 nu, .int .i64 lk, .int .i64 la, .int .i64 lh, .int .i64 cn, .int .i64 cf, .int .i64 ct, .int .i64 ch, .int .i64 ca, .bool cb, .int .i64 ek, .int .i64 ea, .int .i64 er] := rfl
theorem text1_mk {so ki nu lk la lh cn cf ct ch ca : Int} {cb : Bool} {ek ea er : Int} (h : ki = 1) : textN ⟨so, ki, nu, lk, la, lh, cn, cf, ct, ch, ca, cb, ek, ea, er⟩ = putL [ki, nu, lk, la, lh] := congrArg putL (nums1 (n := ⟨so, ki, nu, lk, la, lh, cn, cf, ct, ch, ca, cb, ek, ea, er⟩) h)
theorem text2_mk {so ki nu lk la lh cn cf ct ch ca : Int} {cb : Bool} {ek ea er : Int} (h : ki = 2) : textN ⟨so, ki, nu, lk, la, lh, cn, cf, ct, ch, ca, cb, ek, ea, er⟩ = putL [ki, nu, cf, ct, ch, ca, if cb then 1 else 0] := congrArg putL (nums2 (n := ⟨so, ki, nu, lk, la, lh, cn, cf, ct, ch, ca, cb, ek, ea, er⟩) h)
theorem text3_mk {so ki nu lk la lh cn cf ct ch ca : Int} {cb : Bool} {ek ea er : Int} (h : ki = 3) : textN ⟨so, ki, nu, lk, la, lh, cn, cf, ct, ch, ca, cb, ek, ea, er⟩ = putL [ki, nu, cf, ct, ca, ek, ea, er] := congrArg putL (nums3 (n := ⟨so, ki, nu, lk, la, lh, cn, cf, ct, ch, ca, cb, ek, ea, er⟩) h)
theorem noForm {n m : NT} (hn : Said so s n) (e : n = m) {b : Bool} (hb : formedN m = b) (h : b = false) : False := by
  rw [e] at hn
  have := hn.2.1
  rw [hb, h] at this
  cases this

/-- The leaf at which a notice is read. -/
theorem okLeaf (n : NT) (h : Said so s n) {e : HEnd} (he : e = .returned (.tuple [ntHV n, .int .i64 0])) : lf (ReadOut so s) e := by
  subst he
  exact ⟨rfl, .inl ⟨n, h, rfl⟩⟩

set_option maxHeartbeats 400000 in
theorem ends_19 (hs : s.length < 4611686018427387904) (σ : Store) : HCall Tryz.prog 19 [.int .i64 so, .str s] σ (fun e σ' => ReadOut so s e ∧ σ' = σ) := hcall_of_tree (R := ReadOut so s) VS_ok sums4S_ok rfl (by
  show goal19 so s (lf (ReadOut so s))
  rw [t19]
  refine nodeR (k := 0) (xs := []) (Got.start s) hs (fun h => errLeaf fun n hn => ff (said_kind hn).1.1 h) fun _ (g1 : Got s [numQ s (pos s 0)] (pos s 1)) => ?_
  refine nodeR (k := 1) (xs := [numQ s (pos s 0)]) g1 hs (fun h => errLeaf fun n hn => ff (said_kind hn).2.1.1 h) fun _ (g2 : Got s [numQ s (pos s 0), numQ s (pos s 1)] (pos s 2)) => ?_
  refine nodeB (fun h1 => ?_) (fun h1 => ?_)
  · have h1 := eqQ_ne h1
    refine nodeB (fun h2 => ?_) (fun h2 => ?_)
    · have h2 := eqQ_ne h2
      obtain ⟨D, hD⟩ : ∃ D, D = eqQ (pos s 8) (s.length : Int) := ⟨_, rfl⟩
      rw [← hD]
      obtain ⟨F, hF⟩ : ∃ F, F = formedQ so (numQ s (pos s 0)) (numQ s (pos s 1)) 0 0 0 (numQ s (pos s 1)) (numQ s (pos s 2)) (numQ s (pos s 3)) 0 (numQ s (pos s 4)) false (numQ s (pos s 5)) (numQ s (pos s 6)) (numQ s (pos s 7)) := ⟨_, rfl⟩
      rw [← hF]
      refine nodeR (k := 2) (xs := [numQ s (pos s 0), numQ s (pos s 1)]) g2 hs (fun h => errLeaf fun n hn => ff (said3 hn h1 h2).1 h) fun _ (g3 : Got s [numQ s (pos s 0), numQ s (pos s 1), numQ s (pos s 2)] (pos s 3)) => ?_
      refine nodeR (k := 3) (xs := [numQ s (pos s 0), numQ s (pos s 1), numQ s (pos s 2)]) g3 hs (fun h => errLeaf fun n hn => ff (said3 hn h1 h2).2.1 h) fun _ (g4 : Got s [numQ s (pos s 0), numQ s (pos s 1), numQ s (pos s 2), numQ s (pos s 3)] (pos s 4)) => ?_
      refine nodeR (k := 4) (xs := [numQ s (pos s 0), numQ s (pos s 1), numQ s (pos s 2), numQ s (pos s 3)]) g4 hs (fun h => errLeaf fun n hn => ff (said3 hn h1 h2).2.2.1 h) fun _ (g5 : Got s [numQ s (pos s 0), numQ s (pos s 1), numQ s (pos s 2), numQ s (pos s 3), numQ s (pos s 4)] (pos s 5)) => ?_
      refine nodeR (k := 5) (xs := [numQ s (pos s 0), numQ s (pos s 1), numQ s (pos s 2), numQ s (pos s 3), numQ s (pos s 4)]) g5 hs (fun h => errLeaf fun n hn => ff (said3 hn h1 h2).2.2.2.1 h) fun _ (g6 : Got s [numQ s (pos s 0), numQ s (pos s 1), numQ s (pos s 2), numQ s (pos s 3), numQ s (pos s 4), numQ s (pos s 5)] (pos s 6)) => ?_
      refine nodeR (k := 6) (xs := [numQ s (pos s 0), numQ s (pos s 1), numQ s (pos s 2), numQ s (pos s 3), numQ s (pos s 4), numQ s (pos s 5)]) g6 hs (fun h => errLeaf fun n hn => ff (said3 hn h1 h2).2.2.2.2.1 h) fun _ (g7 : Got s [numQ s (pos s 0), numQ s (pos s 1), numQ s (pos s 2), numQ s (pos s 3), numQ s (pos s 4), numQ s (pos s 5), numQ s (pos s 6)] (pos s 7)) => ?_
      refine nodeR (k := 7) (xs := [numQ s (pos s 0), numQ s (pos s 1), numQ s (pos s 2), numQ s (pos s 3), numQ s (pos s 4), numQ s (pos s 5), numQ s (pos s 6)]) g7 hs (fun h => errLeaf fun n hn => ff (said3 hn h1 h2).2.2.2.2.2.1 h) fun _ (g8 : Got s [numQ s (pos s 0), numQ s (pos s 1), numQ s (pos s 2), numQ s (pos s 3), numQ s (pos s 4), numQ s (pos s 5), numQ s (pos s 6), numQ s (pos s 7)] (pos s 8)) => ?_
      refine nodeB (fun h => errLeaf fun n hn => ff (hD.trans (eqQ_of (said3 hn h1 h2).2.2.2.2.2.2.1)) h) fun he => ?_
      refine nodeB (fun h => errLeaf fun n hn => noForm hn (said3 hn h1 h2).2.2.2.2.2.2.2 (formedN_mk.trans hF.symm) h) fun hf => ?_
      rw [hF] at hf
      · obtain ⟨_, _, h3⟩ := formedQ_iff.1 hf
        rcases h3 with ⟨k, _⟩ | ⟨k, _⟩ | ⟨k, _⟩
        · exact absurd k h1
        · exact absurd k h2
        · refine okLeaf ⟨so, numQ s (pos s 0), numQ s (pos s 1), 0, 0, 0, numQ s (pos s 1), numQ s (pos s 2), numQ s (pos s 3), 0, numQ s (pos s 4), false, numQ s (pos s 5), numQ s (pos s 6), numQ s (pos s 7)⟩ ⟨rfl, formedN_mk.trans hf, ?_⟩ (by rw [ntHV_mk])
          exact (text3_mk k).trans (g8.whole (eqQ_true (hD.symm.trans he))).symm
    · have h2 := eqQ_true h2
      obtain ⟨C, hC⟩ : ∃ C, C = eqQ (numQ s (pos s 6)) 1 := ⟨_, rfl⟩
      rw [← hC]
      obtain ⟨I, hI⟩ : ∃ I, I = inQ (numQ s (pos s 6)) 0 1 := ⟨_, rfl⟩
      rw [← hI]
      obtain ⟨D, hD⟩ : ∃ D, D = eqQ (pos s 7) (s.length : Int) := ⟨_, rfl⟩
      rw [← hD]
      obtain ⟨F, hF⟩ : ∃ F, F = formedQ so (numQ s (pos s 0)) (numQ s (pos s 1)) 0 0 0 (numQ s (pos s 1)) (numQ s (pos s 2)) (numQ s (pos s 3)) (numQ s (pos s 4)) (numQ s (pos s 5)) false 0 0 0 := ⟨_, rfl⟩
      rw [← hF]
      obtain ⟨G, hG⟩ : ∃ G, G = formedQ so (numQ s (pos s 0)) (numQ s (pos s 1)) 0 0 0 (numQ s (pos s 1)) (numQ s (pos s 2)) (numQ s (pos s 3)) (numQ s (pos s 4)) (numQ s (pos s 5)) true 0 0 0 := ⟨_, rfl⟩
      rw [← hG]
      refine nodeR (k := 2) (xs := [numQ s (pos s 0), numQ s (pos s 1)]) g2 hs (fun h => errLeaf fun n hn => ff (said2 hn h2).1 h) fun _ (g3 : Got s [numQ s (pos s 0), numQ s (pos s 1), numQ s (pos s 2)] (pos s 3)) => ?_
      refine nodeR (k := 3) (xs := [numQ s (pos s 0), numQ s (pos s 1), numQ s (pos s 2)]) g3 hs (fun h => errLeaf fun n hn => ff (said2 hn h2).2.1 h) fun _ (g4 : Got s [numQ s (pos s 0), numQ s (pos s 1), numQ s (pos s 2), numQ s (pos s 3)] (pos s 4)) => ?_
      refine nodeR (k := 4) (xs := [numQ s (pos s 0), numQ s (pos s 1), numQ s (pos s 2), numQ s (pos s 3)]) g4 hs (fun h => errLeaf fun n hn => ff (said2 hn h2).2.2.1 h) fun _ (g5 : Got s [numQ s (pos s 0), numQ s (pos s 1), numQ s (pos s 2), numQ s (pos s 3), numQ s (pos s 4)] (pos s 5)) => ?_
      refine nodeR (k := 5) (xs := [numQ s (pos s 0), numQ s (pos s 1), numQ s (pos s 2), numQ s (pos s 3), numQ s (pos s 4)]) g5 hs (fun h => errLeaf fun n hn => ff (said2 hn h2).2.2.2.1 h) fun _ (g6 : Got s [numQ s (pos s 0), numQ s (pos s 1), numQ s (pos s 2), numQ s (pos s 3), numQ s (pos s 4), numQ s (pos s 5)] (pos s 6)) => ?_
      refine nodeR (k := 6) (xs := [numQ s (pos s 0), numQ s (pos s 1), numQ s (pos s 2), numQ s (pos s 3), numQ s (pos s 4), numQ s (pos s 5)]) g6 hs (fun h => errLeaf fun n hn => ff (said2 hn h2).2.2.2.2.1 h) fun _ (g7 : Got s [numQ s (pos s 0), numQ s (pos s 1), numQ s (pos s 2), numQ s (pos s 3), numQ s (pos s 4), numQ s (pos s 5), numQ s (pos s 6)] (pos s 7)) => ?_
      refine nodeB (fun h => errLeaf fun n hn => ff (hI.trans (said2 hn h2).2.2.2.2.2.1) h) fun hb => ?_
      have hb := inQ_iff.1 (hI.symm.trans hb)
      refine nodeB (fun h6 => ?_) (fun h6 => ?_)
      · refine nodeB (fun h => errLeaf fun n hn => ff (hD.trans (eqQ_of (said2 hn h2).2.2.2.2.2.2.1)) h) fun he => ?_
        refine nodeB (fun h => errLeaf fun n hn => noForm hn (by rw [← h6, hC]; exact (said2 hn h2).2.2.2.2.2.2.2) (formedN_mk.trans hF.symm) h) fun hf => ?_
        rw [hF] at hf
        · refine okLeaf ⟨so, numQ s (pos s 0), numQ s (pos s 1), 0, 0, 0, numQ s (pos s 1), numQ s (pos s 2), numQ s (pos s 3), numQ s (pos s 4), numQ s (pos s 5), false, 0, 0, 0⟩ ⟨rfl, formedN_mk.trans hf, ?_⟩ (by rw [ntHV_mk])
          refine (text2_mk h2).trans ?_
          have e6 : numQ s (pos s 6) = 0 := by
            have := eqQ_ne (hC.symm.trans h6)
            have h0 : 0 ≤ numQ s (pos s 6) ∧ numQ s (pos s 6) ≤ 1 := hb
            have h7 : numQ s (pos s 6) ≠ 1 := this
            omega
          have hw := g7.whole (eqQ_true (hD.symm.trans he))
          have hw : s = putL [numQ s (pos s 0), numQ s (pos s 1), numQ s (pos s 2), numQ s (pos s 3), numQ s (pos s 4), numQ s (pos s 5), numQ s (pos s 6)] := hw
          rw [e6] at hw
          exact hw.symm
      · refine nodeB (fun h => errLeaf fun n hn => ff (hD.trans (eqQ_of (said2 hn h2).2.2.2.2.2.2.1)) h) fun he => ?_
        refine nodeB (fun h => errLeaf fun n hn => noForm hn (by rw [← h6, hC]; exact (said2 hn h2).2.2.2.2.2.2.2) (formedN_mk.trans hG.symm) h) fun hf => ?_
        rw [hG] at hf
        · refine okLeaf ⟨so, numQ s (pos s 0), numQ s (pos s 1), 0, 0, 0, numQ s (pos s 1), numQ s (pos s 2), numQ s (pos s 3), numQ s (pos s 4), numQ s (pos s 5), true, 0, 0, 0⟩ ⟨rfl, formedN_mk.trans hf, ?_⟩ (by rw [ntHV_mk])
          refine (text2_mk h2).trans ?_
          have e6 : numQ s (pos s 6) = 1 := eqQ_true (hC.symm.trans h6)
          have hw : s = putL [numQ s (pos s 0), numQ s (pos s 1), numQ s (pos s 2), numQ s (pos s 3), numQ s (pos s 4), numQ s (pos s 5), numQ s (pos s 6)] := g7.whole (eqQ_true (hD.symm.trans he))
          rw [e6] at hw
          exact hw.symm
  · have h1 := eqQ_true h1
    obtain ⟨D, hD⟩ : ∃ D, D = eqQ (pos s 5) (s.length : Int) := ⟨_, rfl⟩
    rw [← hD]
    obtain ⟨F, hF⟩ : ∃ F, F = formedQ so (numQ s (pos s 0)) (numQ s (pos s 1)) (numQ s (pos s 2)) (numQ s (pos s 3)) (numQ s (pos s 4)) 0 0 0 0 0 false 0 0 0 := ⟨_, rfl⟩
    rw [← hF]
    refine nodeR (k := 2) (xs := [numQ s (pos s 0), numQ s (pos s 1)]) g2 hs (fun h => errLeaf fun n hn => ff (said1 hn h1).1 h) fun _ (g3 : Got s [numQ s (pos s 0), numQ s (pos s 1), numQ s (pos s 2)] (pos s 3)) => ?_
    refine nodeR (k := 3) (xs := [numQ s (pos s 0), numQ s (pos s 1), numQ s (pos s 2)]) g3 hs (fun h => errLeaf fun n hn => ff (said1 hn h1).2.1 h) fun _ (g4 : Got s [numQ s (pos s 0), numQ s (pos s 1), numQ s (pos s 2), numQ s (pos s 3)] (pos s 4)) => ?_
    refine nodeR (k := 4) (xs := [numQ s (pos s 0), numQ s (pos s 1), numQ s (pos s 2), numQ s (pos s 3)]) g4 hs (fun h => errLeaf fun n hn => ff (said1 hn h1).2.2.1 h) fun _ (g5 : Got s [numQ s (pos s 0), numQ s (pos s 1), numQ s (pos s 2), numQ s (pos s 3), numQ s (pos s 4)] (pos s 5)) => ?_
    refine nodeB (fun h => errLeaf fun n hn => ff (hD.trans (eqQ_of (said1 hn h1).2.2.2.1)) h) fun he => ?_
    refine nodeB (fun h => errLeaf fun n hn => noForm hn (said1 hn h1).2.2.2.2 (formedN_mk.trans hF.symm) h) fun hf => ?_
    rw [hF] at hf
    · refine okLeaf ⟨so, numQ s (pos s 0), numQ s (pos s 1), numQ s (pos s 2), numQ s (pos s 3), numQ s (pos s 4), 0, 0, 0, 0, 0, false, 0, 0, 0⟩ ⟨rfl, formedN_mk.trans hf, ?_⟩ (by rw [ntHV_mk])
      exact (text1_mk h1).trans (g5.whole (eqQ_true (hD.symm.trans he))).symm) σ

/-- A text says one notice alone. -/
theorem said_once {n m : NT} (h : Said so s n) (h' : Said so s m) : n = m := by
  by_cases h1 : numQ s (pos s 0) = 1
  · rw [(said1 h h1).2.2.2.2, (said1 h' h1).2.2.2.2]
  · by_cases h2 : numQ s (pos s 0) = 2
    · rw [(said2 h h2).2.2.2.2.2.2.2, (said2 h' h2).2.2.2.2.2.2.2]
    · rw [(said3 h h1 h2).2.2.2.2.2.2.2, (said3 h' h1 h2).2.2.2.2.2.2.2]

end
end Go.HI
