/-
  DERIVED: THE SHELF's CONTRACTS AT THIS DUMP, IN PLAIN WORDS (tools/lay-plain.mjs out of 'TryzShelf.lean', which tools/lay-shelf.mjs wrote): THE SAME DECLARATIONS UNDER THE SAME NAMES: 'import', 'namespace', 'open', 'def', 'theorem' AND NOTHING ELSE: no command of the shelf's: FOR A HAND-IN. Each laying: the table of numbers ('.._ren') and one theorem, a field a fact of the dump's own or the kernel's comparison; each contract: ONE APPLICATION.
-/
import Derived.Shelf.Strings.OnBuilder
import Derived.Test.YtoadhpnmbchgcaaGreatDoorProg
import Derived.Shelf.Strings.BuilderX
import Derived.Shelf.RegionOpenPlain
import Derived.Lib.Strings
import Derived.Lib.Slices
import Derived.Lib.Walk
import Derived.Lib.Builder
import Derived.Lib.AppendStr
import Derived.Lib.UnsafeStr
import Derived.Lib.MakeNoZero
import Derived.WalkKit
import Derived.Laws.Externs
import Derived.Laws.IdiomCopy
import Derived.Laws.BitsLemmas
import Derived.Test.YtoadhpnmbchgcaaGreatDoorC2
import Derived.LoopNIn
namespace Go.Proofs
open Go.Shelf
def Tryz.lays156_ren : Go.Shelf.Ren := ⟨fun | 156 => 264 | 165 => 293 | 166 => 213 | 169 => 215 | 240 => 252 | 241 => 314 | 276 => 286 | 277 => 323 | n => n, fun | 31 => 37 | 9 => 9 | 3 => 3 | 4 => 4 | 0 => 0 | 20 => 20 | 72 => 298 | 76 => 301 | 70 => 296 | 37 => 41 | 75 => 300 | 127 => 344 | 164 => 374 | 5 => 5 | 80 => 303 | n => n, fun | n => n⟩
theorem Tryz.lays156 : Go.Proofs.Lays.n156 Tryz.prog Tryz.lays156_ren := {
  mixed := by kernel_rfl
  f156 := Tryz.func264.trans (congrArg some (by kernel_rfl))
  f165 := Tryz.func293.trans (congrArg some (by kernel_rfl))
  f166 := Tryz.func213.trans (congrArg some (by kernel_rfl))
  f169 := Tryz.func215.trans (congrArg some (by kernel_rfl))
  f240 := Tryz.func252.trans (congrArg some (by kernel_rfl))
  f241 := Tryz.func314.trans (congrArg some (by kernel_rfl))
  f276 := Tryz.func286.trans (congrArg some (by kernel_rfl))
  f277 := Tryz.func323.trans (congrArg some (by kernel_rfl))
  t0 := Tryz.underlying0
  a0 := Tryz.isAgg0
  z0 := Tryz.sizeOf0
  v0 := Tryz.zeroValue0
  t3 := Tryz.underlying3
  a3 := Tryz.isAgg3
  z3 := Tryz.sizeOf3
  v3 := Tryz.zeroValue3
  t4 := Tryz.underlying4
  a4 := Tryz.isAgg4
  z4 := Tryz.sizeOf4
  v4 := Tryz.zeroValue4
  t9 := Tryz.underlying9
  a9 := Tryz.isAgg9
  z9 := Tryz.sizeOf9
  v9 := Tryz.zeroValue9
  t20 := Tryz.underlying20
  a20 := Tryz.isAgg20
  z20 := Tryz.sizeOf20
  v20 := Tryz.zeroValue20
  t31 := Tryz.underlying37
  a31 := Tryz.isAgg37
  z31 := Tryz.sizeOf37
  v31 := Tryz.zeroValue37
  t37 := Tryz.underlying41
  a37 := Tryz.isAgg41
  z37 := Tryz.sizeOf41
  v37 := Tryz.zeroValue41
  t70 := Tryz.underlying296
  a70 := Tryz.isAgg296
  z70 := Tryz.sizeOf296
  v70 := Tryz.zeroValue296
  t72 := Tryz.underlying298
  a72 := Tryz.isAgg298
  z72 := Tryz.sizeOf298
  v72 := Tryz.zeroValue298
  t75 := Tryz.underlying300
  a75 := Tryz.isAgg300
  z75 := Tryz.sizeOf300
  v75 := Tryz.zeroValue300
  t76 := Tryz.underlying301
  a76 := Tryz.isAgg301
  z76 := Tryz.sizeOf301
  v76 := Tryz.zeroValue301
  t127 := Tryz.underlying344
  a127 := Tryz.isAgg344
  z127 := Tryz.sizeOf344
  v127 := Tryz.zeroValue344
  t164 := Tryz.underlying374
  a164 := Tryz.isAgg374
  z164 := Tryz.sizeOf374
  v164 := Tryz.zeroValue374 }
theorem Tryz.Builder_Extra_156 : Builder.Extra Tryz.prog Tryz.lays156_ren := {
  sizeBuilder := by kernel_rfl
  liesBuilder := by kernel_rfl
  t5 := Tryz.underlying5
  a5 := Tryz.isAgg5
  z5 := Tryz.sizeOf5
  v5 := Tryz.zeroValue5
  infoByte := by kernel_rfl
  cellsByte := by kernel_rfl
  sizeByte := by kernel_rfl
  neB5 := by decide }
open Go.RowKit in
/-- No element: the empty string; the world is as it was. (Whatever the slice's address and capacity: a nil slice too.) (LAID: no walk: one application.) -/
theorem Tryz.strings_Join_none (a : Option Addr) (c : Nat) (sep : ByteArray) (w : World) :
    Calls Tryz.prog 264 #[.slice a 0 c, .string sep] w fun e w' => e = .returned (.string ⟨#[]⟩) ∧ w' = w := Any.strings_Join_none Tryz.lays156 Tryz.Builder_Extra_156 a c sep w
open Go.RowKit in
/-- strings.Join: "Join concatenates the elements of its first argument to create a single string. The separator string sep is placed between elements in the resulting string.": HOWEVER MANY ELEMENTS. Below the heap's end the world is as it was. (LAID: no walk: one application.) -/
theorem Tryz.strings_Join (bk o c : Nat) (xs : List ByteArray) (sep : ByteArray) (w : World) (hcells : ∀ (j : Nat) x, xs[j]? = some x → w.cell? ⟨bk, o + j, none⟩ = some (.string x)) (hbk : bk < w.heap.size) (hN : xs.length ≤ 140737488355328) (hcap : xs.length ≤ c) (hlen : (Lib.join (xs.map (·.data.toList)) sep.data.toList).length ≤ 140737488355328) :
    Calls Tryz.prog 264 #[.slice (some ⟨bk, o, none⟩) xs.length c, .string sep] w fun e w' => e = .returned (.string ⟨(Lib.join (xs.map (·.data.toList)) sep.data.toList).toArray⟩) ∧ Below w.heap.size w w' := Any.strings_Join Tryz.lays156 Tryz.Builder_Extra_156 bk o c xs sep w hcells hbk hN hcap hlen
theorem Tryz.lays166 : Lays.n166 Tryz.prog Tryz.lays156_ren := { Tryz.lays156 with }
theorem Tryz.lays169 : Lays.n169 Tryz.prog Tryz.lays156_ren := { Tryz.lays156 with }
open Go.RowKit in
/-- WriteString (laid by hand over Join's table). -/
theorem Tryz.Builder_WriteString (B b : Nat) (bs : List Value) (s : ByteArray) (w : World) (h : Lib.IsBuilder 298 5 B b bs w) (hlen : bs.length + s.size ≤ 140737488355328) (hBw : B ≤ w.heap.size) :
    Calls Tryz.prog 213 #[.pointer (some ⟨b, 0, none⟩), .string s] w fun e w' => e = .returned (.tuple #[.int .i64 s.size, .nilIface]) ∧ (Lib.BuilderAt 298 5 B b (.pointer (some ⟨b, 0, none⟩)) (bs ++ Lib.strCells s) w' ∧ Below B w w') := Any.Builder_WriteString Tryz.lays166 Tryz.Builder_Extra_156 B b bs s w h hlen hBw
open Go.RowKit in
/-- String (laid by hand over Join's table). -/
theorem Tryz.Builder_String_any (B b : Nat) (l : List UInt8) (w : World) (h : Lib.IsBuilder 298 5 B b (Lib.byteCells l) w) (hBw : B ≤ w.heap.size) :
    Calls Tryz.prog 215 #[.pointer (some ⟨b, 0, none⟩)] w fun e w' => e = .returned (.string ⟨l.toArray⟩) ∧ Below B w w' := Any.Builder_String_any Tryz.lays169 Tryz.Builder_Extra_156 B b l w h hBw
end Go.Proofs

/- strings.Builder, told exactly: WriteString at a fresh builder, String; what stands beside is as it was. -/
namespace Go.Proofs
open Go.Shelf Go.RowKit
variable {P : Program} {ρ : Ren}

/-- Behind a write at a fresh builder. -/
structure Wrote (T e : TypeId) (b : Nat) (s : ByteArray) (w w' : World) : Prop where
  os : w'.os = w.os
  tape : w'.tape = w.tape
  output : w'.output = w.output
  size : w.heap.size ≤ w'.heap.size
  block : ∀ k, k < w.heap.size → k ≠ b → w'.heap[k]? = w.heap[k]?
  owns : ∃ p v, w'.heap[b]? = some (.cells #[p, v] T (0, 0)) ∧ w'.ownsRow w.heap.size e 1 v s.size (Lib.strCells s)

set_option maxHeartbeats 1000000 in
set_option maxRecDepth 100000 in
theorem ws_fresh (L : Lays.n166 P ρ) (X : Builder.Extra P ρ) (b : Nat) (s : ByteArray) (w : World) (hb : w.heap[b]? = some (.cells #[.pointer none, .slice none 0 0] (ρ.t 72) (0, 0))) (hlen : s.size ≤ 140737488355328) :
    Calls P (ρ.f 166) #[.pointer (some ⟨b, 0, none⟩), .string s] w fun e w' => e = .returned (.tuple #[.int .i64 s.size, .nilIface]) ∧ Wrote (ρ.t 72) (ρ.t 5) b s w w' := by
  obtain ⟨i0, hi, hz0, hz1, hz2⟩ := info_parts X.infoByte
  have mixed := L.mixed
  have t72 := L.t72; have a72 := L.a72; have z72 := L.z72; have v72 := L.v72; have u72 := run_underlying L.t72
  have t70 := L.t70; have a70 := L.a70; have z70 := L.z70; have v70 := L.v70; have u70 := run_underlying L.t70
  have t37 := L.t37; have a37 := L.a37; have z37 := L.z37; have v37 := L.v37; have u37 := run_underlying L.t37
  have t3 := L.t3; have a3 := L.a3; have z3 := L.z3; have v3 := L.v3; have u3 := run_underlying L.t3
  have t9 := L.t9; have a9 := L.a9; have z9 := L.z9; have v9 := L.v9; have u9 := run_underlying L.t9
  have t4 := L.t4; have a4 := L.a4; have z4 := L.z4; have v4 := L.v4; have u4 := run_underlying L.t4
  have t164 := L.t164; have a164 := L.a164; have z164 := L.z164; have v164 := L.v164; have u164 := run_underlying L.t164
  have t5 := X.t5; have a5 := X.a5; have z5 := X.z5; have v5 := X.v5; have u5 := run_underlying X.t5
  have e240 : ∀ args w, (callFunc (ρ.f 240) args).run P w = .ok (.enter (ρ.f 240) args) w := enters_of L.f240 (by kernel_rfl) rfl
  have hlt : b < w.heap.size := by
    rcases Nat.lt_or_ge b w.heap.size with h' | h'
    · exact h'
    · simp [Array.getElem?_eq_none h'] at hb
  have hshape : w.shape? b = some ((ρ.t 72), 2) := by simp [World.shape?, hb]
  have hfr : w.frozen? ⟨b, 0, none⟩ = false := by simp [World.frozen?, hb]
  have hc0 : w.cell? ⟨b, 0, none⟩ = some (.pointer none) := by rw [Lib.cell_of_heap hb]; rfl
  go_enter L.f166, Body.n166_ntmps ρ
  go_wp2_with (go_at_fn (ρ.f 240); refine (Any.Builder_copyCheck_fresh { L with } X.toX72 b _ hc0 hshape hfr).mono ?_)
  rintro e w1 ⟨rfl, hw1⟩
  have hs1 : w1.heap.size = w.heap.size := by rw [hw1]; simp [World.setCell]
  have hbk : w1.heap[b]? = some (.cells #[.pointer (some ⟨b, 0, none⟩), .slice none 0 0] (ρ.t 72) (0, 0)) := by
    rw [hw1]; simp [World.setCell, Array.getElem?_modify, hb]
  have hk1 : ∀ k, k ≠ b → w1.heap[k]? = w.heap[k]? := fun k hk => by rw [hw1]; exact Below.heap_setCell _ _ _ _ hk
  have ho1 : w1.os = w.os := by rw [hw1]; rfl
  have ht1 : w1.tape = w.tape := by rw [hw1]; rfl
  have hp1 : w1.output = w.output := by rw [hw1]; rfl
  have c0 : w1.cell? ⟨b, 0, none⟩ = some (.pointer (some ⟨b, 0, none⟩)) := by rw [Lib.cell_of_heap hbk]; rfl
  have c1 : w1.cell? ⟨b, 1, none⟩ = some (.slice none 0 0) := by rw [Lib.cell_of_heap hbk]; rfl
  clear hw1
  have hown : w1.ownsRow w.heap.size (ρ.t 5) 1 (.slice none 0 0) 0 [] := ⟨rfl, .inl ⟨rfl, rfl⟩⟩
  go_wp2_with (at_builtin; refine Lib.wpList_append_own_string _ rfl _ _ (ρ.t 37) (ρ.t 9) rfl w.heap.size (ρ.t 5) i0 L.t37 L.t9 hi hz0 hz1 hz2 _ _ _ rfl hown s rfl ?c3 ?c4 ?c5 ?_)
  case c3 => unfold maxLen; omega
  case c4 => omega
  case c5 => omega
  intro v' w2 hown' hgrow _
  have hb2 : w2.heap[b]? = some (.cells #[.pointer (some ⟨b, 0, none⟩), .slice none 0 0] (ρ.t 72) (0, 0)) := by
    rw [hgrow.block b (by omega) (by simp [Value.ownBlock])]
    exact hbk
  have d0 : w2.cell? ⟨b, 0, none⟩ = some (.pointer (some ⟨b, 0, none⟩)) := by rw [Lib.cell_of_heap hb2]; rfl
  have d1 : w2.cell? ⟨b, 1, none⟩ = some (.slice none 0 0) := by rw [Lib.cell_of_heap hb2]; rfl
  have f1 : w2.frozen? ⟨b, 1, none⟩ = false := Lib.frozen_of_heap hb2 1
  obtain ⟨ao, n', cap, rfl⟩ : ∃ ao n' cap, v' = .slice ao n' cap := by
    rcases hown'.2 with ⟨hv, _⟩ | ⟨g, cap, cur, hv, _⟩
    · exact ⟨_, _, _, hv⟩
    · exact ⟨_, _, _, hv⟩
  go_wp2
  go_ret2
  refine ⟨rfl, hgrow.os.trans ho1, hgrow.tape.trans ht1, hgrow.output.trans hp1, ?_, ?_, ?_⟩
  · have := hgrow.size
    simp [World.setCell]
    omega
  · intro k hk hne
    rw [Below.heap_setCell _ _ _ _ hne, hgrow.block k (by omega) (by simp [Value.ownBlock]), hk1 k hne]
  · refine ⟨.pointer (some ⟨b, 0, none⟩), .slice ao n' cap, by simp [World.setCell, Array.getElem?_modify, hb2], ?_⟩
    have hr := hown'
    refine hr.kept (row := some b) ⟨rfl, rfl, rfl, by simp [World.setCell], fun k _ hk => Below.heap_setCell _ _ _ _ (fun e => hk (by simp [e]))⟩ ?_
    refine .inr fun e => ?_
    have := (hr.lt b e).1
    omega

set_option maxHeartbeats 1000000 in
set_option maxRecDepth 100000 in
theorem st_exact (L : Lays.n169 P ρ) (X : Builder.Extra P ρ) (b : Nat) (p v : Value) (l : List UInt8) (w : World) (B : Nat) (hbk : w.heap[b]? = some (.cells #[p, v] (ρ.t 72) (0, 0))) (hown : w.ownsRow B (ρ.t 5) 1 v l.length (Lib.byteCells l)) (h0 : l ≠ []) :
    Calls P (ρ.f 169) #[.pointer (some ⟨b, 0, none⟩)] w fun e w' => e = .returned (.string ⟨l.toArray⟩) ∧ ∃ g, v.ownBlock = some g ∧ w' = w.drew.freeze ⟨g, 0, none⟩ l.length := by
  have hl0 : l.length ≠ 0 := by simpa using h0
  obtain ⟨g, cap, cur, rfl, hbg, hg, hnc, hcm, hcs, htake⟩ : ∃ g cap cur, v = .slice (some ⟨g, 0, none⟩) l.length cap ∧ B ≤ g ∧ w.heap[g]? = some (.cells cur (ρ.t 5) (0, 0)) ∧ l.length ≤ cap ∧ cap ≤ maxLen ∧ cur.size = cap * 1 ∧ cur.toList.take (l.length * 1) = Lib.byteCells l := by
    rcases hown.2 with ⟨_, hz⟩ | ⟨g, cap, cur, hv, r⟩
    · exact absurd hz hl0
    · exact ⟨g, cap, cur, hv, r⟩
  have c1 : w.drew.cell? ⟨b, 1, none⟩ = some (.slice (some ⟨g, 0, none⟩) l.length cap) := by
    have : w.drew.heap[b]? = some (.cells #[p, .slice (some ⟨g, 0, none⟩) l.length cap] (ρ.t 72) (0, 0)) := hbk
    rw [Lib.cell_of_heap this]; rfl
  have hSD : (Builtin.unsafeSliceData_ #[(ρ.t 37)] (ρ.t 127) #[.slice (some ⟨g, 0, none⟩) l.length cap]).run P w.drew = .ok (.pointer (some ⟨g, 0, none⟩)) w.drew :=
    Lib.run_unsafeSliceData_row _ _ _ _ _ _ (by omega)
  have hUS : (Builtin.unsafeString_ #[(ρ.t 127), (ρ.t 3)] (ρ.t 9) #[.pointer (some ⟨g, 0, none⟩), .int .i64 l.length]).run P w.drew = .ok (.string ⟨l.toArray⟩) (w.drew.freeze ⟨g, 0, none⟩ l.length) := by
    refine Lib.run_unsafeString_row w.drew (ρ.t 127) (ρ.t 3) (ρ.t 9) (ρ.t 5) L.t127 X.cellsByte g cur.size (by have hg' : w.drew.heap[g]? = some (.cells cur (ρ.t 5) (0, 0)) := hg; simp [World.shape?, hg']) l h0 (by omega) (by unfold maxLen at hcm; omega) ?_
    intro j x hx
    have := hown.cells (g := g) rfl j (.int .u8 x.toNat) (by simp [Lib.byteCells, hx])
    exact this
  have mixed := L.mixed
  have t72 := L.t72; have a72 := L.a72; have z72 := L.z72; have v72 := L.v72; have u72 := run_underlying L.t72
  have t70 := L.t70; have a70 := L.a70; have z70 := L.z70; have v70 := L.v70; have u70 := run_underlying L.t70
  have t37 := L.t37; have a37 := L.a37; have z37 := L.z37; have v37 := L.v37; have u37 := run_underlying L.t37
  have t127 := L.t127; have a127 := L.a127; have z127 := L.z127; have v127 := L.v127; have u127 := run_underlying L.t127
  have t3 := L.t3; have a3 := L.a3; have z3 := L.z3; have v3 := L.v3; have u3 := run_underlying L.t3
  have t9 := L.t9; have a9 := L.a9; have z9 := L.z9; have v9 := L.v9; have u9 := run_underlying L.t9
  have t5 := X.t5; have a5 := X.a5; have z5 := X.z5; have v5 := X.v5; have u5 := run_underlying X.t5
  go_enter L.f169, Body.n169_ntmps ρ
  go_wp2
  go_region_o
  all_goals (go_wp2; go_ret; exact ⟨rfl, g, rfl, rfl⟩)

/-- Freezing bytes turns no other block. -/
structure OneTurned (g : Nat) (w w' : World) : Prop where
  os : w'.os = w.os
  tape : w'.tape = w.tape
  output : w'.output = w.output
  size : w'.heap.size = w.heap.size
  block : ∀ k, k ≠ g → w'.heap[k]? = w.heap[k]?

theorem freeze_turned (w : World) (a : Addr) (n : Nat) : OneTurned a.block w (w.drew.freeze a n) := by
  unfold World.freeze
  split
  · exact ⟨rfl, rfl, rfl, rfl, fun _ _ => rfl⟩
  · refine ⟨rfl, rfl, rfl, by simp only [Array.size_modify]; rfl, fun k hk => ?_⟩
    simp only [Array.getElem?_modify]
    rw [if_neg (fun e => hk e.symm)]
    rfl

theorem Tryz.write_fresh (b : Nat) (s : ByteArray) (w : World) (hb : w.heap[b]? = some (.cells #[.pointer none, .slice none 0 0] 298 (0, 0))) (hlen : s.size ≤ 140737488355328) :
    Calls Tryz.prog 213 #[.pointer (some ⟨b, 0, none⟩), .string s] w fun e w' => e = .returned (.tuple #[.int .i64 s.size, .nilIface]) ∧ Wrote 298 5 b s w w' := ws_fresh Tryz.lays166 Tryz.Builder_Extra_156 b s w hb hlen

theorem Tryz.text_of (b : Nat) (p v : Value) (l : List UInt8) (w : World) (B : Nat) (hbk : w.heap[b]? = some (.cells #[p, v] 298 (0, 0))) (hown : w.ownsRow B 5 1 v l.length (Lib.byteCells l)) (h0 : l ≠ []) :
    Calls Tryz.prog 215 #[.pointer (some ⟨b, 0, none⟩)] w fun e w' => e = .returned (.string ⟨l.toArray⟩) ∧ ∃ g, v.ownBlock = some g ∧ w' = w.drew.freeze ⟨g, 0, none⟩ l.length := st_exact Tryz.lays169 Tryz.Builder_Extra_156 b p v l w B hbk hown h0

end Go.Proofs

/- strings.Join over the abstract heap, by the shelf's contract. -/
namespace Go.HI
open Go.Proofs Go.RowKit
noncomputable section

theorem Rel.below {ρ : Ren} {σ : Store} {w w' : World} {B : Nat} (h : Rel ρ σ w) (hb : Below B w w') (hl : ∀ b L, ρ b = some L → L.blk < B) : Rel ρ σ w' where
  wf := h.wf
  dom := fun b L hL => ⟨(h.dom b L hL).1, Nat.lt_of_lt_of_le (h.dom b L hL).2 hb.size⟩
  blk := fun b L x hL hx => (h.blk b L x hL hx).keep (.refl _) (fun _ _ _ hk => hk) (hb.block _ (hl b L hL))
  inj := h.inj
  glob := h.glob

theorem Fr.below {N N' : Nat} {ρ ρ' : Ren} {w w1 w2 : World} (h : Fr N N' ρ ρ' w w1) (hb : Below w.heap.size w1 w2) : Fr N N' ρ ρ' w w2 where
  sub := h.sub
  size := Nat.le_trans h.size hb.size
  keep := fun B hB hn => by rw [hb.block B hB]; exact h.keep B hB hn
  shape := fun B cs ty fz hB => by rw [hb.block B (heap_lt hB)]; exact h.shape B cs ty fz hB
  new := h.new
  tape := hb.tape.trans h.tape
  os := hb.os.trans h.os
  output := hb.output.trans h.output
  le := h.le
  fresh := h.fresh

def strsOf (l : List HV) : Option (List (List UInt8)) :=
  List.rec (some []) (fun h _ ih => match h with
    | .str s => match ih with
      | some r => some (s :: r)
      | none => none
    | _ => none) l

theorem strsOf_rel {ρ : Ren} : ∀ {l : List HV} {xs : List (List UInt8)} {vs : List Value}, strsOf l = some xs → VsRel ρ l vs → vs = xs.map fun s => .string ⟨⟨s⟩⟩
  | [], xs, vs, h, hv => by
    cases h
    simpa [VsRel] using hv
  | x :: l, xs, vs, h, hv => by
    obtain ⟨v, vs', rfl, hx, hl⟩ : ∃ v vs', vs = v :: vs' ∧ VRel ρ x v ∧ VsRel ρ l vs' := by simpa only [VsRel] using hv
    cases x with
    | str s =>
      have h' : (match strsOf l with | some r => some (s :: r) | none => none) = some xs := h
      cases hr : strsOf l with
      | none => rw [hr] at h'; cases h'
      | some r =>
        rw [hr] at h'
        cases h'
        have e := strsOf_rel hr hl
        subst e
        simp only [VRel] at hx
        subst hx
        rfl
    | _ => cases h

def sumLen (xs : List (List UInt8)) : Nat := List.rec 0 (fun x _ ih => x.length + ih) xs

theorem join_len : ∀ (xs : List (List UInt8)) (sep : List UInt8), (Lib.join xs sep).length ≤ sumLen xs + xs.length * sep.length
  | [], sep => by simp [Lib.join_nil]
  | [x], sep => by
    rw [Lib.join_one]
    show x.length ≤ x.length + 0 + _
    omega
  | x :: y :: r, sep => by
    have ih := join_len (y :: r) sep
    have e : Lib.join (x :: y :: r) sep = x ++ sep ++ Lib.join (y :: r) sep := by simp [Lib.join, List.intercalate]
    rw [e]
    have e2 : sumLen (x :: y :: r) = x.length + sumLen (y :: r) := rfl
    rw [e2]
    simp only [List.length_append, List.length_cons] at ih ⊢
    rw [Nat.succ_mul] 
    omega

def sumJoin (args : List HV) (σ : Store) : CallOut :=
  match args with
  | [.slice none _ _, .str _] => some (.returned (.str []), σ)
  | [.slice (some (b, o)) n e, .str sep] => if Nat.beq n 0 then some (.returned (.str []), σ) else
    if Nat.beq e 1 then match σ.loadN b o n with
      | some l => match strsOf l with
        | some xs => if Nat.ble (sumLen xs + xs.length * sep.length) 1000000 && Nat.ble xs.length 1000000 then some (.returned (.str (Lib.join xs sep)), σ) else none
        | none => none
      | none => none
    else none
  | _ => none

theorem join_ok {args : List HV} {σ : Store} {e : HEnd} {σ' : Store} (h : sumJoin args σ = some (e, σ')) : HCall Tryz.prog 264 args σ (fun e' σ'' => e' = e ∧ σ'' = σ') := by
  intro n ρ w args' hR ha
  refine callsIn_wide.2 ?_
  obtain ⟨args'⟩ := args'
  have fin0 : ∀ (a : Option Addr) (c : Nat) (s : List UInt8), e = .returned (.str []) → σ' = σ → args' = [.slice a 0 c, .string ⟨⟨s⟩⟩] → Calls Tryz.prog 264 ⟨args'⟩ w (HEndPost σ.next ρ w fun e' σ'' => e' = e ∧ σ'' = σ') := by
    intro a c s he hs ha
    subst ha
    refine (Tryz.strings_Join_none a c ⟨⟨s⟩⟩ w).mono ?_
    rintro e' w' ⟨rfl, rfl⟩
    exact ⟨.returned (.str []), σ, ρ, ⟨_, rfl, rfl⟩, ⟨he.symm, hs.symm⟩, hR, .refl _ _⟩
  unfold sumJoin at h
  split at h
  · cases h
    simp only [VsRel, VRel] at ha
    obtain ⟨v, vs, e1, ⟨_, rfl⟩, v2, vs2, rfl, rfl, rfl⟩ := ha
    exact fin0 _ _ _ rfl rfl e1
  · rename_i b o m el sep
    simp only [VsRel] at ha
    obtain ⟨v, vs, e1, hv, v2, vs2, rfl, hv2, rfl⟩ := ha
    simp only [VRel] at hv2
    subst hv2
    split at h
    · rename_i h0
      have h0 : m = 0 := by simpa using h0
      subst h0
      cases h
      simp only [VRel] at hv
      rcases hv with ⟨L, cap, _, _, _, rfl⟩ | ⟨_, a, rfl⟩
      · exact fin0 _ _ _ rfl rfl e1
      · exact fin0 _ _ _ rfl rfl e1
    · rename_i h0
      have h0 : m ≠ 0 := by simpa using h0
      split at h
      · rename_i h1
        have h1 : el = 1 := by simpa using h1
        subst h1
        split at h
        · rename_i l hl
          split at h
          · rename_i xs hxs
            split at h
            · rename_i hb
              cases h
              simp only [Bool.and_eq_true, Nat.ble_eq] at hb
              simp only [VRel] at hv
              rcases hv with ⟨L, cap, hL, hcap, htot, rfl⟩ | ⟨h2, _⟩
              rotate_left
              · exact absurd h2 h0
              obtain ⟨cs, ⟨ty, fz, hcs, hsz, _⟩, hfit, hlen, hrel⟩ := hR.loadN hL hl
              have hvs := strsOf_rel hxs hrel
              have hxl : xs.length = m := by
                have := congrArg List.length hvs
                simp at this
                omega
              have hj := join_len xs sep
              have hmap : (xs.map fun s => (⟨⟨s⟩⟩ : ByteArray)).map (fun x => x.data.toList) = xs := by simp [Function.comp_def]
              have hc := Tryz.strings_Join L.blk (L.base + o) cap (xs.map fun s => ⟨⟨s⟩⟩) ⟨⟨sep⟩⟩ w ?_ (hR.dom _ _ hL).2 (by simp; omega) (by simp; omega) (by
                rw [hmap]
                show (Lib.join xs sep).length ≤ _
                omega)
              · have ex : args' = [.slice (some ⟨L.blk, L.base + o, none⟩) (xs.map fun s => (⟨⟨s⟩⟩ : ByteArray)).length cap, .string ⟨⟨sep⟩⟩] := by
                  rw [List.length_map, hxl]; exact e1
                rw [ex]
                refine Calls.mono hc ?_
                rintro e' w' ⟨rfl, hbel⟩
                refine ⟨.returned (.str (Lib.join xs sep)), σ, ρ, ⟨_, rfl, ?_⟩, ⟨rfl, rfl⟩, hR.below hbel fun b' L' h' => (hR.dom b' L' h').2, (Fr.refl ρ w).below hbel⟩
                simp only [VRel]
                rw [hmap]
              · intro j x hx
                rw [List.getElem?_map, Option.map_eq_some_iff] at hx
                obtain ⟨s, hs, rfl⟩ := hx
                have hjl : j < m := by rw [← hxl]; exact (List.getElem?_eq_some_iff.1 hs).1
                have h3 : (cs.toList.drop (L.base + o))[j]? = some (.string ⟨⟨s⟩⟩) := by
                  have := congrArg (fun l => l[j]?) hvs
                  simp only [List.getElem?_take, if_pos hjl, List.getElem?_map, hs, Option.map_some] at this
                  exact this
                rw [List.getElem?_drop] at h3
                rw [Lib.cell_of_heap hcs]
                simpa using h3
            · cases h
          · cases h
        · cases h
      · cases h
  · cases h

end
end Go.HI

/- journal's Append: records into a builder, whose text is taken; the builder stands beside the abstract store. -/
namespace Go.HI
open Go.Proofs Go.RowKit
noncomputable section

/-- What lies beside the abstract store: a slot's value, and blocks that nobody names. -/
structure Aside (s : Tmp) (p : Value) (S : Nat → Prop) (w₀ : World) (ρ : Ren) (a : Act) (w : World) : Prop where
  slot : a.tmps[s]? = some p
  lt : ∀ B, S B → B < w.heap.size
  out : ∀ B, S B → ∀ b L, ρ b = some L → L.blk ≠ B
  same : ∀ B, S B → w.heap[B]? = w₀.heap[B]?

section
variable {s : Tmp} {p : Value} {S : Nat → Prop} {w₀ : World} {ρ : Ren} {a : Act} {w : World}

theorem Aside.step {ρ' : Ren} {w' : World} {N N' : Nat} (h : Aside s p S w₀ ρ a w) (k : Fr N N' ρ ρ' w w') : Aside s p S w₀ ρ' a w' where
  slot := h.slot
  lt := fun B hB => Nat.lt_of_lt_of_le (h.lt B hB) k.size
  out := fun B hB b L hb => by
    cases hb' : ρ b with
    | some L' => have := k.sub b L' hb'; rw [hb] at this; cases this; exact h.out B hB b L hb'
    | none =>
      rcases k.new b L hb' hb with h1 | ⟨b₀, L₀, h1, h2⟩
      · have := h.lt B hB; omega
      · rw [← h2]; exact h.out B hB b₀ L₀ h1
  same := fun B hB => by rw [k.keep B (h.lt B hB) (h.out B hB)]; exact h.same B hB

theorem Aside.put (h : Aside s p S w₀ ρ a w) {d : Option Tmp} (hd : d ≠ some s) (v : Value) : Aside s p S w₀ ρ (a.put d v) w where
  slot := by
    cases d with
    | none => exact h.slot
    | some d =>
      simp only [Act.put]
      rw [Array.getElem?_setIfInBounds_ne (fun e => hd (by rw [e]))]
      exact h.slot
  lt := h.lt
  out := h.out
  same := h.same
end

variable {P : Program} {ops : Array Oper} {α : Type} {A : Ans α} {φ : α → Prop}

/-- Operations in a row that leave a slot alone. -/
def HOpsK (P : Program) (ops : Array Oper) (s : Tmp) (K : HFrame → Store → Prop) : List Nat → HFrame → Store → Prop
  | [], fr, σ => K fr σ
  | i :: rest, fr, σ => ∃ o, ops[i]? = some o ∧ isDefer o.op = false ∧ o.dst ≠ some s ∧ wantedH ops o fr = some true ∧
      HStep P (fun v σ' => HOpsK P ops s K rest (fr.put o.dst v) σ') (fun _ _ => False) σ (evalOp P o fr σ)

theorem HOpsK.wpIn {s : Tmp} {p : Value} {S : Nat → Prop} {w₀ : World} {N₀ : Nat} {rc : Option Nat} {n : Nat} {ρ₀ : Ren} {w₁ : World} {ds : List Deferred} {K : HFrame → Store → Prop} {Q : Exit → Act → World → Prop} {l2 : List Nat}
    (hK : ∀ fr σ ρ a w, K fr σ → Rel ρ σ w → SlotsRel ρ fr a.tmps → a.defers = ds → Fr N₀ σ.next ρ₀ ρ w₁ w → Aside s p S w₀ ρ a w → wpOpsIn (FW rc) n P ops Q l2 a w) :
    ∀ (l : List Nat) (fr : HFrame) (σ : Store) (ρ : Ren) (a : Act) (w : World), HOpsK P ops s K l fr σ → Rel ρ σ w → SlotsRel ρ fr a.tmps → a.defers = ds → Fr N₀ σ.next ρ₀ ρ w₁ w → Aside s p S w₀ ρ a w →
      wpOpsIn (FW rc) n P ops Q (l ++ l2) a w
  | [], fr, σ, ρ, a, w, h, hR, hS, hd, hl, hA => hK fr σ ρ a w h hR hS hd hl hA
  | i :: rest, fr, σ, ρ, a, w, h, hR, hS, hds, hl, hA => by
    obtain ⟨o, ho, hd, hs, hw, h⟩ := h
    show wpOpsIn (FW rc) n P ops Q (i :: (rest ++ l2)) a w
    simp only [wpOpsIn]
    rw [ho]
    simp only
    rw [wantedH_ok hS hw]
    simp only [if_true]
    have hdef : ∀ (v : Value), (a.put o.dst v).defers = a.defers := fun v => by cases o.dst <;> rfl
    refine HStep.wpIn h hd hR hS ?_ ?_
    · intro v σ' ρ' v' w' hk hv hR' hF
      exact HOpsK.wpIn hK rest _ σ' ρ' _ w' hk hR' ((hS.mono hF.sub).put o.dst hv) (by rw [hdef]; exact hds) (hl.trans hF) ((hA.step hF).put hs v')
    · intro v σ' ρ' v' w' hk
      exact hk.elim

def dstB (o : Oper) (s : Tmp) : Bool := match o.dst with
  | some d => Nat.beq d s
  | none => false

def erOpsK (A : Ans α) (V : OpEv) (call : CallK α) (ops : Array Oper) (s : Tmp) (k : HFrame → Store → α) (l : List Nat) : HFrame → Store → α :=
  List.rec (motive := fun _ => HFrame → Store → α) (fun fr σ => k fr σ)
    (fun i _ ih fr σ => match ops[i]? with
      | none => A.fail
      | some o => if isDefer o.op then A.fail else if dstB o s then A.fail else match wantedH ops o fr with
        | some true => stepK A call σ (V o fr σ) (fun v σ' => ih (fr.put o.dst v) σ') (fun _ _ => A.fail)
        | _ => A.fail) l

theorem erOpsK_ok (hA : A.Good φ) {V : OpEv} (hV : V = evalOp P) {call : CallK α} (hc : CallVK P φ call) {s : Tmp} {k : HFrame → Store → α} : ∀ (l : List Nat) (fr : HFrame) (σ : Store),
    φ (erOpsK A V call ops s k l fr σ) → HOpsK P ops s (fun fr σ => φ (k fr σ)) l fr σ
  | [], fr, σ, h => h
  | i :: rest, fr, σ, h => by
    replace h : φ (match ops[i]? with
      | none => A.fail
      | some o => if isDefer o.op then A.fail else if dstB o s then A.fail else match wantedH ops o fr with
        | some true => stepK A call σ (V o fr σ) (fun v σ' => erOpsK A V call ops s k rest (fr.put o.dst v) σ') (fun _ _ => A.fail)
        | _ => A.fail) := h
    split at h
    · exact (hA.fail h).elim
    rename_i o ho
    split at h
    · exact (hA.fail h).elim
    rename_i hd
    split at h
    · exact (hA.fail h).elim
    rename_i hs
    split at h
    · rename_i hw
      refine ⟨o, ho, by simpa using hd, ?_, hw, ?_⟩
      · intro e
        unfold dstB at hs
        rw [e] at hs
        simp at hs
      · rw [congrFun (congrFun (congrFun hV o) fr) σ] at h
        exact stepK_ok hA hc h (fun v σ' hv => erOpsK_ok hA hV hc rest _ _ hv) fun v σ' hv => hA.fail hv
    · exact (hA.fail h).elim

/-! ### Names are given back -/
def frameB (M : Nat) (fr : HFrame) : Bool := (List.range fr.nt).all (fun t => (fr.get t).refs (below M)) && fr.gl.all (below M)

theorem SlotsRel.cut {ρ : Ren} {fr : HFrame} {t : Array Value} {M : Nat} (h : SlotsRel ρ fr t) (hf : frameB M fr = true) : SlotsRel (fun b => if b < M then ρ b else none) fr t := by
  simp only [frameB, Bool.and_eq_true, List.all_eq_true, List.mem_range] at hf
  refine ⟨h.1, fun i hi => ?_, fun g hg => ?_⟩
  · have := VRel.ren (ι := id) (p := below M) (ρ₂ := fun b => if b < M then ρ b else none) (fun b L hb hL => by simp only [id]; rw [if_pos (below_iff.1 hb)]; exact hL) _ _ (hf.1 i hi) (h.2.1 i hi)
    rwa [HV.ren_id] at this
  · obtain ⟨tot, ht⟩ := h.2.2 g hg
    exact ⟨tot, by simp only; rw [if_pos (below_iff.1 (hf.2 g (by simpa using hg)))]; exact ht⟩

/-! ### The builder -/
theorem builder_kept {T e : TypeId} {B b : Nat} {bs : List Value} {w w' : World} (h : Lib.IsBuilder T e B b bs w) (hk : ∀ k, B ≤ k → k < w.heap.size → w'.heap[k]? = w.heap[k]?) : Lib.IsBuilder T e B b bs w' := by
  have hat : ∀ {k : Nat} {o : Obj}, B ≤ k → w.heap[k]? = some o → w'.heap[k]? = some o := fun {k o} hB ho => by rw [hk k hB (heap_lt ho)]; exact ho
  have key : ∀ q, Lib.BuilderAt T e B b q bs w → Lib.BuilderAt T e B b q bs w' := by
    rintro q ⟨hB, v, hb, hown, hne⟩
    refine ⟨hB, v, hat hB hb, ⟨hown.1, ?_⟩, hne⟩
    rcases hown.2 with h1 | ⟨g, cap, cur, h1, h2, h3, h4⟩
    · exact .inl h1
    · exact .inr ⟨g, cap, cur, h1, h2, hat h2 h3, h4⟩
  rcases h with h | h
  · exact .inl (key _ h)
  · exact .inr (key _ h)

theorem strCells_eq (l : List UInt8) : Lib.strCells ⟨⟨l⟩⟩ = Lib.byteCells l := rfl

end
end Go.HI

/- journal's Append over the abstract heap. -/
namespace Go.HI
open Go.Proofs Go.RowKit
noncomputable section

variable {α : Type} {A : Ans α} {φ : α → Prop}

/-! ### Calls of a function by its number -/
def callView (ops : Array Oper) (i : Nat) : Option (Option Tmp × Operand × List Operand × Bool) := match ops[i]? with
  | some o => match o.op with
    | .call { callee := .value f, args, .. } => some (o.dst, f, args.toList, o.guard.isNone)
    | _ => none
  | none => none

theorem call_at {ops : Array Oper} {i : Nat} {d : Option Tmp} {f : Operand} {args : List Operand} (h : callView ops i = some (d, f, args, true)) :
    ∃ o ts, ops[i]? = some o ∧ o.dst = d ∧ o.op = .call { callee := .value f, args := ⟨args⟩, argTypes := ts } ∧ o.guard = none := by
  unfold callView at h
  split at h
  · rename_i o ho
    split at h
    · rename_i f' args' ts hop
      simp only [Option.some.injEq, Prod.mk.injEq, Option.isNone_iff_eq_none] at h
      obtain ⟨h1, h2, h3, h4⟩ := h
      refine ⟨o, ts, ho, h1, ?_, h4⟩
      rw [hop, h2, ← h3]
    · cases h
  · cases h

theorem call_wpIn {P : Program} {o : Oper} {f : FuncId} {args : List Operand} {ts : Array TypeId} {a : Act} {w : World} {rc : Option Nat} {n : Nat} {R : Ending → World → Prop} {next : Act → World → Prop} {Q : Exit → Act → World → Prop}
    (h : o.op = .call { callee := .value (.func f), args := ⟨args⟩, argTypes := ts }) (hb : hasBody P f = true) (hc : Calls P f ⟨args.map a.eval⟩ w R) (hr : ∀ e w', R e w' → ∃ v, e = .returned v ∧ next (a.put o.dst v) w') :
    o.wpIn (FW rc) n P a w next Q := by
  refine ⟨fun _ _ => trivial, ?_⟩
  rw [Oper.semAt_eq _ _ _ (by intro c e; rw [h] at e; cases e)]
  have hrun : (execOp a.eval o).run P w = .ok (.enter f ⟨args.map a.eval⟩) w := by
    simp [execOp, h, resolve, Act.eval, Deferred.ofValue, invoke, run_callFunc_body hb]
  rw [hrun]
  refine ⟨no_depth, (callsIn_wide.2 hc).mono fun e w' he => ?_⟩
  obtain ⟨v, rfl, hv⟩ := hr e w' he
  exact hv

/-! ### The pieces -/
noncomputable def code168 : Code := match Tryz.f168.body with
  | some c => c
  | none => .skip
noncomputable def preA : List Code := match code168 with
  | .seq a (.seq b (.seq c (.seq d (.seq e (.seq f _))))) => [a, b, c, d, e, f]
  | _ => []
noncomputable def segA : Code := match code168 with
  | .seq _ (.seq _ (.seq _ (.seq _ (.seq _ (.seq _ x))))) => x
  | _ => .skip
noncomputable def opsOf : Code → Array Oper
  | .region _ ops _ => ops
  | _ => #[]
noncomputable def ops8 : Array Oper := match segA with
  | .seq c _ => opsOf c
  | _ => #[]
noncomputable def ops9 : Array Oper := match segA with
  | .seq _ (.seq (.seq c _) _) => opsOf c
  | _ => #[]
noncomputable def roundCode : Code := match segA with
  | .seq _ (.seq (.seq _ (.block _ (.loop c))) _) => c
  | _ => .skip
noncomputable def ops10 : Array Oper := match roundCode with
  | .seq c _ => opsOf c
  | _ => #[]
noncomputable def ops11 : Array Oper := match roundCode with
  | .seq _ (.seq _ (.seq (.block _ (.seq c _)) _)) => opsOf c
  | _ => #[]
noncomputable def ops12 : Array Oper := match roundCode with
  | .seq _ (.seq _ (.seq (.block _ (.seq _ c)) _)) => opsOf c
  | _ => #[]
noncomputable def ops13 : Array Oper := match roundCode with
  | .seq _ (.seq _ (.seq _ c)) => opsOf c
  | _ => #[]
noncomputable def ops14 : Array Oper := match segA with
  | .seq _ (.seq _ (.seq c _)) => opsOf c
  | _ => #[]
noncomputable def restA : Code := match segA with
  | .seq _ (.seq _ (.seq _ c)) => c
  | _ => .skip

noncomputable def roundA' : Code := .seq (.region 10 ops10 false) (.seq (.cond (.tmp 34) .skip (.exit 0)) (.seq (.block 1 (.seq (.region 11 ops11 false) (.region 12 ops12 false))) (.region 13 ops13 false)))
noncomputable def segA' : Code := .seq (.region 8 ops8 false) (.seq (.seq (.region 9 ops9 false) (.block 0 (.loop roundA'))) (.seq (.region 14 ops14 false) restA))

def seqs : List Code → Code → Code
  | [], x => x
  | c :: l, x => .seq c (seqs l x)

theorem body_A : Tryz.f168.body = some (seqs preA segA') := by kernel_rfl
theorem func_A : Tryz.prog.funcs[168]? = some Tryz.f168 := by kernel_rfl
theorem size_8 : ops8.size = 1 := by kernel_rfl
theorem size_9 : ops9.size = 3 := by kernel_rfl
theorem size_10 : ops10.size = 1 := by kernel_rfl
theorem size_11 : ops11.size = 3 := by kernel_rfl
theorem size_12 : ops12.size = 3 := by kernel_rfl
theorem size_13 : ops13.size = 2 := by kernel_rfl
theorem size_14 : ops14.size = 2 := by kernel_rfl
theorem view_8 : viewOps ops8 1 = [some (some 7, .alloc 298, none)] := by kernel_rfl
theorem view_12 : callView ops12 2 = some (some 39, .func 213, [.tmp 7, .tmp 38], true) := by kernel_rfl
theorem view_14 : callView ops14 0 = some (some 41, .func 215, [.tmp 7], true) := by kernel_rfl
theorem has_213 : hasBody Tryz.prog 213 = true := by kernel_rfl
theorem has_215 : hasBody Tryz.prog 215 = true := by kernel_rfl

/-! ### The evaluator's share -/
/-- Behind the loop's end. -/
noncomputable def endK (A : Ans α) (V : OpEv) (call : CallK α) (k : HFrame → Store → α) (x : List UInt8) (fr : HFrame) (σ : Store) : α :=
  match fr.eval (.tmp 34) with
  | .bool false => erOpsK A V call ops14 7 k [1] (fr.put (some 41) (.str x)) σ
  | _ => A.fail

/-- Behind the first record's text. -/
noncomputable def wroteK (A : Ans α) (V : OpEv) (call : CallK α) (k : HFrame → Store → α) (fr : HFrame) (σ : Store) : α :=
  match fr.eval (.tmp 38) with
  | .str (c :: x) => if Nat.ble x.length 1000000 then
      erOpsK A V call ops13 7 (erOpsK A V call ops10 7 (endK A V call k (c :: x)) [0]) [0, 1] (fr.put (some 39) .any) σ
    else A.fail
  | _ => A.fail

noncomputable def headK (A : Ans α) (V : OpEv) (call : CallK α) (k : HFrame → Store → α) (fr : HFrame) (σ : Store) : α :=
  match fr.eval (.tmp 34) with
  | .bool true => erOpsK A V call ops11 7 (erOpsK A V call ops12 7 (wroteK A V call k) [0, 1]) [0, 1, 2] fr σ
  | _ => A.fail

noncomputable def segK (A : Ans α) (V : OpEv) (call : CallK α) (k : HFrame → Store → α) (fr : HFrame) (σ : Store) : α :=
  if Nat.blt 7 fr.nt then erOpsK A V call ops9 7 (erOpsK A V call ops10 7 (headK A V call k) [0]) [0, 1, 2] (fr.put (some 7) .any) σ else A.fail

noncomputable def seqsK (E : Er α) (fin : HFrame → Store → α) (kx : KX α) (l : List Code) : HFrame → Store → α :=
  List.rec (motive := fun _ => HFrame → Store → α) fin (fun c _ ih fr σ => E.code none c fr σ fun x fr σ => match x with
    | .normal => ih fr σ
    | x => kx x fr σ) l

noncomputable def erAppend (A : Ans α) (V : OpEv) (P : Program) (B : FuncId → Bool) (E : Er α) (args : List HV) (σ : Store) (k : KE α) : α :=
  if Nat.ble args.length 92 then
    seqsK E (segK A V (erCall A E B) fun fr σ => E.code none restA fr σ (leaveK A P Tryz.f168.results.toList k)) (leaveK A P Tryz.f168.results.toList k) preA (enterH 92 σ.globs args) σ
  else A.fail

/-! ### What it finds is so -/
theorem Rel.turned {ρ : Ren} {σ : Store} {w w' : World} (h : Rel ρ σ w) (hs : w.heap.size ≤ w'.heap.size) (hk : ∀ b L, ρ b = some L → w'.heap[L.blk]? = w.heap[L.blk]?) : Rel ρ σ w' where
  wf := h.wf
  dom := fun b L hL => ⟨(h.dom b L hL).1, Nat.lt_of_lt_of_le (h.dom b L hL).2 hs⟩
  blk := fun b L x hL hx => (h.blk b L x hL hx).keep (.refl _) (fun _ _ _ hk => hk) (hk b L hL)
  inj := h.inj
  glob := h.glob

theorem Fr.turned {N N' : Nat} {ρ ρ' : Ren} {w w1 w2 : World} (h : Fr N N' ρ ρ' w w1) (hs : w1.heap.size ≤ w2.heap.size) (hk : ∀ k, k < w.heap.size → w2.heap[k]? = w1.heap[k]?) (ho : w2.os = w1.os) (ht : w2.tape = w1.tape) (hp : w2.output = w1.output) : Fr N N' ρ ρ' w w2 where
  sub := h.sub
  size := Nat.le_trans h.size hs
  keep := fun B hB hn => by rw [hk B hB]; exact h.keep B hB hn
  shape := fun B cs ty fz hB => by rw [hk B (heap_lt hB)]; exact h.shape B cs ty fz hB
  new := h.new
  tape := ht.trans h.tape
  os := ho.trans h.os
  output := hp.trans h.output
  le := h.le
  fresh := h.fresh

theorem want_first {ops : Array Oper} {o : Oper} {a : Act} (hgd : o.guard = none) : Region.wanted o (yielded ops a.tmps) = true := by unfold Region.wanted; rw [hgd]

theorem slot_eval {s : Tmp} {p : Value} {S : Nat → Prop} {w₀ : World} {ρ : Ren} {a : Act} {w : World} (h : Aside s p S w₀ ρ a w) : a.eval (.tmp s) = p := by
  simp only [Act.eval, Array.getD_eq_getD_getElem?, h.slot, Option.getD_some]

theorem segK_ok (hA : A.Good φ) {V : OpEv} (hV : V = evalOp Tryz.prog) {call : CallK α} (hc : CallVK Tryz.prog φ call) {k : HFrame → Store → α} {Q : HExit → HFrame → Store → Prop} (hk : ∀ fr σ, φ (k fr σ) → HWp Tryz.prog none restA Q fr σ)
    {fr : HFrame} {σ : Store} (h : φ (segK A V call k fr σ)) : HWp Tryz.prog none segA' Q fr σ := by
  intro n ρ w a rc hr hR hS
  have hd : ∀ b L, ρ b = some L → L.blk < w.heap.size := fun b L hb => (hR.dom b L hb).2
  refine wpIn_seq (wpIn_region ?_)
  rw [size_8]
  show wpOpsIn (FW rc) n Tryz.prog ops8 _ [0] a w
  obtain ⟨o, ho, hdst, hop, hgd⟩ := view_at view_8 (i := 0) rfl
  rw [wpOpsIn, ho]
  simp only
  rw [if_pos (want_first hgd)]
  refine ⟨fun _ _ => trivial, ?_⟩
  rw [Oper.semAt_eq _ _ _ (by intro c e; rw [hop] at e; cases e)]
  have hrun : (execOp a.eval o).run Tryz.prog w = .ok (.value (.pointer (some ⟨w.heap.size, 0, none⟩))) (w.alloc (.cells #[.pointer none, .slice none 0 0] 298)) := by
    simp [execOp, hop, Instr.alloc, Tryz.zeroValue298, newVar_run, Value.cells]
  rw [hrun, Oper.uponIn_value, hdst]
  obtain ⟨b, hb⟩ : ∃ b, b = w.heap.size := ⟨_, rfl⟩
  obtain ⟨w1, hw1⟩ : ∃ w1, w1 = w.alloc (.cells #[.pointer none, .slice none 0 0] 298) := ⟨_, rfl⟩
  have hbw1 : w1.heap[b]? = some (.cells #[.pointer none, .slice none 0 0] 298 (0, 0)) := by rw [hw1, hb]; exact heap_alloc_new w _
  have hlt1 : b < w1.heap.size := heap_lt hbw1
  have hR1 : Rel ρ σ w1 := hw1 ▸ hR.allocOut _
  have hF1 : Fr σ.next σ.next ρ ρ w w1 := hw1 ▸ Fr.allocOut _
  rw [← hb, ← hw1]
  clear hrun hw1
  show (Code.seq _ _).wpIn _ _ _ _ (a.put (some 7) (.pointer (some ⟨b, 0, none⟩))) w1
  have hS1 : SlotsRel ρ (fr.put (some 7) .any) (a.put (some 7) (.pointer (some ⟨b, 0, none⟩))).tmps := hS.put (some 7) (by simp [VRel])
  unfold segK at h
  split at h
  rotate_left
  · exact (hA.fail h).elim
  rename_i hn7
  rw [Nat.blt_eq] at hn7
  have hA1 : Aside 7 (.pointer (some ⟨b, 0, none⟩)) (fun k => k = b) w1 ρ (a.put (some 7) (.pointer (some ⟨b, 0, none⟩))) w1 := by
    refine ⟨?_, fun B hB => hB ▸ hlt1, fun B hB c L hL e => ?_, fun _ _ => rfl⟩
    · have h7 : 7 < a.tmps.size := by rw [hS.1]; exact hn7
      simp [Act.put, h7]
    · have := hd c L hL
      have := hB.symm.trans e.symm
      omega
  have hds : (a.put (some 7) (.pointer (some ⟨b, 0, none⟩))).defers = a.defers := rfl
  refine wpIn_seq (wpIn_seq (wpIn_region ?_))
  rw [size_9]
  show wpOpsIn (FW rc) n Tryz.prog ops9 _ ([0, 1, 2] ++ []) _ _
  refine HOpsK.wpIn (ds := a.defers) ?_ [0, 1, 2] _ σ ρ _ w1 (erOpsK_ok hA hV hc [0, 1, 2] _ σ h) hR1 hS1 hds hF1 hA1
  clear h hR1 hS1 hds hF1 hA1
  intro fr σ1 ρ1 a1 w2 h hR1 hS1 hds hF1 hA1
  show (Code.block _ _).wpIn _ _ _ _ _ _
  refine wpIn_block (wpIn_loop_rounds 2 ?_)
  rw [roundsIn_succ]
  refine wpIn_seq (wpIn_region ?_)
  rw [size_10]
  show wpOpsIn (FW rc) n Tryz.prog ops10 _ ([0] ++ []) _ _
  refine HOpsK.wpIn ?_ [0] fr σ1 ρ1 a1 w2 (erOpsK_ok hA hV hc [0] fr σ1 h) hR1 hS1 hds hF1 hA1
  clear h hR1 hS1 hds hF1 hA1
  intro fr σ1 ρ1 a1 w2 h hR1 hS1 hds hF1 hA1
  unfold headK at h
  show (Code.seq _ _).wpIn _ _ _ _ _ _
  have hcd := hS1.eval (.tmp 34)
  split at h
  rotate_left
  · exact (hA.fail h).elim
  rename_i ht
  rw [ht] at hcd
  simp only [VRel] at hcd
  refine wpIn_seq (wpIn_cond hcd ?_)
  rw [if_pos rfl]
  refine wpIn_skip ?_
  show (Code.seq _ _).wpIn _ _ _ _ _ _
  refine wpIn_seq (wpIn_block (wpIn_seq (wpIn_region ?_)))
  rw [size_11]
  show wpOpsIn (FW rc) n Tryz.prog ops11 _ ([0, 1, 2] ++ []) _ _
  refine HOpsK.wpIn ?_ [0, 1, 2] fr σ1 ρ1 a1 w2 (erOpsK_ok hA hV hc [0, 1, 2] fr σ1 h) hR1 hS1 hds hF1 hA1
  clear h hR1 hS1 hds hF1 hA1 hcd ht
  intro fr σ1 ρ1 a1 w2 h hR1 hS1 hds hF1 hA1
  show (Code.region _ _ _).wpIn _ _ _ _ _ _
  refine wpIn_region ?_
  rw [size_12]
  show wpOpsIn (FW rc) n Tryz.prog ops12 _ ([0, 1] ++ [2]) _ _
  refine HOpsK.wpIn ?_ [0, 1] fr σ1 ρ1 a1 w2 (erOpsK_ok hA hV hc [0, 1] fr σ1 h) hR1 hS1 hds hF1 hA1
  clear h hR1 hS1 hds hF1 hA1
  intro fr σ1 ρ1 a1 w2 h hR1 hS1 hds hF1 hA1
  unfold wroteK at h
  have hcd := hS1.eval (.tmp 38)
  split at h
  rotate_left
  · exact (hA.fail h).elim
  rename_i c x hx
  split at h
  rotate_left
  · exact (hA.fail h).elim
  rename_i hlen
  rw [Nat.ble_eq] at hlen
  obtain ⟨y, hy⟩ : ∃ y, y = c :: x := ⟨_, rfl⟩
  have hylen : y.length ≤ 1000001 := by rw [hy]; simp; omega
  have hy0 : y ≠ [] := by rw [hy]; simp
  rw [hx, ← hy] at hcd
  rw [← hy] at h
  simp only [VRel] at hcd
  clear hx hy hlen
  obtain ⟨o, ts, ho, hdst, hop, hgd⟩ := call_at view_12
  rw [wpOpsIn, ho]
  simp only
  rw [if_pos (want_first hgd)]
  have hbw2 : w2.heap[b]? = some (.cells #[.pointer none, .slice none 0 0] 298 (0, 0)) := by rw [hA1.same b rfl]; exact hbw1
  refine call_wpIn hop has_213 (R := fun e w' => e = .returned (.tuple #[.int .i64 (⟨⟨y⟩⟩ : ByteArray).size, .nilIface]) ∧ Wrote 298 5 b ⟨⟨y⟩⟩ w2 w') ?_ ?_
  · have := Tryz.write_fresh b ⟨⟨y⟩⟩ w2 hbw2 (by show y.length ≤ _; omega)
    rw [show (⟨[Operand.tmp 7, .tmp 38].map a1.eval⟩ : Array Value) = #[.pointer (some ⟨b, 0, none⟩), .string ⟨⟨y⟩⟩] by simp [slot_eval hA1, hcd]]
    exact this
  rintro e w3 ⟨rfl, hW⟩
  refine ⟨_, rfl, ?_⟩
  rw [hdst]
  obtain ⟨p, v, hbw3, hown⟩ := hW.owns
  have hlow : ∀ c L, ρ1 c = some L → L.blk < w2.heap.size ∧ L.blk ≠ b := fun c L hL => ⟨(hR1.dom c L hL).2, hA1.out b rfl c L hL⟩
  have hgl : ∀ g, v.ownBlock = some g → w2.heap.size ≤ g ∧ g < w3.heap.size := fun g hg => hown.lt g hg
  have hR2 : Rel ρ1 σ1 w3 := hR1.turned hW.size fun c L hL => hW.block _ (hlow c L hL).1 (hlow c L hL).2
  have hF2 : Fr σ.next σ1.next ρ ρ1 w w3 := hF1.turned hW.size (fun k hk => hW.block k (Nat.lt_of_lt_of_le hk hF1.size) (by omega)) hW.os hW.tape hW.output
  have hA2 : Aside 7 (.pointer (some ⟨b, 0, none⟩)) (fun k => k = b ∨ v.ownBlock = some k) w3 ρ1 (a1.put (some 39) (.tuple #[.int .i64 (⟨⟨y⟩⟩ : ByteArray).size, .nilIface])) w3 := by
    refine ⟨?_, ?_, ?_, fun _ _ => rfl⟩
    · simp only [Act.put]
      rw [Array.getElem?_setIfInBounds_ne (by decide)]
      exact hA1.slot
    · rintro B (rfl | hB)
      · exact heap_lt hbw3
      · exact (hgl B hB).2
    · rintro B (rfl | hB) c L hL
      · exact (hlow c L hL).2
      · have h1 := (hlow c L hL).1
        have h2 := (hgl B hB).1
        omega
  have hS2 := hS1.put (some 39) (v := .any) (v' := .tuple #[.int .i64 (⟨⟨y⟩⟩ : ByteArray).size, .nilIface]) (by simp [VRel])
  have hds2 : (a1.put (some 39) (.tuple #[.int .i64 (⟨⟨y⟩⟩ : ByteArray).size, .nilIface])).defers = a.defers := hds
  have hw2 : w.heap.size ≤ w2.heap.size := hF1.size
  clear hR1 hS1 hds hF1 hA1 hW hlow hcd hbw1 hlt1
  show (Code.region _ _ _).wpIn _ _ _ _ _ _
  refine wpIn_region ?_
  rw [size_13]
  show wpOpsIn (FW rc) n Tryz.prog ops13 _ ([0, 1] ++ []) _ w3
  refine HOpsK.wpIn ?_ [0, 1] _ σ1 ρ1 _ w3 (erOpsK_ok hA hV hc [0, 1] _ σ1 h) hR2 hS2 hds2 hF2 hA2
  clear h hR2 hS2 hds2 hF2 hA2
  intro fr σ1 ρ1 a1 w4 h hR1 hS1 hds hF1 hA1
  show Code.roundsIn _ _ _ _ _ 1 _ _
  rw [roundsIn_succ]
  refine wpIn_seq (wpIn_region ?_)
  rw [size_10]
  show wpOpsIn (FW rc) n Tryz.prog ops10 _ ([0] ++ []) _ _
  refine HOpsK.wpIn ?_ [0] fr σ1 ρ1 a1 w4 (erOpsK_ok hA hV hc [0] fr σ1 h) hR1 hS1 hds hF1 hA1
  clear h hR1 hS1 hds hF1 hA1
  intro fr σ1 ρ1 a1 w4 h hR1 hS1 hds hF1 hA1
  unfold endK at h
  show (Code.seq _ _).wpIn _ _ _ _ _ _
  have hcd := hS1.eval (.tmp 34)
  split at h
  rotate_left
  · exact (hA.fail h).elim
  rename_i ht
  rw [ht] at hcd
  simp only [VRel] at hcd
  refine wpIn_seq (wpIn_cond hcd ?_)
  rw [if_neg (by decide)]
  refine wpIn_exit ?_
  show (Code.seq _ _).wpIn _ _ _ _ _ _
  refine wpIn_seq (wpIn_region ?_)
  rw [size_14]
  show wpOpsIn (FW rc) n Tryz.prog ops14 _ [0, 1] a1 w4
  obtain ⟨o, ts, ho, hdst, hop, hgd⟩ := call_at view_14
  rw [wpOpsIn, ho]
  simp only
  rw [if_pos (want_first hgd)]
  have hown4 : w4.ownsRow w2.heap.size 5 1 v y.length (Lib.byteCells y) := by
    refine ⟨hown.1, ?_⟩
    rcases hown.2 with h1 | ⟨g, cap, cur, h1, h2, h3, h4⟩
    · exact .inl h1
    · exact .inr ⟨g, cap, cur, h1, h2, (hA1.same g (.inr (by rw [h1]; rfl))).trans h3, h4⟩
  have hbw4 : w4.heap[b]? = some (.cells #[p, v] 298 (0, 0)) := (hA1.same b (.inl rfl)).trans hbw3
  refine call_wpIn hop has_215 (R := fun e w' => e = .returned (.string ⟨y.toArray⟩) ∧ ∃ g, v.ownBlock = some g ∧ w' = w4.drew.freeze ⟨g, 0, none⟩ y.length) ?_ ?_
  · rw [show (⟨[Operand.tmp 7].map a1.eval⟩ : Array Value) = #[.pointer (some ⟨b, 0, none⟩)] by simp [slot_eval hA1]]
    exact Tryz.text_of b p v y w4 w2.heap.size hbw4 hown4 hy0
  rintro e w5 ⟨rfl, g, hg, hw5⟩
  refine ⟨_, rfl, ?_⟩
  have hT : OneTurned g w4 w5 := by rw [hw5]; exact freeze_turned w4 ⟨g, 0, none⟩ y.length
  have hR2 : Rel ρ1 σ1 w5 := hR1.turned (Nat.le_of_eq hT.size.symm) fun c L hL => hT.block _ (hA1.out g (.inr hg) c L hL)
  have hF2 : Fr σ.next σ1.next ρ ρ1 w w5 := hF1.turned (Nat.le_of_eq hT.size.symm) (fun k hk => hT.block k (by have := (hgl g hg).1; omega)) hT.os hT.tape hT.output
  have hA2 : Aside 7 (.pointer (some ⟨b, 0, none⟩)) (fun k => k = b) w5 ρ1 (a1.put (some 41) (.string ⟨y.toArray⟩)) w5 := by
    refine ⟨?_, ?_, ?_, fun _ _ => rfl⟩
    · simp only [Act.put]
      rw [Array.getElem?_setIfInBounds_ne (by decide)]
      exact hA1.slot
    · rintro B rfl
      rw [hT.size]
      exact hA1.lt B (.inl rfl)
    · rintro B rfl c L hL
      exact hA1.out B (.inl rfl) c L hL
  rw [hdst]
  show wpOpsIn (FW rc) n Tryz.prog ops14 _ ([1] ++ []) _ w5
  refine HOpsK.wpIn ?_ [1] (fr.put (some 41) (.str y)) σ1 ρ1 _ w5 (erOpsK_ok hA hV hc [1] _ _ h) hR2 (hS1.put (some 41) (by simp [VRel])) hds hF2 hA2
  intro fr σ2 ρ3 a3 w3 h hR hS hds hF hAs
  show restA.wpIn _ _ _ _ _ _
  exact HWp.at (hk fr σ2 h) (show RoundAt ρ3 none rc from hr) hR hS (hds ▸ Link.of_fr hF)

/-! ### The whole function -/
theorem seqsK_ok {P : Program} {E : Er α} (h1 : CodeK P φ E.code) {fin : HFrame → Store → α} {kx : KX α} {X : Code} (hf : ∀ fr σ, φ (fin fr σ) → HWp P none X (fun x fr σ => φ (kx x fr σ)) fr σ) :
    ∀ (l : List Code) (fr : HFrame) (σ : Store), φ (seqsK E fin kx l fr σ) → HWp P none (seqs l X) (fun x fr σ => φ (kx x fr σ)) fr σ
  | [], fr, σ, h => hf fr σ h
  | c :: l, fr, σ, h => by
    replace h : φ (E.code none c fr σ fun x fr σ => match x with
      | .normal => seqsK E fin kx l fr σ
      | x => kx x fr σ) := h
    refine HWp.seq ((h1 none c fr σ _ h).mono fun x fr σ hx => ?_)
    cases x with
    | normal => exact seqsK_ok h1 hf l fr σ hx
    | exit _ => exact hx
    | goto _ => exact hx
    | ret => exact hx
    | panic _ => exact hx

theorem nt_A : Tryz.f168.ntmps = 92 := by kernel_rfl

theorem erAppend_ok (hA : A.Good φ) {V : OpEv} (hV : V = evalOp Tryz.prog) {B : FuncId → Bool} (hB : ∀ f, B f = true → hasBody Tryz.prog f = true) {E : Er α} (h1 : CodeK Tryz.prog φ E.code) (h2 : FnK Tryz.prog φ E.fn) {args : List HV} {σ : Store} {k : KE α}
    (h : φ (erAppend A V Tryz.prog B E args σ k)) : HCall Tryz.prog 168 args σ (fun e σ => φ (k e σ)) := by
  unfold erAppend at h
  split at h
  · rename_i hn
    rw [Nat.ble_eq] at hn
    refine HCall.of_body func_A body_A (by rw [nt_A]; exact hn) ?_
    rw [nt_A]
    refine (seqsK_ok h1 (kx := leaveK A Tryz.prog Tryz.f168.results.toList k) (X := segA') ?_ preA _ σ h).mono fun x fr σ hx => leaveK_ok hA hx
    intro fr σ h
    exact segK_ok hA hV (erCall_ok hA hB h1 h2) (fun fr σ h => h1 none restA fr σ _ h) h
  · exact (hA.fail h).elim

/-! ### The evaluator that knows it -/
def erFnX (A : Ans α) (V : OpEv) (B D : FuncId → Bool) (S : Sums) (E : Er α) (f : FuncId) (args : List HV) (σ : Store) (k : KE α) : α :=
  Bool.rec (erFnD A V Tryz.prog D S E f args σ k) (erAppend A V Tryz.prog B E args σ k) (Nat.beq f 168)

theorem erFnX_ok (hA : A.Good φ) {V : OpEv} (hV : V = evalOp Tryz.prog) {B D : FuncId → Bool} (hB : ∀ f, B f = true → hasBody Tryz.prog f = true) {S : Sums} (hS : SumsOK Tryz.prog S) {E : Er α} (h1 : CodeK Tryz.prog φ E.code) (h2 : FnK Tryz.prog φ E.fn) : FnK Tryz.prog φ (erFnX A V B D S E) := by
  intro f args σ k h
  unfold erFnX at h
  cases hf : Nat.beq f 168 with
  | true =>
    rw [hf] at h
    have : f = 168 := by simpa using hf
    subst this
    exact erAppend_ok hA hV hB h1 h2 h
  | false =>
    rw [hf] at h
    exact erFnD_ok hA hV hS h1 f args σ k h

noncomputable def erX (A : Ans α) (V : OpEv) (B D : FuncId → Bool) (S : Sums) (n : Nat) : Er α := erG A V Tryz.prog B (erFnX A V B D S) n

theorem erX_ok (hA : A.Good φ) {V : OpEv} (hV : V = evalOp Tryz.prog) {B D : FuncId → Bool} (hB : ∀ f, B f = true → hasBody Tryz.prog f = true) {S : Sums} (hS : SumsOK Tryz.prog S) :
    ∀ n m, m ≤ n → CodeK Tryz.prog φ (erX A V B D S m).code ∧ FnK Tryz.prog φ (erX A V B D S m).fn := erG_ok hA hV mixed0 hB fun _ h1 h2 => erFnX_ok hA hV hB hS h1 h2

end
end Go.HI

/- A long closed run in pieces: between two pieces a frame and a store that are written down. -/
namespace Go.HI
open Go.Proofs
noncomputable section

/-! ### The summaries -/
def D0 (f : FuncId) : Bool := Nat.beq f 19 || Nat.beq f 105 || Nat.beq f 176
noncomputable def sums1 : Sums := fun f => if Nat.beq f 296 then some sumEffects else if Nat.beq f 225 then some sumTrimR else if Nat.beq f 291 then some sumAdd else if Nat.beq f 264 then some sumJoin else none
noncomputable def sums2 : Sums := fun f => if Nat.beq f 80 then some (sumMerge V0 Tryz.prog B0 D0 sums1 800 80) else if Nat.beq f 41 then some (sumMerge V0 Tryz.prog B0 D0 sums1 800 41) else sums1 f

theorem sums1_ok : SumsOK Tryz.prog sums1 := by
  intro f g hg args σ e σ' he R hR
  unfold sums1 at hg
  split at hg
  · rename_i hf
    have : f = 296 := by simpa using hf
    subst this
    cases hg
    exact (sumEffects_ok he).mono fun _ _ h => by rw [h.1, h.2]; exact hR
  split at hg
  · rename_i hf
    have : f = 225 := by simpa using hf
    subst this
    cases hg
    exact (sumTrimR_ok he).mono fun _ _ h => by rw [h.1, h.2]; exact hR
  split at hg
  · rename_i hf
    have : f = 291 := by simpa using hf
    subst this
    cases hg
    exact (sumAdd_ok he).mono fun _ _ h => by rw [h.1, h.2]; exact hR
  split at hg
  · rename_i hf
    have : f = 264 := by simpa using hf
    subst this
    cases hg
    exact (join_ok he).mono fun _ _ h => by rw [h.1, h.2]; exact hR
  · cases hg

theorem sums2_ok : SumsOK Tryz.prog sums2 := by
  intro f g hg args σ e σ' he R hR
  unfold sums2 at hg
  split at hg
  · rename_i hf
    have : f = 80 := by simpa using hf
    subst this
    rw [← Option.some.inj hg] at he
    exact sumMerge_ok V0_eq mixed0 B0_ok sums1_ok he hR
  split at hg
  · rename_i hf
    have : f = 41 := by simpa using hf
    subst this
    rw [← Option.some.inj hg] at he
    exact sumMerge_ok V0_eq mixed0 B0_ok sums1_ok he hR
  · exact sums1_ok f g hg args σ e σ' he R hR

/-! ### Yes or no -/
def AB : Ans Bool := { fail := false, both := fun a b => a && b, same := fun v v' a => HV.beq v v' && a }
theorem AB_good : AB.Good (fun b => b = true) where
  fail := by simp [AB]
  both := fun a b h => by simpa [AB] using h
  same := fun v v' a h => by
    simp only [AB, Bool.and_eq_true] at h
    exact ⟨HV.beq_eq _ _ h.1, h.2⟩

/-! ### What is written down -/
def mkT {α : Type} (l : List (Nat × α)) : T α := List.rec (motive := fun _ => T α) .e (fun p _ ih => T.set ih p.1 p.2) l

def anyB : HV → Bool
  | .any => true
  | _ => false

def slotB (x : HV) (y : HV) : Bool := Bool.rec (HV.beq x y) true (anyB x)
def frameLike (l : List (Nat × HV)) (nt : Nat) (gl : List Nat) (fr : HFrame) : Bool :=
  Nat.beq fr.nt nt && (fr.gl == gl && l.all fun p => HV.beq p.2 (fr.get p.1))

def keyFam (fams : List (Nat × Fam)) : HBlk → Bool
  | .cells _ (some (f, _, _)) => fams.any fun p => Nat.beq p.1 f
  | _ => true

def storeLike (bl : List (Nat × HBlk)) (fams : List (Nat × Fam)) (next : Nat) (gl : List Nat) (σ : Store) : Bool :=
  Nat.beq σ.next next && (σ.globs == gl && (bl.all (fun p => keyFam fams p.2 && (match σ.blks.get p.1 with | some y => HBlk.beq p.2 y | none => false)) &&
    fams.all (fun p => match σ.fams.get p.1 with | some y => Nat.beq p.2.floor y.floor && Nat.beq p.2.last y.last && Nat.beq p.2.top y.top | none => false)))

def frameOf (l : List (Nat × HV)) (nt : Nat) (gl : List Nat) : HFrame := { slots := mkT l, nt, gl }
def storeOf (bl : List (Nat × HBlk)) (fams : List (Nat × Fam)) (next : Nat) (gl : List Nat) : Store := { blks := mkT bl, next, fams := mkT fams, globs := gl }

theorem mkT_get {α : Type} : ∀ (l : List (Nat × α)) (b : Nat) (x : α), (mkT l).get b = some x → (b, x) ∈ l
  | [], b, x, h => by
    have : (T.e : T α).get b = none := T.get_e b
    rw [show mkT ([] : List (Nat × α)) = .e from rfl, this] at h
    cases h
  | p :: l, b, x, h => by
    rw [show mkT (p :: l) = T.set (mkT l) p.1 p.2 from rfl, T.get_set] at h
    split at h
    · rename_i e
      cases h
      rw [e]
      exact List.mem_cons_self ..
    · exact List.mem_cons_of_mem _ (mkT_get l b x h)

theorem mkT_has {α : Type} : ∀ (l : List (Nat × α)) (b : Nat), (∃ x, (b, x) ∈ l) → ∃ x, (mkT l).get b = some x
  | [], b, ⟨x, h⟩ => by cases h
  | p :: l, b, ⟨x, h⟩ => by
    rw [show mkT (p :: l) = T.set (mkT l) p.1 p.2 from rfl, T.get_set]
    split
    · exact ⟨_, rfl⟩
    · rename_i e
      rcases List.mem_cons.1 h with h | h
      · exact absurd (by rw [← h]) e
      · exact mkT_has l b ⟨x, h⟩

theorem SlotsRel.like {ρ : Ren} {l : List (Nat × HV)} {nt : Nat} {gl : List Nat} {fr : HFrame} {t : Array Value} (h : SlotsRel ρ fr t) (hl : frameLike l nt gl fr = true) : SlotsRel ρ (frameOf l nt gl) t := by
  simp only [frameLike, Bool.and_eq_true, beq_iff_eq, List.all_eq_true] at hl
  obtain ⟨h1, h2, h3⟩ := hl
  have h1 := Nat.eq_of_beq_eq_true h1
  refine ⟨by rw [h.1, h1]; rfl, fun i hi => ?_, fun g hg => h.2.2 g (by rw [h2]; exact hg)⟩
  simp only [HFrame.get, frameOf]
  cases hx : (mkT l).get i with
  | none => simp [VRel]
  | some x =>
    have := HV.beq_eq _ _ (h3 _ (mkT_get l i x hx))
    simp only [Option.getD_some]
    rw [show x = fr.get i from this]
    exact h.2.1 i (by rw [h1]; exact hi)

theorem Rel.like {ρ : Ren} {bl : List (Nat × HBlk)} {fams : List (Nat × Fam)} {next : Nat} {gl : List Nat} {σ : Store} {w : World} (h : Rel ρ σ w) (hl : storeLike bl fams next gl σ = true) : Rel ρ (storeOf bl fams next gl) w ∧ next = σ.next := by
  simp only [storeLike, Bool.and_eq_true, beq_iff_eq, List.all_eq_true] at hl
  obtain ⟨h1, h2, h3, h4⟩ := hl
  have h1 := Nat.eq_of_beq_eq_true h1
  have hb : ∀ b x, (mkT bl).get b = some x → σ.blks.get b = some x := by
    intro b x hx
    have := (h3 _ (mkT_get bl b x hx)).2
    split at this
    · rename_i y hy
      have e : x = y := HBlk.beq_eq this
      rw [e]
      exact hy
    · cases this
  have hf : ∀ f F, (mkT fams).get f = some F → σ.fams.get f = some F := by
    intro f F hF
    have := h4 _ (mkT_get fams f F hF)
    split at this
    · rename_i y hy
      simp only [Bool.and_eq_true] at this
      obtain ⟨⟨a, b⟩, c⟩ := this
      have a := Nat.eq_of_beq_eq_true a
      have b := Nat.eq_of_beq_eq_true b
      have c := Nat.eq_of_beq_eq_true c
      rw [hy]
      cases F; cases y
      simp only at a b c
      rw [a, b, c]
    · cases this
  have hval : ∀ k, (storeOf bl fams next gl).validK k = true → σ.validK k = true := by
    intro k hk
    cases k with
    | none => rfl
    | some k =>
      obtain ⟨f, p, v⟩ := k
      simp only [Store.validK, storeOf] at hk ⊢
      cases hF : (mkT fams).get f with
      | none => rw [hF] at hk; cases hk
      | some F => rw [hF] at hk; rw [hf f F hF]; exact hk
  refine ⟨⟨⟨fun b hlt => ?_, fun f hlt => ?_, fun b c f p v hx => ?_, fun b b' c c' f p p' v hx hx' => ?_⟩, fun b L hL => ?_, fun b L x hL hx => ?_, fun b b' L L' x x' hL hL' hx hx' hne he => ?_, fun g hg => ?_⟩, h1.symm⟩
  · cases hx : (mkT bl).get b with
    | none => exact hx
    | some x => 
      have := h.wf.fresh b (by rw [h1]; exact hlt)
      rw [hb b x hx] at this
      cases this
  · cases hx : (mkT fams).get f with
    | none => exact hx
    | some x =>
      have := h.wf.famFresh f (by rw [h1]; exact hlt)
      rw [hf f x hx] at this
      cases this
  · have hk := (h3 _ (mkT_get bl b _ hx)).1
    simp only [keyFam, List.any_eq_true] at hk
    obtain ⟨q, hq, he⟩ := hk
    have he := Nat.eq_of_beq_eq_true he
    obtain ⟨F, hF⟩ := mkT_has fams f ⟨q.2, by rw [← he]; exact hq⟩
    obtain ⟨F', g1, g2⟩ := h.wf.fam b c f p v (hb _ _ hx)
    rw [hf f F hF] at g1
    cases g1
    exact ⟨F, hF, g2⟩
  · exact h.wf.ver b b' c c' f p p' v (hb _ _ hx) (hb _ _ hx')
  · have := h.dom b L hL
    rw [h1] at this
    exact this
  · exact (h.blk b L x hL (hb _ _ hx)).keep (.refl _) (fun c k _ hk => hval k hk) rfl |> fun hB => by
      cases x with
      | cells c k => exact fun hk => hB hk
      | _ => exact hB
  · exact h.inj b b' L L' x x' hL hL' (hb _ _ hx) (hb _ _ hx') hne he
  · exact h.glob g (by rw [h2]; exact hg)

theorem HWp.like {P : Program} {c : Code} {Q : HExit → HFrame → Store → Prop} {l : List (Nat × HV)} {nt : Nat} {gl : List Nat} {bl : List (Nat × HBlk)} {fams : List (Nat × Fam)} {next : Nat} {gs : List Nat} {fr : HFrame} {σ : Store}
    (h : HWp P none c Q (frameOf l nt gl) (storeOf bl fams next gs)) (hf : frameLike l nt gl fr = true) (hs : storeLike bl fams next gs σ = true) : HWp P none c Q fr σ := by
  intro n ρ w a rc hr hR hS
  obtain ⟨hR', hn⟩ := hR.like hs
  have := h n ρ w a rc hr hR' (hS.like hf)
  rw [show (storeOf bl fams next gs).next = next from rfl, hn] at this
  exact this

/-- A piece of the run: it comes to the frame and the store that are written down. -/
def pieceB (n : Nat) (l : List Code) (fr : HFrame) (σ : Store) (fl : List (Nat × HV)) (nt : Nat) (gl : List Nat) (bl : List (Nat × HBlk)) (fams : List (Nat × Fam)) (next : Nat) (gs : List Nat) : Bool :=
  seqsK (erX AB V0 B0 D0 sums2 n) (fun fr σ => frameLike fl nt gl fr && storeLike bl fams next gs σ) (fun _ _ _ => false) l fr σ

theorem HWp.piece {n : Nat} {l : List Code} {X : Code} {fr : HFrame} {σ : Store} {fl : List (Nat × HV)} {nt : Nat} {gl : List Nat} {bl : List (Nat × HBlk)} {fams : List (Nat × Fam)} {next : Nat} {gs : List Nat} {Q : HExit → HFrame → Store → Prop}
    (h : pieceB n l fr σ fl nt gl bl fams next gs = true) (hX : HWp Tryz.prog none X Q (frameOf fl nt gl) (storeOf bl fams next gs)) : HWp Tryz.prog none (seqs l X) Q fr σ := by
  have hE := (erX_ok AB_good V0_eq B0_ok (D := D0) sums2_ok n n (Nat.le_refl _)).1
  have key : ∀ (l : List Code) (fr : HFrame) (σ : Store), seqsK (erX AB V0 B0 D0 sums2 n) (fun fr σ => frameLike fl nt gl fr && storeLike bl fams next gs σ) (fun _ _ _ => false) l fr σ = true → HWp Tryz.prog none (seqs l X) Q fr σ := by
    intro l
    induction l with
    | nil =>
      intro fr σ h
      have h : (frameLike fl nt gl fr && storeLike bl fams next gs σ) = true := h
      simp only [Bool.and_eq_true] at h
      exact hX.like h.1 h.2
    | cons c l ih =>
      intro fr σ h
      refine HWp.seq ((hE none c fr σ _ h).mono fun x fr σ hx => ?_)
      cases x with
      | normal => exact ih fr σ hx
      | exit _ => cases hx
      | goto _ => cases hx
      | ret => cases hx
      | panic _ => cases hx
  exact key l fr σ h

end
end Go.HI

/- Alternatives that come to the same but for what nobody names any more. -/
namespace Go.HI
open Go.Proofs
noncomputable section

variable {P : Program}

/-- What was there before, and what the result names. -/
def keepE (N : Nat) (e : HEnd) (b : Nat) (x : HBlk) : Bool := (Nat.blt b N && plainBlk b x) || not (e.refs (fun c => not (Nat.beq c b)))

/-- Only the newest of a family is left. -/
def Store.newest (σ : Store) (f : Nat) : Store := match σ.fams.get f with
  | some F => { σ with fams := σ.fams.set f { F with floor := max F.floor F.last } }
  | none => σ

theorem Store.newest_rel {ρ : Ren} {σ : Store} {w : World} (h : Rel ρ σ w) (f : Nat) : Rel ρ (σ.newest f) w := by
  unfold Store.newest
  split
  · rename_i F hF
    have hget : ∀ g G, ((σ.fams.set f { F with floor := max F.floor F.last }).get g = some G) → ∃ G0, σ.fams.get g = some G0 ∧ G0.floor ≤ G.floor ∧ G0.last = G.last ∧ G0.top = G.top := by
      intro g G hG
      rw [T.get_set] at hG
      split at hG
      · rename_i e
        cases hG
        exact ⟨F, by rw [e]; exact hF, Nat.le_max_left _ _, rfl, rfl⟩
      · exact ⟨G, hG, Nat.le_refl _, rfl, rfl⟩
    have hput : ∀ g G0, σ.fams.get g = some G0 → ∃ G, (σ.fams.set f { F with floor := max F.floor F.last }).get g = some G ∧ G0.floor ≤ G.floor ∧ G0.last = G.last ∧ G0.top = G.top := by
      intro g G0 hG
      rw [T.get_set]
      split
      · rename_i e
        rw [e, hF] at hG
        cases hG
        exact ⟨_, rfl, Nat.le_max_left _ _, rfl, rfl⟩
      · exact ⟨G0, hG, Nat.le_refl _, rfl, rfl⟩
    refine ⟨⟨h.wf.fresh, fun g hg => ?_, fun b c g p v hb => ?_, h.wf.ver⟩, h.dom, fun b L x hL hx => ?_, h.inj, h.glob⟩
    · cases hq : (σ.fams.set f { F with floor := max F.floor F.last }).get g with
      | none => rfl
      | some G =>
        obtain ⟨G0, h1, _⟩ := hget g G hq
        rw [h.wf.famFresh g hg] at h1
        cases h1
    · obtain ⟨G0, h1, h2, h3⟩ := h.wf.fam b c g p v hb
      obtain ⟨G, g1, g2, g3, g4⟩ := hput g G0 h1
      exact ⟨G, g1, by omega, fun hle => by rw [← g4]; exact h3 (by omega)⟩
    · have hval : ∀ k, Store.validK { σ with fams := σ.fams.set f { F with floor := max F.floor F.last } } k = true → σ.validK k = true := by
        intro k hk
        cases k with
        | none => rfl
        | some k =>
          obtain ⟨g, p, v⟩ := k
          simp only [Store.validK] at hk ⊢
          cases hq : (σ.fams.set f { F with floor := max F.floor F.last }).get g with
          | none => rw [hq] at hk; cases hk
          | some G =>
            rw [hq] at hk
            obtain ⟨G0, h1, h2, _⟩ := hget g G hq
            rw [h1]
            have hk : G.floor ≤ v := by simpa using hk
            simp only [decide_eq_true_eq]
            omega
      exact (h.blk b L x hL hx).keep (.refl _) (fun c k _ hk => hval k hk) rfl |> fun hB => by
        cases x with
        | cells c k => exact fun hk => hB hk
        | _ => exact hB
  · exact h

def famsOf (σ : Store) : HEnd → Option Nat
  | .returned (.slice (some (b, _)) _ _) => match σ.blks.get b with
    | some (.cells _ (some (f, _, _))) => some f
    | _ => none
  | _ => none

def tidy (N : Nat) (e : HEnd) (σ : Store) : Store := match famsOf σ e with
  | some f => (σ.drop (keepE N e)).newest f
  | none => σ.drop (keepE N e)

theorem tidy_rel {N : Nat} {e : HEnd} {ρ : Ren} {σ : Store} {w : World} (h : Rel ρ σ w) : Rel ρ (tidy N e σ) w := by
  unfold tidy
  split
  · exact Store.newest_rel (h.drop _) _
  · exact h.drop _
theorem newest_next (σ : Store) (f : Nat) : (σ.newest f).next = σ.next := by
  unfold Store.newest; split <;> rfl
theorem tidy_next {N : Nat} {e : HEnd} {σ : Store} : (tidy N e σ).next = σ.next := by
  unfold tidy
  split
  · rw [newest_next]; rfl
  · rfl

def outsD (N : Nat) : Outs → Outs
  | some l => some (l.map fun p => (p.1, tidy N p.1 p.2))
  | none => none

def sumMerge2 (V : OpEv) (P : Program) (B D : FuncId → Bool) (S : Sums) (n : Nat) (f : FuncId) (args : List HV) (σ : Store) : CallOut :=
  mergeOuts σ.next (outsD σ.next (callDL V P B D S n f args (σ.drop plainBlk)))

theorem sumMerge2_ok {V : OpEv} (hV : V = evalOp P) (hm : P.follows .mixedOrders = true) {B D : FuncId → Bool} {S : Sums} (hB : ∀ f, B f = true → hasBody P f = true) (hS : SumsOK P S) {n : Nat} {f : FuncId} {args : List HV} {σ : Store} {e : HEnd} {σ' : Store}
    (h : sumMerge2 V P B D S n f args σ = some (e, σ')) {R : HEnd → Store → Prop} (hR : R e σ') : HCall P f args σ R := by
  unfold sumMerge2 at h
  refine (HCall.drop plainBlk (HCall.merged (σ := σ.drop plainBlk) (l := outsD σ.next (callDL V P B D S n f args (σ.drop plainBlk))) (fun R hR => ?_) h)).mono fun e' σ'' ⟨h1, h2⟩ => by rw [h1, h2]; exact hR
  cases hl : callDL V P B D S n f args (σ.drop plainBlk) with
  | none => rw [hl] at h; cases h
  | some l =>
    rw [hl] at hR
    have hR : ∀ p ∈ l.map fun p => (p.1, tidy σ.next p.1 p.2), R p.1 p.2 := hR
    exact HCall.told (callDL_ok hV hm hB hS hl (R := fun e τ => R e (tidy σ.next e τ)) fun p hp => hR _ (List.mem_map.2 ⟨p, hp, rfl⟩)) fun e τ he => ⟨tidy σ.next e τ, he, tidy_next, fun ρ w hw => tidy_rel hw⟩

noncomputable def sums3 : Sums := fun f => if Nat.beq f 41 then some (sumMerge2 V0 Tryz.prog B0 D0 sums1 800 41) else sums2 f

theorem sums3_ok : SumsOK Tryz.prog sums3 := by
  intro f g hg args σ e σ' he R hR
  unfold sums3 at hg
  split at hg
  · rename_i hf
    have : f = 41 := by simpa using hf
    subst this
    rw [← Option.some.inj hg] at he
    exact sumMerge2_ok V0_eq mixed0 B0_ok sums1_ok he hR
  · exact sums2_ok f g hg args σ e σ' he R hR

end
end Go.HI
