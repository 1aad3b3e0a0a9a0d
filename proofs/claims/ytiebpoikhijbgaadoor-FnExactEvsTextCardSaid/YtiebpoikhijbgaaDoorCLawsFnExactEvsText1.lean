/- What the claim's law leans on: the program's functions, what they compute, and the law over plain values; no condition is asked. (Part 1 of 1.) -/
import Derived.Test.YtiebpoikhijbgaaDoorVFnExactEvsTextWords
import Derived.Test.YtiebpoikhijbgaaDoorVFnExactEvsTextLast
import Derived.Shelf.Strings.Builder1
import Derived.Shelf.Strings.Builder2
import Derived.Shelf.Strings.OnBuilder
import Derived.Shelf.Small.Strs
import Derived.Shelf.Strings.BuilderF
import Derived.Shelf.Strings.BuilderK
import Derived.Shelf.Utf8.RuneCount
import Derived.Shelf.Strings.Builder2Cap
import Derived.Shelf.Strconv.Atoi
import Derived.Shelf.Strconv.Itoa0
import Derived.Shelf.Strconv.Itoa1
import Derived.Shelf.LaysM
import Derived.Shelf.Strconv.Itoa2
import Derived.Shelf.Strconv.Itoa3
import Derived.Shelf.Strconv.AtoiErrFast
import Derived.Shelf.Strconv.ParseIntEmpty
import Derived.Shelf.Strconv.AtoiFail
import Derived.Shelf.Strconv.Clone
import Derived.Shelf.Strconv.SyntaxError
import Derived.Shelf.LaysC
import Derived.Shelf.Strconv.ToError
import Derived.Shelf.Strconv.Lower
import Derived.Shelf.Strconv.ParseUint10
import Derived.Shelf.Strconv.ParseUint10Empty
import Derived.Shelf.Strconv.ParseUint10Any
import Derived.Shelf.Strconv.ParseInt10
import Derived.Shelf.Strconv.AtoiLong
import Derived.Shelf.Strconv.AtoiInnerAll
import Derived.Shelf.Strconv.RangeError
import Derived.Shelf.Strconv.ToErrorRange
import Derived.Shelf.Strconv.AtoiAll
import Derived.Shelf.Strconv.ParseUintEmpty
import Derived.Shelf.Strconv.ParseUint10b64
import Derived.Shelf.Strconv.ParseUint10b32
import Derived.Shelf.Strconv.ParseUint10b16
import Derived.Shelf.Strconv.ParseUint10b8
import Derived.Shelf.Strings.Search1
import Derived.Shelf.Strings.Search2
import Derived.Shelf.Strings.Search3
import Derived.Shelf.Strings.Cut
import Derived.Shelf.Strings.Count
import Derived.Shelf.Strings.Shaped
import Derived.Shelf.Strings.Split
import Derived.Shelf.Strings.SplitShaped
import Derived.Shelf.Unicode.Decode
import Derived.Shelf.Strings.RuneCount
import Derived.Shelf.Strings.Explode
import Derived.Shelf.Unicode.DecodeSlow
import Derived.Shelf.Unicode.DecodeAny
import Derived.Test.YtiebpoikhijbgaaDoorProg
import Derived.Below
import Derived.Deep.Draws
import Derived.Deep.AppendLies
import Derived.Maps.AppendAt
import Derived.OwnWalk
import Derived.Laws.BytesArg
import Derived.Laws.MakeOwn
import Derived.Laws.OwnMore
import Derived.Deep.OwnRows
import Derived.Tactics
import Derived.Lib.ConvBytes
import Derived.Laws.Slices
import Derived.WalkKit
import Derived.KernelRfl
import Derived.RowKit3
import Derived.Deep.LoopGhost
import Derived.Deep.QuietTactic
import Derived.BigQuiet
import Derived.WideLaws
import Derived.Deep.DeepCutAuto
import Derived.Deep.CutBlock
import Derived.Deep.RegionHeld3
import Derived.Laws.Rows
import Derived.Lib.AppendStr
import Derived.ArgAppend
import Derived.Laws.IdiomCopy
import Derived.OrdersHeld
import Derived.Laws.BitsLemmas
import Derived.RowKit
import Derived.Test.YtiebpoikhijbgaaDoorVFnExactEvsTextTab
import Derived.Test.YtiebpoikhijbgaaDoorVFnExactEvsTextFour
import Derived.Test.YtiebpoikhijbgaaDoorVFnExactEvsTextQPut
import Derived.Test.YtiebpoikhijbgaaDoorVFnExactEvsTextApart
import Derived.Test.YtiebpoikhijbgaaDoorVFnExactEvsTextArr
import Derived.Test.YtiebpoikhijbgaaDoorVFnExactEvsTextZeros
import Derived.Test.YtiebpoikhijbgaaDoorVFnExactEvsTextFoot
import Derived.Test.YtiebpoikhijbgaaDoorVFnExactEvsTextKept
import Derived.Test.YtiebpoikhijbgaaDoorVFnExactEvsTextShare
import Derived.Test.YtiebpoikhijbgaaDoorVFnExactEvsTextN
import Derived.Test.YtiebpoikhijbgaaDoorVFnExactEvsTextFootNe
import Derived.Test.YtiebpoikhijbgaaDoorVFnExactEvsTextAt
import Derived.Test.YtiebpoikhijbgaaDoorVFnExactEvsTextEqStruct
import Derived.Test.YtiebpoikhijbgaaDoorVFnExactEvsTextRepsOne
import Derived.Test.YtiebpoikhijbgaaDoorVFnExactEvsTextInv
import Derived.Test.YtiebpoikhijbgaaDoorVFnExactEvsTextInvWords
import Derived.Test.YtiebpoikhijbgaaDoorVFnExactEvsTextGuard
import Derived.Test.YtiebpoikhijbgaaDoorVFnExactEvsTextNEv
import Derived.Test.YtiebpoikhijbgaaDoorVFnExactEvsTextMore
import Derived.Lib.ItoaNum
import Derived.Lib.AppendIntMem
import Derived.Test.YtiebpoikhijbgaaDoorRows
import Derived.LaidSub
import Derived.MakeChecks
import Derived.LaidMore
import Derived.Lib.LaidTab
import Derived.ProofKit
import Derived.SizedLaws
import Derived.ChangeSlices
import Derived.Lib.ItoaLen
import Derived.Lib.Join
namespace Go.Proofs.YtiebpoikhijbgaaDoor.M
set_option linter.unusedVariables false
set_option linter.unusedSimpArgs false
open Go.RowKit Go.Proofs.YtiebpoikhijbgaaDoorW.PrintWords Go.Proofs.YtiebpoikhijbgaaDoorW.PrintLast

theorem m0_ {p : Prop} (h : p) : Aside0 p := ⟨h⟩
theorem w_small {i : Int} (h0 : -9223372036854775808 ≤ i) (h1 : i ≤ 9223372036854775807) : wrap64 i = i := by
  unfold wrap64
  omega
theorem w_succ {n : Nat} (h : n < 9223372036854775807) : wrap64 ((n : Int) + 1) = ((n + 1 : Nat) : Int) := by
  unfold wrap64
  omega
theorem drop_at {α : Type} (xs : List α) (z : α) (n : Nat) (h : n < xs.length) : xs.drop n = xs.getD n z :: xs.drop (n + 1) := by
  rw [List.drop_eq_getElem_cons h, List.getD_eq_getElem?_getD, List.getElem?_eq_getElem h]
  rfl
theorem Ev.one {α : Type} {g : Nat → Option α} {r : α} (h : ∀ k, g k = some r) : Ev g r := ⟨0, fun k _ => h k⟩
theorem Ev.last {α : Type} {g : Nat → Option α} {r : α} (h : ∀ k, g (k + 1) = some r) : Ev g r := Ev.step (f := fun _ => some r) h (Ev.now r)
theorem Ev.pos {α : Type} {c : Prop} [Decidable c] {g f : Nat → Option α} {r : α} (h : c) (k : Ev g r) : Ev (fun n => if c then g n else f n) r := Ev.congr (fun _ => if_pos h) k
theorem Ev.neg {α : Type} {c : Prop} [Decidable c] {g f : Nat → Option α} {r : α} (h : ¬ c) (k : Ev f r) : Ev (fun n => if c then g n else f n) r := Ev.congr (fun _ => if_neg h) k
theorem Ev.val {α : Type} {g : Nat → Option α} {r r' : α} (h : Ev g r) (e : r = r') : Ev g r' := e ▸ h
theorem take_set {α : Type} (xs : List α) (n : Nat) (v : α) (h : n < xs.length) : (xs.set n v).take (n + 1) = xs.take n ++ [v] := by
  rw [List.take_succ_eq_append_getElem (by simpa using h), List.getElem_set_self, List.take_set_of_le (Nat.le_refl n)]
end Go.Proofs.YtiebpoikhijbgaaDoor.M
namespace Go.Proofs
open Go.Shelf
def Tryd.lays156_ren : Go.Shelf.Ren := ⟨fun | 156 => 29 | 165 => 47 | 166 => 48 | 169 => 49 | 240 => 57 | 241 => 58 | 276 => 67 | 277 => 68 | n => n, fun | 31 => 48 | 9 => 9 | 3 => 3 | 4 => 4 | 0 => 0 | 20 => 20 | 72 => 72 | 76 => 76 | 70 => 70 | 37 => 22 | 75 => 75 | 127 => 85 | 164 => 90 | 5 => 5 | 80 => 78 | n => n, fun | n => n⟩
theorem Tryd.lays156 : Go.Proofs.Lays.n156 Tryd.prog Tryd.lays156_ren := {
  mixed := by kernel_rfl
  f156 := Tryd.func29.trans (congrArg some (by kernel_rfl))
  f165 := Tryd.func47.trans (congrArg some (by kernel_rfl))
  f166 := Tryd.func48.trans (congrArg some (by kernel_rfl))
  f169 := Tryd.func49.trans (congrArg some (by kernel_rfl))
  f240 := Tryd.func57.trans (congrArg some (by kernel_rfl))
  f241 := Tryd.func58.trans (congrArg some (by kernel_rfl))
  f276 := Tryd.func67.trans (congrArg some (by kernel_rfl))
  f277 := Tryd.func68.trans (congrArg some (by kernel_rfl))
  t0 := Tryd.underlying0
  a0 := Tryd.isAgg0
  z0 := Tryd.sizeOf0
  v0 := Tryd.zeroValue0
  t3 := Tryd.underlying3
  a3 := Tryd.isAgg3
  z3 := Tryd.sizeOf3
  v3 := Tryd.zeroValue3
  t4 := Tryd.underlying4
  a4 := Tryd.isAgg4
  z4 := Tryd.sizeOf4
  v4 := Tryd.zeroValue4
  t9 := Tryd.underlying9
  a9 := Tryd.isAgg9
  z9 := Tryd.sizeOf9
  v9 := Tryd.zeroValue9
  t20 := Tryd.underlying20
  a20 := Tryd.isAgg20
  z20 := Tryd.sizeOf20
  v20 := Tryd.zeroValue20
  t31 := Tryd.underlying48
  a31 := Tryd.isAgg48
  z31 := Tryd.sizeOf48
  v31 := Tryd.zeroValue48
  t37 := Tryd.underlying22
  a37 := Tryd.isAgg22
  z37 := Tryd.sizeOf22
  v37 := Tryd.zeroValue22
  t70 := Tryd.underlying70
  a70 := Tryd.isAgg70
  z70 := Tryd.sizeOf70
  v70 := Tryd.zeroValue70
  t72 := Tryd.underlying72
  a72 := Tryd.isAgg72
  z72 := Tryd.sizeOf72
  v72 := Tryd.zeroValue72
  t75 := Tryd.underlying75
  a75 := Tryd.isAgg75
  z75 := Tryd.sizeOf75
  v75 := Tryd.zeroValue75
  t76 := Tryd.underlying76
  a76 := Tryd.isAgg76
  z76 := Tryd.sizeOf76
  v76 := Tryd.zeroValue76
  t127 := Tryd.underlying85
  a127 := Tryd.isAgg85
  z127 := Tryd.sizeOf85
  v127 := Tryd.zeroValue85
  t164 := Tryd.underlying90
  a164 := Tryd.isAgg90
  z164 := Tryd.sizeOf90
  v164 := Tryd.zeroValue90 }
theorem Tryd.Builder_Extra_156 : Builder.Extra Tryd.prog Tryd.lays156_ren := {
  sizeBuilder := by kernel_rfl
  liesBuilder := by kernel_rfl
  t5 := Tryd.underlying5
  a5 := Tryd.isAgg5
  z5 := Tryd.sizeOf5
  v5 := Tryd.zeroValue5
  infoByte := by kernel_rfl
  cellsByte := by kernel_rfl
  sizeByte := by kernel_rfl
  neB5 := by decide }
open Go.RowKit in
theorem Tryd.strings_Join (bk o c : Nat) (xs : List ByteArray) (sep : ByteArray) (w : World) (hcells : ∀ (j : Nat) x, xs[j]? = some x → w.cell? ⟨bk, o + j, none⟩ = some (.string x)) (hbk : bk < w.heap.size) (hN : xs.length ≤ 140737488355328) (hcap : xs.length ≤ c) (hlen : (Lib.join (xs.map (·.data.toList)) sep.data.toList).length ≤ 140737488355328) :
    Calls Tryd.prog 29 #[.slice (some ⟨bk, o, none⟩) xs.length c, .string sep] w fun e w' => e = .returned (.string ⟨(Lib.join (xs.map (·.data.toList)) sep.data.toList).toArray⟩) ∧ Below w.heap.size w w' := Any.strings_Join Tryd.lays156 Tryd.Builder_Extra_156 bk o c xs sep w hcells hbk hN hcap hlen
def Tryd.laysM171_ren : Go.Shelf.Ren := ⟨fun | 171 => 46 | 243 => 56 | 246 => 66 | 283 => 79 | 284 => 80 | 285 => 81 | 286 => 82 | 129 => 91 | 317 => 90 | 318 => 92 | 319 => 93 | 320 => 94 | 337 => 98 | 338 => 99 | n => n, fun | 3 => 3 | 9 => 9 | 2 => 2 | 4 => 4 | 171 => 102 | 0 => 0 | 53 => 103 | 37 => 22 | 5 => 5 | 173 => 106 | 212 => 116 | 51 => 117 | 20 => 20 | 213 => 118 | 46 => 108 | 232 => 131 | 233 => 132 | n => n, fun | 17 => 3 | 18 => 6 | 19 => 7 | n => n⟩
theorem Tryd.laysM171 : Go.Proofs.LaysM.n171 Tryd.prog Tryd.laysM171_ren := {
  mixed := by kernel_rfl
  f129 := Tryd.func91.trans (congrArg some (by kernel_rfl))
  f171 := Tryd.func46.trans (congrArg some (by kernel_rfl))
  f243 := Tryd.func56.trans (congrArg some (by kernel_rfl))
  f246 := Tryd.func66.trans (congrArg some (by kernel_rfl))
  f283 := Tryd.func79.trans (congrArg some (by kernel_rfl))
  f284 := Tryd.func80.trans (congrArg some (by kernel_rfl))
  f285 := Tryd.func81.trans (congrArg some (by kernel_rfl))
  f286 := Tryd.func82.trans (congrArg some (by kernel_rfl))
  f317 := Tryd.func90.trans (congrArg some (by kernel_rfl))
  f318 := Tryd.func92.trans (congrArg some (by kernel_rfl))
  f319 := Tryd.func93.trans (congrArg some (by kernel_rfl))
  f320 := Tryd.func94.trans (congrArg some (by kernel_rfl))
  f337 := Tryd.func98.trans (congrArg some (by kernel_rfl))
  f338 := Tryd.func99.trans (congrArg some (by kernel_rfl))
  t0 := Tryd.underlying0
  a0 := Tryd.isAgg0
  z0 := Tryd.sizeOf0
  v0 := Tryd.zeroValue0
  t2 := Tryd.underlying2
  a2 := Tryd.isAgg2
  z2 := Tryd.sizeOf2
  v2 := Tryd.zeroValue2
  t3 := Tryd.underlying3
  a3 := Tryd.isAgg3
  z3 := Tryd.sizeOf3
  v3 := Tryd.zeroValue3
  t4 := Tryd.underlying4
  a4 := Tryd.isAgg4
  z4 := Tryd.sizeOf4
  v4 := Tryd.zeroValue4
  t5 := Tryd.underlying5
  a5 := Tryd.isAgg5
  z5 := Tryd.sizeOf5
  v5 := Tryd.zeroValue5
  t9 := Tryd.underlying9
  a9 := Tryd.isAgg9
  z9 := Tryd.sizeOf9
  v9 := Tryd.zeroValue9
  t20 := Tryd.underlying20
  a20 := Tryd.isAgg20
  z20 := Tryd.sizeOf20
  v20 := Tryd.zeroValue20
  t37 := Tryd.underlying22
  a37 := Tryd.isAgg22
  z37 := Tryd.sizeOf22
  v37 := Tryd.zeroValue22
  t46 := Tryd.underlying108
  a46 := Tryd.isAgg108
  z46 := Tryd.sizeOf108
  v46 := Tryd.zeroValue108
  t51 := Tryd.underlying117
  a51 := Tryd.isAgg117
  z51 := Tryd.sizeOf117
  v51 := Tryd.zeroValue117
  t53 := Tryd.underlying103
  a53 := Tryd.isAgg103
  z53 := Tryd.sizeOf103
  v53 := Tryd.zeroValue103
  t171 := Tryd.underlying102
  a171 := Tryd.isAgg102
  z171 := Tryd.sizeOf102
  v171 := Tryd.zeroValue102
  t173 := Tryd.underlying106
  a173 := Tryd.isAgg106
  z173 := Tryd.sizeOf106
  v173 := Tryd.zeroValue106
  t212 := Tryd.underlying116
  a212 := Tryd.isAgg116
  z212 := Tryd.sizeOf116
  v212 := Tryd.zeroValue116
  t213 := Tryd.underlying118
  a213 := Tryd.isAgg118
  z213 := Tryd.sizeOf118
  t232 := Tryd.underlying131
  a232 := Tryd.isAgg131
  z232 := Tryd.sizeOf131
  v232 := Tryd.zeroValue131
  t233 := Tryd.underlying132
  a233 := Tryd.isAgg132
  z233 := Tryd.sizeOf132
  v233 := Tryd.zeroValue132
  g17 := by kernel_rfl
  g18 := by kernel_rfl
  g19 := by kernel_rfl
  i0 := by kernel_rfl
  i2 := by kernel_rfl
  i3 := by kernel_rfl
  i4 := by kernel_rfl
  i5 := by kernel_rfl
  i9 := by kernel_rfl
  i20 := by kernel_rfl
  i37 := by kernel_rfl
  i46 := by kernel_rfl
  i51 := by kernel_rfl
  i53 := by kernel_rfl
  i171 := by kernel_rfl
  i173 := by kernel_rfl
  i212 := by kernel_rfl
  i232 := by kernel_rfl
  i233 := by kernel_rfl
  m17 := by kernel_rfl
  m18 := by kernel_rfl
  m19 := by kernel_rfl }
open Go.RowKit Go.Sort Go.Lib in
theorem Tryd.strconv_Itoa (n : Int) (h0 : -9223372036854775808 ≤ n) (h1 : n ≤ 9223372036854775807) (w : World) (htab : Lib.TabIs Tryd.prog w "internal/strconv.uint64pow10" .u64 Lib.pow10Tab) :
    Calls Tryd.prog 46 #[.int .i64 n] w fun e w' => e = .returned (.string ⟨(Lib.itoa n).toArray⟩) ∧ ∃ k os, w' = grow (w.drewN k) os := Any.strconv_Itoa Tryd.laysM171 n h0 h1 w htab
end Go.Proofs
namespace Go.Proofs.YtiebpoikhijbgaaDoor.M
open Go.RowKit Go.Proofs.YtiebpoikhijbgaaDoorW.PrintWords Go.Proofs.YtiebpoikhijbgaaDoorW.PrintLast Go.Proofs.YtiebpoikhijbgaaDoorW.PrintMore
attribute [local go_sem] max2_int min2_int max_two min_two max_three min_three max_four min_four
set_option linter.unusedVariables false
set_option linter.unusedSimpArgs false

def errW : Option Int → Value
  | none => .nilIface
  | some c => .iface 0 (.int .i64 c)
theorem errW_none : errW none = .nilIface := rfl
theorem errW_some (c : Int) : errW (some c) = .iface 0 (.int .i64 c) := rfl

theorem info9 : (Tryd.prog.info? 9).map (fun i => (i.zero, i.size, i.bytes)) = some (some (.string ⟨#[]⟩), 1, 16) := by kernel_rfl
theorem info35 : (Tryd.prog.info? 35).map (fun i => (i.zero, i.size, i.bytes)) = some (some (.agg #[(.int .i64 0), (.int .i64 0), (.int .i64 0)]), 3, 24) := by kernel_rfl
structure S35 where
  f0 : Int
  f1 : Int
  f2 : Int
def z35 : S35 := ⟨(0 : Int), (0 : Int), (0 : Int)⟩
def k35 : Kd S35 := Kd.iso (Kd.pair (Kd.int .i64) (Kd.pair (Kd.int .i64) (Kd.int .i64))) (fun x : S35 => (x.f0, x.f1, x.f2))
theorem k35_open {w : World} {x : S35} {cs : List Value} (h : k35.K w x cs) : cs = [.int .i64 x.f0, .int .i64 x.f1, .int .i64 x.f2] := by
  obtain ⟨_, _, rfl, rfl, ⟨_, _, rfl, rfl, rfl⟩⟩ := h
  exact rfl
theorem k35_openM {w : World} {base : Nat} {ok : Nat → Prop} {x : S35} {cs : List Value} (h : k35.M w base ok x cs) : cs = [.int .i64 x.f0, .int .i64 x.f1, .int .i64 x.f2] := by
  obtain ⟨_, _, rfl, rfl, ⟨_, _, rfl, rfl, rfl⟩⟩ := h
  exact rfl
theorem k35_mkM (w : World) (base : Nat) (ok : Nat → Prop) (x : S35)  : k35.M w base ok x [.int .i64 x.f0, .int .i64 x.f1, .int .i64 x.f2] := ⟨[.int .i64 x.f0], [.int .i64 x.f1, .int .i64 x.f2], rfl, rfl, ⟨[.int .i64 x.f1], [.int .i64 x.f2], rfl, rfl, rfl⟩⟩
def rd_T35 (xs : List S35) (i : Int) : S35 := xs.getD i.toNat z35
theorem at_T35 {w : World} {A : Option Addr} {n : Nat} {xs : List S35} (h : Kd.C k35 w A n xs) (i : Int) (h0 : 0 ≤ i) (h1 : i < n) : ∃ ad , A = some ad ∧ w.cell? (ad.add (i.toNat * 3)) = some (.int .i64 (rd_T35 xs i).f0) ∧ w.cell? ⟨(ad.add (i.toNat * 3)).block, (ad.add (i.toNat * 3)).off + 1, none⟩ = some (.int .i64 (rd_T35 xs i).f1) ∧ w.cell? ⟨(ad.add (i.toNat * 3)).block, (ad.add (i.toNat * 3)).off + 2, none⟩ = some (.int .i64 (rd_T35 xs i).f2) := by
  obtain ⟨ad, c, e, _, hK, hc0⟩ := Kd.C_get h z35 i h0 h1
  have hc : ∀ j u, c[j]? = some u → w.cell? (ad.add (i.toNat * 3 + j)) = some u := hc0
  obtain rfl := k35_open hK
  exact ⟨ad, e, hc 0 _ rfl, by rw [← add_field _ _ 1 (by omega)]; exact hc 1 _ rfl, by rw [← add_field _ _ 2 (by omega)]; exact hc 2 _ rfl⟩

structure S65 where
  f0 : Int
  f1 : Int
  f2 : Int
def z65 : S65 := ⟨(0 : Int), (0 : Int), (0 : Int)⟩
def k65 : Kd S65 := Kd.iso (Kd.pair (Kd.int .i64) (Kd.pair (Kd.int .i64) (Kd.int .i64))) (fun x : S65 => (x.f0, x.f1, x.f2))
theorem k65_open {w : World} {x : S65} {cs : List Value} (h : k65.K w x cs) : cs = [.int .i64 x.f0, .int .i64 x.f1, .int .i64 x.f2] := by
  obtain ⟨_, _, rfl, rfl, ⟨_, _, rfl, rfl, rfl⟩⟩ := h
  exact rfl
def rd_T65 (xs : List S65) (i : Int) : S65 := xs.getD i.toNat z65
theorem at_T65 {w : World} {A : Option Addr} {n : Nat} {xs : List S65} (h : Kd.C k65 w A n xs) (i : Int) (h0 : 0 ≤ i) (h1 : i < n) : ∃ ad , A = some ad ∧ w.cell? (ad.add (i.toNat * 3)) = some (.int .i64 (rd_T65 xs i).f0) ∧ w.cell? ⟨(ad.add (i.toNat * 3)).block, (ad.add (i.toNat * 3)).off + 1, none⟩ = some (.int .i64 (rd_T65 xs i).f1) ∧ w.cell? ⟨(ad.add (i.toNat * 3)).block, (ad.add (i.toNat * 3)).off + 2, none⟩ = some (.int .i64 (rd_T65 xs i).f2) := by
  obtain ⟨ad, c, e, _, hK, hc0⟩ := Kd.C_get h z65 i h0 h1
  have hc : ∀ j u, c[j]? = some u → w.cell? (ad.add (i.toNat * 3 + j)) = some u := hc0
  obtain rfl := k65_open hK
  exact ⟨ad, e, hc 0 _ rfl, by rw [← add_field _ _ 1 (by omega)]; exact hc 1 _ rfl, by rw [← add_field _ _ 2 (by omega)]; exact hc 2 _ rfl⟩

end Go.Proofs.YtiebpoikhijbgaaDoor.M
namespace Go.Proofs.YtiebpoikhijbgaaDoor.M
set_option linter.unusedVariables false
set_option linter.unusedSimpArgs false
open Go.RowKit Go.Proofs.YtiebpoikhijbgaaDoorW.PrintWords Go.Proofs.YtiebpoikhijbgaaDoorW.PrintLast

def itoaB (a : Int) : ByteArray := ⟨(Lib.itoa a).toArray⟩
end Go.Proofs.YtiebpoikhijbgaaDoor.M
namespace Go.Proofs.YtiebpoikhijbgaaDoor.M
set_option linter.unusedVariables false
set_option linter.unusedSimpArgs false
open Go Go.RowKit Go.Proofs.YtiebpoikhijbgaaDoorW.PrintWords Go.Proofs.YtiebpoikhijbgaaDoorW.PrintLast Go.Proofs.YtiebpoikhijbgaaDoorW.PrintMore

def TabI (w : World) : Prop := Lib.TabIs Tryd.prog w "internal/strconv.uint64pow10" .u64 Lib.pow10Tab
theorem TabI.below {w w1 : World} (h : TabI w) (hb : Below w.heap.size w w1) : TabI w1 := Lib.tabBelow_of_tabIs h w1 hb
def ErrAt (w : World) (p : Nat) : Prop := ∃ ev, w.cell? ⟨p, 0, none⟩ = some ev ∧ (ev = .nilIface ∨ ∃ te pe, ev = .iface te pe)
theorem ErrAt.below {w w1 : World} {p : Nat} (h : ErrAt w p) (hb : Below w.heap.size w w1) : ErrAt w1 p := by
  obtain ⟨ev, h1, h2⟩ := h
  exact ⟨ev, (hb.cell (World.block_lt_of_cell? _ _ h1)).trans h1, h2⟩
def TabR (w : World) : Prop := ErrAt w 1 ∧ ErrAt w 2 ∧ ∃ m, w.cell? ⟨0, 0, none⟩ = some (.int .i64 m)
theorem TabR.below {w w1 : World} (h : TabR w) (hb : Below w.heap.size w w1) : TabR w1 := by
  obtain ⟨h1, h2, m, h3⟩ := h
  exact ⟨h1.below hb, h2.below hb, m, (hb.cell (World.block_lt_of_cell? _ _ h3)).trans h3⟩
theorem itoa_calls (a : Int) (h0 : -9223372036854775808 ≤ a) (h1 : a ≤ 9223372036854775807) (w : World) (ht : TabI w) : Calls Tryd.prog 46 #[.int .i64 a] w fun e w' => e = .returned (.string (itoaB a)) ∧ Below w.heap.size w w' := by
  refine (Tryd.strconv_Itoa a h0 h1 w ht).mono ?_
  rintro e w' ⟨rfl, k, os, rfl⟩
  exact ⟨rfl, Lib.below_grow _ w (Nat.le_refl _) k os⟩
def joinB (l : List ByteArray) (s : ByteArray) : ByteArray := ⟨(Lib.join (l.map (·.data.toList)) s.data.toList).toArray⟩
theorem join_calls (A : Option Addr) (c : Nat) (l : List ByteArray) (s : ByteArray) (w : World) (hr : Kd.C Kd.string w A l.length l) (hc : l.length ≤ c) (hn : l.length ≤ 140737488355328) (hl : (joinB l s).size ≤ 140737488355328) :
    Calls Tryd.prog 29 #[.slice A l.length c, .string s] w fun e w' => e = .returned (.string (joinB l s)) ∧ Below w.heap.size w w' := by
  cases hl0 : l with
  | nil =>
    refine (Any.strings_Join_none Tryd.lays156 Tryd.Builder_Extra_156 A c s w).mono ?_
    rintro e w' ⟨rfl, rfl⟩
    exact ⟨rfl, Below.refl _ _⟩
  | cons x r =>
    rw [← hl0]
    have hp : 0 < l.length := by rw [hl0]; simp
    have key : ∀ (j : Nat) y, l[j]? = some y → ∃ ad, A = some ad ∧ w.cell? (ad.add j) = some (.string y) := by
      intro j y hj
      obtain ⟨hlt, hy⟩ := List.getElem?_eq_some_iff.1 hj
      obtain ⟨ad, e1, e2⟩ := Kd.at_string hr (j : Int) (by omega) (by omega)
      refine ⟨ad, e1, ?_⟩
      rw [Int.toNat_natCast] at e2
      rw [e2]
      congr 2
      show l.getD (j : Int).toNat ByteArray.empty = y
      rw [Int.toNat_natCast, List.getD_eq_getElem?_getD, hj]
      rfl
    obtain ⟨⟨bk, o, sp⟩, rfl, h0⟩ := key 0 x (by rw [hl0]; rfl)
    have hs : sp = none := World.cell?_spot h0
    subst hs
    refine (Tryd.strings_Join bk o c l s w ?_ ?_ hn hc ?_).mono (fun e w' h => h)
    · intro j y hj
      obtain ⟨ad, e1, e2⟩ := key j y hj
      injection e1 with e1
      subst e1
      unfold Addr.add at e2
      by_cases hj0 : j = 0
      · subst hj0; simpa using e2
      · rw [if_neg hj0] at e2; exact e2
    · exact World.block_lt_of_cell? _ _ h0
    · have : (joinB l s).size = (Lib.join (l.map (·.data.toList)) s.data.toList).length := by simp [joinB, ByteArray.size]
      omega
end Go.Proofs.YtiebpoikhijbgaaDoor.M
namespace Go.Proofs.YtiebpoikhijbgaaDoor.M
set_option linter.unusedVariables false
set_option linter.unusedSimpArgs false
open Go Go.RowKit Go.Proofs.YtiebpoikhijbgaaDoorW.PrintWords Go.Proofs.YtiebpoikhijbgaaDoorW.PrintLast

theorem TabI_of_laid {W : World} {l : List (String × DataW Unit)} (h : laidMetH Tryd.prog l W) (hl : (l.filter fun x => x.1 == "internal/strconv.uint64pow10") = [("internal/strconv.uint64pow10", Rows.laid_internal_strconv_uint64pow10)]) : TabI W := by
  have h1 := h.filter (fun x => x.1 == "internal/strconv.uint64pow10")
  rw [hl, MakeChecks.laidMetH_plain _ _ _ (by kernel_rfl)] at h1
  have h2 : laidMet Tryd.prog (("internal/strconv.uint64pow10", Lib.tabData .u64 Lib.pow10Tab) :: []) W := h1
  exact Lib.tabIs_of_head (g := 3) (t := 116) (e := 103) (n := 20) (by kernel_rfl) (by kernel_rfl) Tryd.underlying116 Tryd.underlying103 (by kernel_rfl) (by kernel_rfl) h2
end Go.Proofs.YtiebpoikhijbgaaDoor.M
namespace Go.Proofs.YtiebpoikhijbgaaDoor.Opening
set_option linter.unusedVariables false
set_option linter.unusedSimpArgs false
open Go.ChangeShapes Go.WideShapes Go.RowKit Go.Proofs.YtiebpoikhijbgaaDoorW.PrintWords

def OpensAt {α : Type} (P : Program) (n : Nat) (t : TypeId) (d : Kd α) (good : α → Prop) : Prop :=
  P.cellsOf t = d.sz ∧ ∀ (H : Type) (enc : TypeId × Value → H) (w : World) (base : Nat) (spare : Nat → Bool) (held : Bool) (fuel : Nat) (cs : List Value) (x : DataW H × List MemPlace),
    fuel ≤ n → DataW.trod enc P w base spare held fuel t cs = some x → ∃ y, d.K w y cs ∧ good y

theorem OpensAt.less {α : Type} {P : Program} {n m : Nat} {t : TypeId} {d : Kd α} {good : α → Prop} (h : OpensAt P n t d good) (hm : m ≤ n) : OpensAt P m t d good :=
  ⟨h.1, fun H enc w base spare held fuel cs x hf hx => h.2 H enc w base spare held fuel cs x (Nat.le_trans hf hm) hx⟩

theorem opens_int {P : Program} {t : TypeId} {k : IntKind} (ht : P.underlying t = some (.int k)) (hc : P.cellsOf t = 1) (n : Nat) : OpensAt P n t (Kd.int k) (fun x => (Lit.int k x).wf = true) :=
  ⟨hc, fun H enc w base spare held fuel cs x _ hx => by
    obtain ⟨m, rfl, _, hw⟩ := DataW.trod_int ht hx
    exact ⟨m, rfl, hw⟩⟩

theorem list_of {α : Type} {Q : Nat → α → Prop} : ∀ n : Nat, (∀ i, i < n → ∃ y, Q i y) → ∃ xs : List α, xs.length = n ∧ ∀ i y, xs[i]? = some y → Q i y
  | 0, _ => ⟨[], rfl, fun i y h => by simp at h⟩
  | n + 1, h => by
    obtain ⟨xs, hl, hx⟩ := list_of n (fun i hi => h i (by omega))
    obtain ⟨y, hy⟩ := h n (by omega)
    refine ⟨xs ++ [y], by simp [hl], fun i z hz => ?_⟩
    rcases Nat.lt_or_ge i n with hi | hi
    · rw [List.getElem?_append_left (by omega)] at hz
      exact hx i z hz
    rw [List.getElem?_append_right (by omega)] at hz
    have : i = n := by
      rcases Nat.lt_or_ge (i - xs.length) 1 with h1 | h1
      · omega
      · rw [List.getElem?_eq_none (by simpa using h1)] at hz; cases hz
    subst this
    rw [hl] at hz
    simp at hz
    rw [← hz]
    exact hy

theorem opens_slice {α : Type} {P : Program} {t e : TypeId} {d : Kd α} {good : α → Prop} (ht : P.underlying t = some (.slice e)) (hc : P.cellsOf t = 1) (n : Nat) (h : OpensAt P n e d good) :
    OpensAt P (n + 1) t (Kd.slice e d) (fun xs => xs.length ≤ maxLen ∧ ∀ x ∈ xs, good x) :=
  ⟨hc, fun H enc w base spare held fuel cs x hf hx => by
    rcases DataW.trod_slice ht hx with ⟨rfl, _⟩ | ⟨a, len, cap, elems, rest, m, rfl, rfl, _, hb, hl, hm, hlen, hel, _, _⟩
    · exact ⟨[], ⟨none, 0, rfl, Nat.le_refl _, Kd.C_nil d w⟩, by simp, fun x hx => by simp at hx⟩
    have key : ∀ i, i < len → ∃ y, (∃ c, c.length = d.sz ∧ d.K w y c ∧ ∀ j u, c[j]? = some u → w.cell? (a.add (i * d.sz + j)) = some u) ∧ good y := by
      intro i hi
      have h0 := hel i hi
      rw [List.getElem?_eq_getElem (by omega)] at h0
      obtain ⟨cs', h1, h2⟩ := Option.bind_eq_some_iff.1 h0
      obtain ⟨y, hy, hg⟩ := h.2 H enc w base spare held m cs' _ (by omega) h2
      obtain ⟨_, hcl, hcc⟩ := World.cells?_some h1
      rw [h.1] at hcl hcc
      refine ⟨y, ⟨cs', hcl, hy, fun j u hu => ?_⟩, hg⟩
      have hj : j < d.sz := by
        have := (List.getElem?_eq_some_iff.1 hu).1
        omega
      have := hcc j hj
      rw [add_add] at this
      rw [this, hu]
    obtain ⟨xs, hxl, hxx⟩ := list_of len key
    subst hxl
    have h63 : xs.length ≤ 9223372036854775807 := by unfold maxLen at hm; omega
    refine ⟨xs, ⟨some a, cap, rfl, hl, rfl, h63, fun _ => ⟨a, rfl, fun j p hj => (hxx j p hj).1⟩⟩, by omega, fun y hy => ?_⟩
    obtain ⟨i, hi, he⟩ := List.getElem_of_mem hy
    exact (hxx i y (by rw [List.getElem?_eq_getElem hi, he])).2⟩

def OpensFields {β : Type} (P : Program) (n : Nat) (fs : List Field) (off : Nat) (d : Kd β) (good : β → Prop) : Prop :=
  ∀ (H : Type) (enc : TypeId × Value → H) (w : World) (base : Nat) (spare : Nat → Bool) (held : Bool) (fuel : Nat) (cs : List Value), fuel ≤ n → cs.length = off + d.sz →
    (∀ f ∈ fs, ∃ x, DataW.trod enc P w base spare held fuel f.type ((cs.drop f.offset).take (P.cellsOf f.type)) = some x) → ∃ y, d.K w y (cs.drop off) ∧ good y

theorem fields_last {β : Type} {P : Program} {n : Nat} {f : Field} {off : Nat} {d : Kd β} {good : β → Prop} (ho : f.offset = off) (h : OpensAt P n f.type d good) : OpensFields P n [f] off d good := by
  intro H enc w base spare held fuel cs hf hl hx
  obtain ⟨x, hx⟩ := hx f (by simp)
  rw [ho, h.1, List.take_of_length_le (by simp; omega)] at hx
  exact h.2 H enc w base spare held fuel _ x hf hx

theorem fields_cons {α β : Type} {P : Program} {n : Nat} {f : Field} {fs : List Field} {off : Nat} {a : Kd α} {b : Kd β} {ga : α → Prop} {gb : β → Prop} (ho : f.offset = off) (h : OpensAt P n f.type a ga) (k : OpensFields P n fs (off + a.sz) b gb) :
    OpensFields P n (f :: fs) off (Kd.pair a b) (fun y => ga y.1 ∧ gb y.2) := by
  intro H enc w base spare held fuel cs hf hl hx
  have hsz : (Kd.pair a b).sz = a.sz + b.sz := rfl
  obtain ⟨x, hx0⟩ := hx f (by simp)
  rw [ho, h.1] at hx0
  obtain ⟨y0, h0, g0⟩ := h.2 H enc w base spare held fuel _ x hf hx0
  obtain ⟨y1, h1, g1⟩ := k H enc w base spare held fuel cs hf (by omega) (fun f' hf' => hx f' (by simp [hf']))
  refine ⟨(y0, y1), ⟨(cs.drop off).take a.sz, cs.drop (off + a.sz), ?_, h0, h1⟩, g0, g1⟩
  rw [← List.drop_drop, List.take_append_drop]

theorem opens_struct {β : Type} {P : Program} {n : Nat} {t : TypeId} {fs : Array Field} {d : Kd β} {good : β → Prop} (ht : P.underlying t = some (.struct fs)) (hc : P.cellsOf t = d.sz) (h : OpensFields P n fs.toList 0 d good) : OpensAt P (n + 1) t d good :=
  ⟨hc, fun H enc w base spare held fuel cs x hf hx => by
    obtain ⟨xs, m, rfl, _, hl, hlen, hfs⟩ := DataW.trod_struct ht hx
    obtain ⟨y, hy, hg⟩ := h H enc w base spare held m cs (by omega) (by omega) (fun f hf' => by
      obtain ⟨i, hi, he⟩ := List.getElem_of_mem hf'
      have h1 := hfs i f (by simp only [Array.length_toList] at hi; rw [Array.getElem?_eq_getElem hi]; simpa using he)
      rw [h1]
      have hi2 : i < xs.length := by rw [hlen]; simpa using hi
      exact ⟨xs[i], List.getElem?_eq_getElem hi2⟩)
    exact ⟨y, by simpa using hy, hg⟩⟩

theorem OpensAt.iso {α β : Type} {P : Program} {n : Nat} {t : TypeId} {d : Kd α} {good : α → Prop} (f : β → α) (g : α → β) (hfg : ∀ y, f (g y) = y) (h : OpensAt P n t d good) : OpensAt P n t (Kd.iso d f) (fun x => good (f x)) :=
  ⟨h.1, fun H enc w base spare held fuel cs x hf hx => by
    obtain ⟨y, hy, hgy⟩ := h.2 H enc w base spare held fuel cs x hf hx
    refine ⟨g y, ?_, ?_⟩
    · show d.K w (f (g y)) cs
      rw [hfg]; exact hy
    · show good (f (g y))
      rw [hfg]; exact hgy⟩

theorem arg_slice {α : Type} {P : Program} {H : Type} {enc : TypeId × Value → H} {w : World} {base : Nat} {spare : Nat → Bool} {held : Bool} {t e : TypeId} {d : Kd α} {good : α → Prop} (ht : P.underlying t = some (.slice e)) (hc : P.cellsOf t = 1)
    (ho : ∀ n, OpensAt P n e d good) {A : Option Addr} {len cap : Nat} {x : DataW H} {ps : List MemPlace} (h : DataW.Trod enc P w base spare held t (.slice A len cap) x ps) :
    ∃ xs : List α, len = xs.length ∧ xs.length ≤ cap ∧ d.C w A xs.length xs ∧ xs.length ≤ maxLen ∧ ∀ y ∈ xs, good y := by
  obtain ⟨fuel, hf⟩ := h
  obtain ⟨xs, ⟨A', c', he, hl, hC⟩, h1, h2⟩ := (opens_slice ht hc fuel (ho fuel)).2 H enc w base spare held fuel _ _ (by omega) hf
  have he' : (#[Value.slice A len cap] : Array Value).toList = [.slice A' xs.length c'] := he
  simp at he'
  obtain ⟨rfl, rfl, rfl⟩ := he'
  exact ⟨xs, rfl, hl, hC, h1, h2⟩

end Go.Proofs.YtiebpoikhijbgaaDoor.Opening
namespace Go.Proofs.YtiebpoikhijbgaaDoor.M
open Go.RowKit Go.Proofs.YtiebpoikhijbgaaDoorW.PrintWords Go.Proofs.YtiebpoikhijbgaaDoorW.PrintLast Go.Proofs.YtiebpoikhijbgaaDoorW.PrintMore
attribute [local go_sem] max2_int min2_int max_two min_two max_three min_three max_four min_four
set_option linter.unusedVariables false
set_option linter.unusedSimpArgs false

end Go.Proofs.YtiebpoikhijbgaaDoor.M
namespace Go.Proofs.YtiebpoikhijbgaaDoor.M
open Go.RowKit Go.Proofs.YtiebpoikhijbgaaDoorW.PrintWords Go.Proofs.YtiebpoikhijbgaaDoor.Opening

def good65 (x : S65) : Prop := (Lit.int .i64 x.f0).wf = true ∧ (Lit.int .i64 x.f1).wf = true ∧ (Lit.int .i64 x.f2).wf = true
theorem opens65 (n : Nat) : OpensAt Tryd.prog n 65 k65 good65 := ((opens_struct (d := (Kd.pair (Kd.int .i64) (Kd.pair (Kd.int .i64) (Kd.int .i64)))) Tryd.underlying65 (by kernel_rfl) (fields_cons rfl (opens_int Tryd.underlying3 (by kernel_rfl) n) (fields_cons rfl (opens_int Tryd.underlying3 (by kernel_rfl) n) (fields_last rfl (opens_int Tryd.underlying3 (by kernel_rfl) n))))).iso (fun x : S65 => (x.f0, x.f1, x.f2)) (fun y => ⟨y.1, y.2.1, y.2.2⟩) (fun _ => rfl)).less (Nat.le_succ n)
end Go.Proofs.YtiebpoikhijbgaaDoor.M
namespace Go.Proofs.YtiebpoikhijbgaaDoor.M
open Go.RowKit Go.Proofs.YtiebpoikhijbgaaDoorW.PrintWords Go.Proofs.YtiebpoikhijbgaaDoorW.PrintLast Go.Proofs.YtiebpoikhijbgaaDoorW.PrintMore
attribute [local go_sem] max2_int min2_int max_two min_two max_three min_three max_four min_four
set_option linter.unusedVariables false
set_option linter.unusedSimpArgs false

def laws_szEvS.f (l0 : List (S65)) (a1 : Int) : Option (Int) := if (wrap64 (a1 - (l0.length : Int))) < 0 then (some (-1)) else (some (wrap64 (a1 - (l0.length : Int))))
set_option maxHeartbeats 8000000 in
set_option maxRecDepth 100000 in
theorem laws_szEvS.calls (A0 : Option Addr) (c0 : Nat) (l0 : List (S65)) (a1 : Int) (r : Int) (w : World) (hr0 : Kd.C k65 w A0 l0.length l0) (hc0 : l0.length ≤ c0) (h : laws_szEvS.f l0 a1 = some r) :
  Calls Tryd.prog 21 #[.slice A0 l0.length c0, .int .i64 a1] w fun e w' => e = .returned (.int .i64 r) ∧ Drawn0 w w' := by
 have HR0 := m0_ hr0
 have HC0 := m0_ hc0
 clear hr0 hc0
 have H : (if (wrap64 (a1 - (l0.length : Int))) < 0 then (some (-1)) else (some (wrap64 (a1 - (l0.length : Int))))) = some r := h
 clear h
 by_cases c3 : (wrap64 (a1 - (l0.length : Int))) < 0
 ·rw [if_pos c3] at H
  have c3b0 : decide ((wrap64 (a1 - (l0.length : Int))) < 0) = true := decide_eq_true c3
  clear c3
  obtain rfl := Option.some.inj H
  go_enter Tryd.func21, Tryd.ntmps21
  go_wp2
  go_ret
  exact ⟨by first | rfl | (simp;done) | (simp [*];done), by repeat (first | exact Drawn0.refl _ | apply Drawn0.step)⟩
 ·rw [if_neg c3] at H
  have c3b0 : decide ((wrap64 (a1 - (l0.length : Int))) < 0) = false := decide_eq_false c3
  clear c3
  obtain rfl := Option.some.inj H
  go_enter Tryd.func21, Tryd.ntmps21
  go_wp2
  go_ret
  exact ⟨by first | rfl | (simp;done) | (simp [*];done), by repeat (first | exact Drawn0.refl _ | apply Drawn0.step)⟩

end Go.Proofs.YtiebpoikhijbgaaDoor.M
namespace Go.Proofs.YtiebpoikhijbgaaDoor.M
open Go.RowKit Go.Proofs.YtiebpoikhijbgaaDoorW.PrintWords Go.Proofs.YtiebpoikhijbgaaDoorW.PrintLast Go.Proofs.YtiebpoikhijbgaaDoorW.PrintMore
theorem bx3 {w : World} {g : Nat} {t : TypeId} {v0 v1 v2 : Value} (h : w.heap[g]? = some (.cells #[v0, v1, v2] t (0, 0))) : w.cell? ⟨g, 0, none⟩ = some v0 ∧ w.cell? ⟨g, 1, none⟩ = some v1 ∧ w.cell? ⟨g, 2, none⟩ = some v2 ∧ w.frozen? ⟨g, 0, none⟩ = false ∧ w.frozen? ⟨g, 1, none⟩ = false ∧ w.frozen? ⟨g, 2, none⟩ = false := ⟨(blk_cell h 0).trans rfl, (blk_cell h 1).trans rfl, (blk_cell h 2).trans rfl, blk_frozen h 0, blk_frozen h 1, blk_frozen h 2⟩
section
variable {P : Program} {ops : Array Oper} {Q : Exit → Act → World → Prop} {md : Region.Mode} {S : World → Prop} {ds : List Nat}
theorem pv_ {oi : Oper} {v : Value} {fuel : Nat} {l : Array Bool} {a a' : Act} {w : World} (i N : Nat) (l' : Array Bool) (hc : anyB md ops l l' i = true) (h : wpAnyLast P md ops Q S ds fuel l' a' w) (hi : ops[i]? = some oi := by rfl) (hN : oi.dst = some N := by rfl)
    (hw : Region.wanted oi (yielded ops a.tmps) = true := by rfl) (hQ : ∀ c a w, Q (.panic c) (a.put oi.dst v) w → Q (.panic c) a w := by exact fun _ _ _ h => h) (hy : ∀ w', (execOp a.eval oi).run P w' = .ok (.value v) w' := by intro w'; go_simp; with_reducible rfl) (ha : a.put (some N) v = a' := by simp only [Act.put, List.setIfInBounds_toArray, List.set_cons_zero, List.set_cons_succ, i64_w, i32_w]; rfl) : wpAnyLast P md ops Q S ds (fuel + 1) l a w :=
  pure_ l' hi hN hc hQ (Or.inl ⟨hw, hy⟩) ha h
end
end Go.Proofs.YtiebpoikhijbgaaDoor.M
namespace Go.Proofs.YtiebpoikhijbgaaDoor.M
open Go.RowKit Go.Proofs.YtiebpoikhijbgaaDoorW.PrintWords Go.Proofs.YtiebpoikhijbgaaDoorW.PrintLast Go.Proofs.YtiebpoikhijbgaaDoorW.PrintMore
attribute [local go_sem] max2_int min2_int max_two min_two max_three min_three max_four min_four
set_option linter.unusedVariables false
set_option linter.unusedSimpArgs false

def laws_toEv.f (a0_0 : Int) (a0_1 : Int) (a0_2 : Int) : Option (Int × Int × Int) := some (a0_0, a0_1, a0_2)
set_option maxHeartbeats 8000000 in
set_option maxRecDepth 100000 in
theorem laws_toEv.calls (a0_0 : Int) (a0_1 : Int) (a0_2 : Int) (r1 : Int) (r2 : Int) (r3 : Int) (w : World) (h : laws_toEv.f a0_0 a0_1 a0_2 = some (r1, r2, r3)) :
  Calls Tryd.prog 42 #[.agg #[.int .i64 a0_0, .int .i64 a0_1, .int .i64 a0_2]] w fun e w' => e = .returned (.agg #[.int .i64 r1, .int .i64 r2, .int .i64 r3]) ∧ Below w.heap.size w w' := by
 have hu65 := Tryd.underlying65
 have hu35 := Tryd.underlying35
 have HB := m0_ (Below.refl w.heap.size w)
 have H : (some (a0_0, a0_1, a0_2)) = some (r1, r2, r3) := h
 clear h
 simp only [Option.some.injEq, Prod.mk.injEq] at H
 obtain ⟨rfl, rfl, rfl⟩ := H
 go_enter Tryd.func42, Tryd.ntmps42
 go_wp2_with (first | ((with_reducible refine gate_dst (N := 1) rfl ?_);refine box_event ?hg (N := 1) ?hd (cs := #[.int .i64 a0_0, .int .i64 a0_1, .int .i64 a0_2]) (t := 65) ?hr ?_;(case hd => rfl);(case hg => rfl);(case hr => first | (go_simp;done) | (go_simp;rfl));intro gb101 hg w2 hbox hb;have BK101 := m0_ (hbox);have GW101 := m0_ ((by rw [hg];exact (below_size (by exact HB.out)) : w.heap.size ≤ gb101));have GE101 := m0_ ((by rw [hg];exact (below_size (by exact HB.out)) : w.heap.size ≤ gb101));replace HB := m0_ (below_step (by exact HB.out) hb);clear hb hbox hg) | ((with_reducible refine gate_dst (N := 2) rfl ?_);refine box_event ?hg (N := 2) ?hd (cs := #[.int .i64 0, .int .i64 0, .int .i64 0]) (t := 35) ?hr ?_;(case hd => rfl);(case hg => rfl);(case hr => first | (go_simp;done) | (go_simp;rfl));intro gb102 hg w3 hbox hb;have BK102 := m0_ (hbox);have GW102 := m0_ ((by rw [hg];exact (below_size (by exact HB.out)) : w.heap.size ≤ gb102));have GE102 := m0_ ((by rw [hg];exact (below_size (by exact HB.out)) : w.heap.size ≤ gb102));replace HB := m0_ (below_step (by exact HB.out) hb);have NB101_102 := m0_ ((by rw [hg];exact Nat.ne_of_lt (blk_lt BK101.out) : gb101 ≠ gb102));have NB102_101 := m0_ ((by rw [hg];exact Nat.ne_of_gt (blk_lt BK101.out) : gb102 ≠ gb101));replace BK101 := m0_ (blk_below BK101.out hb);clear hb hbox hg) | ((with_reducible refine gate_dst (N := 3) rfl ?_);refine box_event ?hg (N := 3) ?hd (cs := #[.int .i64 0, .int .i64 0, .int .i64 0]) (t := 35) ?hr ?_;(case hd => rfl);(case hg => rfl);(case hr => first | (go_simp;done) | (go_simp;rfl));intro gb103 hg w4 hbox hb;have BK103 := m0_ (hbox);have GW103 := m0_ ((by rw [hg];exact (below_size (by exact HB.out)) : w.heap.size ≤ gb103));have GE103 := m0_ ((by rw [hg];exact (below_size (by exact HB.out)) : w.heap.size ≤ gb103));replace HB := m0_ (below_step (by exact HB.out) hb);have NB101_103 := m0_ ((by rw [hg];exact Nat.ne_of_lt (blk_lt BK101.out) : gb101 ≠ gb103));have NB103_101 := m0_ ((by rw [hg];exact Nat.ne_of_gt (blk_lt BK101.out) : gb103 ≠ gb101));replace BK101 := m0_ (blk_below BK101.out hb);have NB102_103 := m0_ ((by rw [hg];exact Nat.ne_of_lt (blk_lt BK102.out) : gb102 ≠ gb103));have NB103_102 := m0_ ((by rw [hg];exact Nat.ne_of_gt (blk_lt BK102.out) : gb103 ≠ gb102));replace BK102 := m0_ (blk_below BK102.out hb);clear hb hbox hg;have hnb5 := NB101_102.out;have hnc5 := NB102_101.out;have hnb6 := NB101_103.out;have hnc6 := NB103_101.out;obtain ⟨hcz7_0, hcz7_1, hcz7_2, hfz7_0, hfz7_1, hfz7_2⟩ := bx3 BK101.out;have hnb8 := NB103_102.out;have hnc8 := NB102_103.out;obtain ⟨hcz9_0, hcz9_1, hcz9_2, hfz9_0, hfz9_1, hfz9_2⟩ := bx3 BK103.out;obtain ⟨hcz10_0, hcz10_1, hcz10_2, hfz10_0, hfz10_1, hfz10_2⟩ := bx3 BK102.out))
 refine bodyPost_ret (results_cell_row rfl _ _ gb102 35 #[.int .i64 a0_0, .int .i64 a0_1, .int .i64 a0_2] (0, 0) _ rfl (by (with_reducible repeat (first | refine blk_drewN ?_ _ | refine blk_drew ?_ | refine blk_alloc ?_ _));refine blk_put (cs := #[.int .i64 a0_0, .int .i64 a0_1, .int .i64 0]) ?_ 2 _ rfl;(with_reducible repeat (first | refine blk_drewN ?_ _ | refine blk_drew ?_ | refine blk_alloc ?_ _));refine blk_put (cs := #[.int .i64 a0_0, .int .i64 0, .int .i64 0]) ?_ 1 _ rfl;(with_reducible repeat (first | refine blk_drewN ?_ _ | refine blk_drew ?_ | refine blk_alloc ?_ _));refine blk_put (cs := #[.int .i64 0, .int .i64 0, .int .i64 0]) ?_ 0 _ rfl;(with_reducible repeat (first | refine blk_drewN ?_ _ | refine blk_drew ?_ | refine blk_alloc ?_ _));refine blk_far ?_ NB102_103.out _;(with_reducible repeat (first | refine blk_drewN ?_ _ | refine blk_drew ?_ | refine blk_alloc ?_ _));refine blk_far ?_ NB102_103.out _;(with_reducible repeat (first | refine blk_drewN ?_ _ | refine blk_drew ?_ | refine blk_alloc ?_ _));refine blk_far ?_ NB102_103.out _;(with_reducible repeat (first | refine blk_drewN ?_ _ | refine blk_drew ?_ | refine blk_alloc ?_ _));exact BK102.out) Tryd.underlying35 rfl (by kernel_rfl)) rfl ?_
 exact ⟨by first | rfl | (simp [errW_none, errW_some] <;> rfl) | (simp [*, errW_none, errW_some] <;> rfl), by repeat (first | (with_reducible first | exact HB.out | apply below_alloc | apply pw_below_drewN | apply below_drew1 | refine below_set ?_ GE101.out | refine below_set ?_ GE102.out | refine below_set ?_ GE103.out) | exact HB.out)⟩

def laws_toEvS.l0 : Nat → List (S65) → List (S35) → Int → Option ((List (S35)))
 | 0, _, _, _ => none
 | k + 1, x0, x3, x4 => if x4 < (x0.length : Int) then (if 0 ≤ x4 then ((laws_toEv.f ((rd_T65 x0 x4).f0) ((rd_T65 x0 x4).f1) ((rd_T65 x0 x4).f2)).bind fun bt105 => (if x4 < (x3.length : Int) then (laws_toEvS.l0 k x0 (x3.set (x4 : Int).toNat (⟨bt105.1, bt105.2.1, bt105.2.2⟩ : S35)) (wrap64 (x4 + 1))) else (none))) else (none)) else (some x3)
def laws_toEvS.f (k : Nat) (l0 : List (S65)) : Option ((List (S35))) := if 0 ≤ (l0.length : Int) then (if ((l0.length : Int) : Int).toNat ≤ 11728124029610 then (laws_toEvS.l0 k l0 (List.replicate ((l0.length : Int) : Int).toNat z35) 0) else (none)) else (none)
set_option maxHeartbeats 8000000 in
set_option maxRecDepth 100000 in
theorem laws_toEvS.calls (k : Nat) (A0 : Option Addr) (c0 : Nat) (l0 : List (S65)) (r : List (S35)) (w : World) (hr0 : Kd.C k65 w A0 l0.length l0) (hc0 : l0.length ≤ c0) (h : laws_toEvS.f k l0 = some r) :
  Calls Tryd.prog 22 #[.slice A0 l0.length c0] w fun e w' => ∃ v0_ : Value, e = .returned (v0_) ∧ Kd.R k35 35 w' w.heap.size (fun _ => True) v0_ r ∧ Below w.heap.size w w' := by
 have hu65 := Tryd.underlying65
 have hu35 := Tryd.underlying35
 have HR0 := m0_ hr0
 have HC0 := m0_ hc0
 clear hr0 hc0
 have HB := m0_ (Below.refl w.heap.size w)
 have H : (if 0 ≤ (l0.length : Int) then (if ((l0.length : Int) : Int).toNat ≤ 11728124029610 then (laws_toEvS.l0 k l0 (List.replicate ((l0.length : Int) : Int).toNat z35) 0) else (none)) else (none)) = some r := h
 clear h
 by_cases c2 : 0 ≤ (l0.length : Int)
 rotate_left
 ·rw [if_neg c2] at H
  exact absurd H (by simp)
 rw [if_pos c2] at H
 have c2b0 := eq_true c2
 have c2b1 : decide (0 ≤ (l0.length : Int)) = true := decide_eq_true c2
 clear c2
 by_cases c3 : ((l0.length : Int) : Int).toNat ≤ 11728124029610
 rotate_left
 ·rw [if_neg c3] at H
  exact absurd H (by simp)
 rw [if_pos c3] at H
 have c3b0 := eq_true c3
 have c3b1 : decide (((l0.length : Int) : Int).toNat ≤ 11728124029610) = true := decide_eq_true c3
 clear c3
 obtain ⟨y101, hy101⟩ : ∃ y_ : List (S35), y_ = (List.replicate ((l0.length : Int) : Int).toNat z35) := ⟨_, rfl⟩
 replace H : (laws_toEvS.l0 k l0 y101 0) = some r := by first | (rw [hy101];with_reducible exact H) | (have H2_ := (Option.bind_some _ _).symm.trans H;rw [hy101];with_reducible exact H2_) | (have H2_ := (Option.bind_some _ _).symm.trans H;with_reducible exact H2_) | with_reducible exact H | (rw [hy101];exact H) | exact H
 have Ny101 := m0_ hy101
 clear hy101
 have H' := m0_ H
 clear H
 go_enter Tryd.func22, Tryd.ntmps22
 go_wp2_with (first | ((with_reducible refine gate_dst (N := 7) rfl ?_);refine Kd.R_make k35 _ 35 rfl (N := 7) rfl 23 _ _ rfl (l0.length : Int) rfl rfl Tryd.underlying23 (.agg #[(.int .i64 0), (.int .i64 0), (.int .i64 0)]) 24 info35 rfl (by decide) (by omega) z35 (ok := fun _ => True) (okp := fun _ => True) (k35_mkM _ _ _ z35 ) (fun _ hk => hk) trivial (of_decide_eq_true (by first | (with_reducible assumption) | assumption)) (Nat.le_trans (Nat.mul_le_mul_right _ (of_decide_eq_true (by first | (with_reducible assumption) | assumption) : (l0.length : Int).toNat ≤ 11728124029610)) (by omega)) (Below.refl _ _) (Nat.le_refl _) ?_;intro v102 w4 ho5 hb hg_ hnew_;clear hg_ hnew_;(first | rw [← Ny101.out] at ho5 | (simp only [Int.reduceToNat] at ho5;rw [← Ny101.out] at ho5));have HO103 := m0_ (Kd.R_lower ho5 (below_size (by exact HB.out)));replace HB := m0_ (below_step (by exact HB.out) hb);clear hb ho5))
 go_loopg [4] k (fun kq v4 w' => ∃ (x3_1 : List (S35)) (x4_1 : Int), v4 = .int .i64 x4_1 ∧ Aside0 (laws_toEvS.l0 kq l0 x3_1 x4_1 = some r) ∧ Aside0 (kq ≤ k) ∧ Aside0 (Kd.R k35 35 w' w.heap.size (fun _ => True) v102 x3_1) ∧ Aside0 (Below w.heap.size w w'))
 case atStart => exact ⟨(y101), (0), (by first | rfl | (simp;done) | (simp [*];done)), H', ⟨Nat.le_refl _⟩, ⟨by (with_reducible repeat (first | apply Kd.R_alloc | apply Kd.R_drewN | apply Kd.R_drew));exact HO103.out⟩, ⟨by repeat (first | (with_reducible first | exact HB.out | apply below_alloc | apply pw_below_drewN | apply below_drew1) | exact HB.out)⟩⟩
 case round =>
  clear H'
  try clear c2
  try clear c2b0
  try clear c2b1
  try clear p2
  try clear c3
  try clear c3b0
  try clear c3b1
  obtain ⟨x3_1, x4_1, rfl, HA, HK1, HO_3, HB⟩ := hrel
  cases gk with
  | zero => exact absurd HA.out (by simp [laws_toEvS.l0])
  | succ k1 =>
   have H := HA.out
   clear HA
   simp only [laws_toEvS.l0] at H
   by_cases c6 : x4_1 < (l0.length : Int)
   rotate_left
   ·rw [if_neg c6] at H
    have c6b0 : decide (x4_1 < (l0.length : Int)) = false := decide_eq_false c6
    clear c6
    obtain rfl := Option.some.inj H
    go_wp2
    go_ret
    exact ⟨_, by first | rfl | (simp [errW_none, errW_some] <;> rfl) | (simp [*, errW_none, errW_some] <;> rfl), by (with_reducible repeat (first | apply Kd.R_alloc | apply Kd.R_drewN | apply Kd.R_drew));exact HO_3.out, by repeat (first | (with_reducible first | exact HB.out | apply below_alloc | apply pw_below_drewN | apply below_drew1) | exact HB.out)⟩
   rw [if_pos c6] at H
   have c6b0 : decide (x4_1 < (l0.length : Int)) = true := decide_eq_true c6
   clear c6
   by_cases c7 : 0 ≤ x4_1
   rotate_left
   ·rw [if_neg c7] at H
    exact absurd H (by simp)
   rw [if_pos c7] at H
   have c7b0 : decide (0 ≤ x4_1) = true := decide_eq_true c7
   clear c7
   replace H := Option.bind_eq_some_iff.mp H
   obtain ⟨⟨t105, t106, t107⟩, A80, H⟩ := H
   replace H : (if x4_1 < (x3_1.length : Int) then (laws_toEvS.l0 k1 l0 (x3_1.set (x4_1 : Int).toNat (⟨t105, t106, t107⟩ : S35)) (wrap64 (x4_1 + 1))) else (none)) = some r := H
   have A8 := m0_ A80
   clear A80
   by_cases c9 : x4_1 < (x3_1.length : Int)
   rotate_left
   ·rw [if_neg c9] at H
    exact absurd H (by simp)
   rw [if_pos c9] at H
   have c9b0 : decide (x4_1 < (x3_1.length : Int)) = true := decide_eq_true c9
   clear c9
   obtain ⟨y108, hy108⟩ : ∃ y_ : List (S35), y_ = (x3_1.set (x4_1 : Int).toNat (⟨t105, t106, t107⟩ : S35)) := ⟨_, rfl⟩
   replace H : (laws_toEvS.l0 k1 l0 y108 (wrap64 (x4_1 + 1))) = some r := by first | (rw [hy108];with_reducible exact H) | (have H2_ := (Option.bind_some _ _).symm.trans H;rw [hy108];with_reducible exact H2_) | (have H2_ := (Option.bind_some _ _).symm.trans H;with_reducible exact H2_) | with_reducible exact H | (rw [hy108];exact H) | exact H
   have Ny108 := m0_ hy108
   clear hy108
   have H' := m0_ H
   clear H
   have p104 : 0 ≤ (x4_1 : Int) := of_decide_eq_true (by first | (with_reducible assumption) | assumption)
   have q104 : x4_1 < (l0.length : Int) := of_decide_eq_true (by first | (with_reducible assumption) | assumption)
   obtain ⟨ad104, e104, hx104_0, hx104_1, hx104_2⟩ := at_T65 HR0.out x4_1 p104 q104
   cases e104
   replace hx104_0 := (HB.out.cell (World.block_lt_of_cell? w _ hx104_0)).trans hx104_0
   replace hx104_1 := (HB.out.cell (World.block_lt_of_cell? w _ hx104_1)).trans hx104_1
   replace hx104_2 := (HB.out.cell (World.block_lt_of_cell? w _ hx104_2)).trans hx104_2
   replace p104 := eq_true p104
   replace q104 := eq_true q104
   go_wp2_with (first | ((with_reducible refine gate_callee (f := 42) rfl ?_);refine goesL_ (some 20) rfl rfl Tryd.func42 (by kernel_rfl) rfl #[.agg #[.int .i64 ((rd_T65 l0 x4_1).f0), .int .i64 ((rd_T65 l0 x4_1).f1), .int .i64 ((rd_T65 l0 x4_1).f2)]] rfl (by (try simp only [List.map_toArray, List.map_cons, List.map_nil]);first | done | rfl | (simp only [List.length_drop, List.length_take];rfl)) ?_;(with_reducible refine (laws_toEv.calls ((rd_T65 l0 x4_1).f0) ((rd_T65 l0 x4_1).f1) ((rd_T65 l0 x4_1).f2) t105 t106 t107 _ A8.out).mono ?_);rintro e w11 ⟨rfl, hb⟩;refine ⟨_, rfl, ?_⟩;replace HO_3 := m0_ (Kd.R_below (by exact HO_3.out) hb);replace HB := m0_ (below_step (by exact HB.out) hb);(try clear hb);(try clear hb2);(try clear hk);(try clear hi);have p10 : 0 ≤ (x4_1 : Int) := of_decide_eq_true (by first | (with_reducible assumption) | assumption);have q10 : (x4_1 : Int) < ((x3_1.length : Int) : Int) := of_decide_eq_true (by first | (with_reducible assumption) | assumption);obtain ⟨go10, co10, eo10, gb10, gl10, cl10, HG10⟩ := Kd.R_form HO_3.out (by omega);(first | cases eo10 | (injection eo10 with ea_ en_ ec_;(first | subst ea_ | (injection ea_ with ea_;subst ea_));subst ec_;clear en_));have GB10 := m0_ gb10;have GG10 := m0_ HG10;clear gb10 gl10 HG10;obtain ⟨ce10, hcl10, hM10, hcc10, hfr10⟩ := Kd.R_elem HO_3.out z35 (x4_1 : Int) p10 q10;obtain rfl := k35_openM hM10;have hx10_0 : w11.cell? ⟨go10, (x4_1 : Int).toNat * 3, none⟩ = some (.int .i64 ((rd_T35 x3_1 x4_1).f0)) := hcc10 0 _ rfl;have hx10_1 : w11.cell? ⟨go10, (x4_1 : Int).toNat * 3 + 1, none⟩ = some (.int .i64 ((rd_T35 x3_1 x4_1).f1)) := hcc10 1 _ rfl;have hx10_2 : w11.cell? ⟨go10, (x4_1 : Int).toNat * 3 + 2, none⟩ = some (.int .i64 ((rd_T35 x3_1 x4_1).f2)) := hcc10 2 _ rfl;have hf10_0 : w11.frozen? ⟨go10, (x4_1 : Int).toNat * 3, none⟩ = false := hfr10 0;have hf10_1 : w11.frozen? ⟨go10, (x4_1 : Int).toNat * 3 + 1, none⟩ = false := hfr10 1;have hf10_2 : w11.frozen? ⟨go10, (x4_1 : Int).toNat * 3 + 2, none⟩ = false := hfr10 2;clear hcl10 hcc10 hfr10 hM10;replace p10 := eq_true p10;replace q10 := eq_true q10;have HX12 := m0_ (show Kd.R k35 35 w11 w.heap.size (fun _ => True) (.slice (some ⟨go10, 0, none⟩) x3_1.length co10) x3_1 from (by exact HO_3.out));obtain ⟨ce12, hcl12, hM12, hcc12, hfr12⟩ := Kd.R_elem HX12.out z35 (x4_1 : Int) (of_decide_eq_true (by first | (with_reducible assumption) | assumption)) (by have h_ : (x4_1 : Int) < ((x3_1.length : Int) : Int) := of_decide_eq_true (by first | (with_reducible assumption) | assumption);first | exact h_ | (have e_ := (Kd.R_reads' HO_3.out).1;omega) | simpa using h_);obtain rfl := k35_openM hM12;have HP12 := Kd.R_seg HX12.out (x4_1 : Int) (of_decide_eq_true (by first | (with_reducible assumption) | assumption)) (by have h_ : (x4_1 : Int) < ((x3_1.length : Int) : Int) := of_decide_eq_true (by first | (with_reducible assumption) | assumption);first | exact h_ | (have e_ := (Kd.R_reads' HO_3.out).1;omega) | simpa using h_) (seg := [.int .i64 t105, .int .i64 t106, .int .i64 t107]) (j := 0) hcl12 hcc12 (show 3 ≤ 3 from by decide) (x' := (⟨t105, t106, t107⟩ : S35)) (k35_mkM _ _ _ (⟨t105, t106, t107⟩ : S35) ) (fun _ hk => hk);have hx12_0 := hcc12 0 _ rfl;(try simp only [show (k35).sz = 3 from rfl, Nat.mul_one, Nat.add_zero] at hx12_0);have hf12_0 := hfr12 0;(try simp only [show (k35).sz = 3 from rfl, Nat.mul_one, Nat.add_zero] at hf12_0);have hx12_1 := hcc12 1 _ rfl;(try simp only [show (k35).sz = 3 from rfl, Nat.mul_one, Nat.add_zero] at hx12_1);have hf12_1 := hfr12 1;(try simp only [show (k35).sz = 3 from rfl, Nat.mul_one, Nat.add_zero] at hf12_1);have hx12_2 := hcc12 2 _ rfl;(try simp only [show (k35).sz = 3 from rfl, Nat.mul_one, Nat.add_zero] at hx12_2);have hf12_2 := hfr12 2;(try simp only [show (k35).sz = 3 from rfl, Nat.mul_one, Nat.add_zero] at hf12_2);clear hcl12 hcc12 hfr12 hM12) | ((with_reducible refine gate_store (t := 35) (p := 21) rfl ?_);refine store_event (t := 35) (p := 21) (v := ?vo_w13) (w1 := (((w11.setCell ⟨go10, (x4_1 : Int).toNat * 3, none⟩ (.int .i64 t105)).setCell ⟨go10, (x4_1 : Int).toNat * 3 + 1, none⟩ (.int .i64 t106)).setCell ⟨go10, (x4_1 : Int).toNat * 3 + 2, none⟩ (.int .i64 t107))) ?hg ?ho ?hn ?hr ?_;(case ho => rfl);(case hg => rfl);(case hn => rfl);(case hr => first | (go_simp;done) | (go_simp;rfl));intro w13 hw;have hg : w11.grownBy w13 (some go10) := (by rw [hw];exact HP12.2);have hp_ : Kd.R k35 35 w13 w.heap.size (fun _ => True) (.slice (some ⟨go10, 0, none⟩) x3_1.length co10) y108 := (by rw [hw, Ny108.out];exact HP12.1);clear HP12;replace HO_3 := m0_ (hp_);replace HB := m0_ ((by rw [hw];exact below_set (below_set (below_set (HB.out) GB10.out) GB10.out) GB10.out : Below w.heap.size w w13));clear hg hw hp_))
   go_roundg k1
   case measure => have := HK1.out;omega
   case rel => exact ⟨(y108), (wrap64 (x4_1 + 1)), (by first | rfl | (simp;done) | (simp [*];done)), H', ⟨by have := HK1.out;omega⟩, ⟨by (with_reducible repeat (first | apply Kd.R_alloc | apply Kd.R_drewN | apply Kd.R_drew));exact HO_3.out⟩, ⟨by repeat (first | (with_reducible first | exact HB.out | apply below_alloc | apply pw_below_drewN | apply below_drew1) | exact HB.out)⟩⟩

def laws_eqEv.f (a0_0 : Int) (a0_1 : Int) (a0_2 : Int) (a1_0 : Int) (a1_1 : Int) (a1_2 : Int) : Option (Bool) := if a0_0 = a1_0 then (if a0_1 = a1_1 then (if a0_2 = a1_2 then (some true) else (some false)) else (some false)) else (some false)
set_option maxHeartbeats 8000000 in
set_option maxRecDepth 100000 in
theorem laws_eqEv.calls (a0_0 : Int) (a0_1 : Int) (a0_2 : Int) (a1_0 : Int) (a1_1 : Int) (a1_2 : Int) (r : Bool) (hT_ : Aside0 (r = true)) (w : World) (h : laws_eqEv.f a0_0 a0_1 a0_2 a1_0 a1_1 a1_2 = some r) :
  Calls Tryd.prog 43 #[.agg #[.int .i64 a0_0, .int .i64 a0_1, .int .i64 a0_2], .agg #[.int .i64 a1_0, .int .i64 a1_1, .int .i64 a1_2]] w fun e w' => e = .returned (.bool r) ∧ Below w.heap.size w w' := by
 have hu35 := Tryd.underlying35
 have HB := m0_ (Below.refl w.heap.size w)
 have H : (if a0_0 = a1_0 then (if a0_1 = a1_1 then (if a0_2 = a1_2 then (some true) else (some false)) else (some false)) else (some false)) = some r := h
 clear h
 by_cases c3 : a0_0 = a1_0
 rotate_left
 ·rw [if_neg c3] at H
  have c3b0 : (a0_0 == a1_0) = false := beq_eq_false_iff_ne.mpr c3
  have c3b1 : (a0_0 != a1_0) = true := bne_iff_ne.mpr c3
  exact absurd (Option.some.inj H) (by rw [hT_.out];decide)
 rw [if_pos c3] at H
 have c3b0 : (a0_0 == a1_0) = true := beq_iff_eq.mpr c3
 have c3b1 : (a0_0 != a1_0) = false := bne_eq_false_iff_eq.mpr c3
 clear c3
 by_cases c4 : a0_1 = a1_1
 rotate_left
 ·rw [if_neg c4] at H
  have c4b0 : (a0_1 == a1_1) = false := beq_eq_false_iff_ne.mpr c4
  have c4b1 : (a0_1 != a1_1) = true := bne_iff_ne.mpr c4
  exact absurd (Option.some.inj H) (by rw [hT_.out];decide)
 rw [if_pos c4] at H
 have c4b0 : (a0_1 == a1_1) = true := beq_iff_eq.mpr c4
 have c4b1 : (a0_1 != a1_1) = false := bne_eq_false_iff_eq.mpr c4
 clear c4
 by_cases c5 : a0_2 = a1_2
 ·rw [if_pos c5] at H
  have c5b0 : (a0_2 == a1_2) = true := beq_iff_eq.mpr c5
  have c5b1 : (a0_2 != a1_2) = false := bne_eq_false_iff_eq.mpr c5
  clear c5
  obtain rfl := Option.some.inj H
  go_enter Tryd.func43, Tryd.ntmps43
  go_wp2_with (first | ((with_reducible refine gate_dst (N := 2) rfl ?_);refine box_event ?hg (N := 2) ?hd (cs := #[.int .i64 a0_0, .int .i64 a0_1, .int .i64 a0_2]) (t := 35) ?hr ?_;(case hd => rfl);(case hg => rfl);(case hr => first | (go_simp;done) | (go_simp;rfl));intro gb101 hg w6 hbox hb;have BK101 := m0_ (hbox);have GW101 := m0_ ((by rw [hg];exact (below_size (by exact HB.out)) : w.heap.size ≤ gb101));have GE101 := m0_ ((by rw [hg];exact (below_size (by exact HB.out)) : w.heap.size ≤ gb101));replace HB := m0_ (below_step (by exact HB.out) hb);clear hb hbox hg) | ((with_reducible refine gate_dst (N := 3) rfl ?_);refine box_event ?hg (N := 3) ?hd (cs := #[.int .i64 a1_0, .int .i64 a1_1, .int .i64 a1_2]) (t := 35) ?hr ?_;(case hd => rfl);(case hg => rfl);(case hr => first | (go_simp;done) | (go_simp;rfl));intro gb102 hg w7 hbox hb;have BK102 := m0_ (hbox);have GW102 := m0_ ((by rw [hg];exact (below_size (by exact HB.out)) : w.heap.size ≤ gb102));have GE102 := m0_ ((by rw [hg];exact (below_size (by exact HB.out)) : w.heap.size ≤ gb102));replace HB := m0_ (below_step (by exact HB.out) hb);have NB101_102 := m0_ ((by rw [hg];exact Nat.ne_of_lt (blk_lt BK101.out) : gb101 ≠ gb102));have NB102_101 := m0_ ((by rw [hg];exact Nat.ne_of_gt (blk_lt BK101.out) : gb102 ≠ gb101));replace BK101 := m0_ (blk_below BK101.out hb);clear hb hbox hg;have hnb8 := NB101_102.out;have hnc8 := NB102_101.out;obtain ⟨hcz9_0, hcz9_1, hcz9_2, hfz9_0, hfz9_1, hfz9_2⟩ := bx3 BK101.out;obtain ⟨hcz10_0, hcz10_1, hcz10_2, hfz10_0, hfz10_1, hfz10_2⟩ := bx3 BK102.out))
  go_ret
  exact ⟨by first | rfl | (simp [errW_none, errW_some] <;> rfl) | (simp [*, errW_none, errW_some] <;> rfl), by repeat (first | (with_reducible first | exact HB.out | apply below_alloc | apply pw_below_drewN | apply below_drew1 | refine below_set ?_ GE101.out | refine below_set ?_ GE102.out) | exact HB.out)⟩
 ·rw [if_neg c5] at H
  have c5b0 : (a0_2 == a1_2) = false := beq_eq_false_iff_ne.mpr c5
  have c5b1 : (a0_2 != a1_2) = true := bne_iff_ne.mpr c5
  exact absurd (Option.some.inj H) (by rw [hT_.out];decide)

def laws_eqEvS.l0 : Nat → List (S35) → List (S35) → Int → Option (Bool)
 | 0, _, _, _ => none
 | k + 1, x0, x1, x5 => if x5 < (x0.length : Int) then (if 0 ≤ x5 then (if x5 < (x1.length : Int) then ((laws_eqEv.f ((rd_T35 x0 x5).f0) ((rd_T35 x0 x5).f1) ((rd_T35 x0 x5).f2) ((rd_T35 x1 x5).f0) ((rd_T35 x1 x5).f1) ((rd_T35 x1 x5).f2)).bind fun t103 => (if t103 = true then (laws_eqEvS.l0 k x0 x1 (wrap64 (x5 + 1))) else (some false))) else (none)) else (none)) else (some true)
def laws_eqEvS.f (k : Nat) (l0 : List (S35)) (l1 : List (S35)) : Option (Bool) := if (l0.length : Int) = (l1.length : Int) then (laws_eqEvS.l0 k l0 l1 0) else (some false)
def laws_eqEvS.T6 : Bool × List (List Nat × List Nat) := (true, [([], []), ([], []), ([0, 1], [0, 1]), ([2], [2]), ([], []), ([], []), ([4, 5], [4, 5]), ([6], [6]), ([3, 7], [3, 7]), ([8], [8])])
def laws_eqEvS.B6 : List Nat := [0, 0, 3, 7, 0, 0, 48, 112, 255, 511]
theorem laws_eqEvS.tab6 : rtab .any (opsOf Tryd.f23 6) = laws_eqEvS.T6 := by kernel_rfl
theorem laws_eqEvS.bits6 : waitsOk laws_eqEvS.T6.2 laws_eqEvS.B6 = true := by kernel_rfl
set_option maxHeartbeats 8000000 in
set_option maxRecDepth 100000 in
theorem laws_eqEvS.calls (k : Nat) (A0 : Option Addr) (c0 : Nat) (l0 : List (S35)) (A1 : Option Addr) (c1 : Nat) (l1 : List (S35)) (r : Bool) (hT_ : Aside0 (r = true)) (w : World) (hr0 : Kd.C k35 w A0 l0.length l0) (hc0 : l0.length ≤ c0) (hr1 : Kd.C k35 w A1 l1.length l1) (hc1 : l1.length ≤ c1) (h : laws_eqEvS.f k l0 l1 = some r) :
  Calls Tryd.prog 23 #[.slice A0 l0.length c0, .slice A1 l1.length c1] w fun e w' => e = .returned (.bool r) ∧ Below w.heap.size w w' := by
 have hu35 := Tryd.underlying35
 have HR0 := m0_ hr0
 have HC0 := m0_ hc0
 clear hr0 hc0
 have HR1 := m0_ hr1
 have HC1 := m0_ hc1
 clear hr1 hc1
 have HB := m0_ (Below.refl w.heap.size w)
 have H : (if (l0.length : Int) = (l1.length : Int) then (laws_eqEvS.l0 k l0 l1 0) else (some false)) = some r := h
 clear h
 by_cases c3 : (l0.length : Int) = (l1.length : Int)
 rotate_left
 ·rw [if_neg c3] at H
  have c3b0 : ((l0.length : Int) == (l1.length : Int)) = false := beq_eq_false_iff_ne.mpr c3
  have c3b1 : ((l0.length : Int) != (l1.length : Int)) = true := bne_iff_ne.mpr c3
  have c3b2 : (l0.length == l1.length) = false := by first | simpa using c3 | (simp at c3 ⊢;omega)
  exact absurd (Option.some.inj H) (by rw [hT_.out];decide)
 rw [if_pos c3] at H
 have c3b0 : ((l0.length : Int) == (l1.length : Int)) = true := beq_iff_eq.mpr c3
 have c3b1 : ((l0.length : Int) != (l1.length : Int)) = false := bne_eq_false_iff_eq.mpr c3
 have c3b2 : (l0.length == l1.length) = true := by first | simpa using c3 | (simp at c3 ⊢;omega)
 clear c3
 have H' := m0_ H
 clear H
 go_enter Tryd.func23, Tryd.ntmps23
 go_wp2
 go_loopg [5] k (fun kq v5 w' => ∃ (x5_1 : Int), v5 = .int .i64 x5_1 ∧ Aside0 (laws_eqEvS.l0 kq l0 l1 x5_1 = some r) ∧ Aside0 (kq ≤ k) ∧ Aside0 (Below w.heap.size w w'))
 case atStart => exact ⟨(0), (by first | rfl | (simp;done) | (simp [*];done)), H', ⟨Nat.le_refl _⟩, ⟨by repeat (first | (with_reducible first | exact HB.out | apply below_alloc | apply pw_below_drewN | apply below_drew1) | exact HB.out)⟩⟩
 case round =>
  clear H'
  try clear c1
  try clear c2
  try clear p2
  try clear c3
  try clear c3b0
  try clear c3b1
  try clear c3b2
  obtain ⟨x5_1, rfl, HA, HK1, HB⟩ := hrel
  cases gk with
  | zero => exact absurd HA.out (by simp [laws_eqEvS.l0])
  | succ k1 =>
   have H := HA.out
   clear HA
   simp only [laws_eqEvS.l0] at H
   by_cases c4 : x5_1 < (l0.length : Int)
   rotate_left
   ·rw [if_neg c4] at H
    have c4b0 : decide (x5_1 < (l0.length : Int)) = false := decide_eq_false c4
    clear c4
    obtain rfl := Option.some.inj H
    go_wp2
    go_ret
    exact ⟨by first | rfl | (simp [errW_none, errW_some] <;> rfl) | (simp [*, errW_none, errW_some] <;> rfl), by repeat (first | (with_reducible first | exact HB.out | apply below_alloc | apply pw_below_drewN | apply below_drew1) | exact HB.out)⟩
   rw [if_pos c4] at H
   have c4b0 : decide (x5_1 < (l0.length : Int)) = true := decide_eq_true c4
   clear c4
   by_cases c5 : 0 ≤ x5_1
   rotate_left
   ·rw [if_neg c5] at H
    exact absurd H (by simp)
   rw [if_pos c5] at H
   have c5b0 : decide (0 ≤ x5_1) = true := decide_eq_true c5
   clear c5
   by_cases c6 : x5_1 < (l1.length : Int)
   rotate_left
   ·rw [if_neg c6] at H
    exact absurd H (by simp)
   rw [if_pos c6] at H
   have c6b0 : decide (x5_1 < (l1.length : Int)) = true := decide_eq_true c6
   clear c6
   replace H := Option.bind_eq_some_iff.mp H
   obtain ⟨t103, A70, H⟩ := H
   replace H : (if t103 = true then (laws_eqEvS.l0 k1 l0 l1 (wrap64 (x5_1 + 1))) else (some false)) = some r := H
   have A7 := m0_ A70
   clear A70
   by_cases c8 : t103 = true
   rotate_left
   ·replace c8 := Bool.eq_false_iff.mpr c8
    subst c8
    have H1 : (some false) = some r := by rw [if_neg (show ¬ (false = true) by decide)] at H;exact H
    clear H
    have H := H1
    clear H1
    exact absurd (Option.some.inj H) (by rw [hT_.out];decide)
   subst c8
   have H1 : (laws_eqEvS.l0 k1 l0 l1 (wrap64 (x5_1 + 1))) = some r := by rw [if_pos rfl] at H;exact H
   clear H
   have H := H1
   clear H1
   have H' := m0_ H
   clear H
   try go_wp2
   replace HB := m0_ (below_drew1 HB.out)
   have p101 : 0 ≤ (x5_1 : Int) := of_decide_eq_true (by first | (with_reducible assumption) | assumption)
   have q101 : x5_1 < (l0.length : Int) := of_decide_eq_true (by first | (with_reducible assumption) | assumption)
   obtain ⟨ad101, e101, hx101_0, hx101_1, hx101_2⟩ := at_T35 HR0.out x5_1 p101 q101
   have hw101_2 := hx101_2
   have hw101_1 := hx101_1
   have hw101_0 := hx101_0
   cases e101
   replace hx101_0 := (HB.out.cell (World.block_lt_of_cell? w _ hx101_0)).trans hx101_0
   replace hx101_1 := (HB.out.cell (World.block_lt_of_cell? w _ hx101_1)).trans hx101_1
   replace hx101_2 := (HB.out.cell (World.block_lt_of_cell? w _ hx101_2)).trans hx101_2
   replace p101 := eq_true p101
   replace q101 := eq_true q101
   have p102 : 0 ≤ (x5_1 : Int) := of_decide_eq_true (by first | (with_reducible assumption) | assumption)
   have q102 : x5_1 < (l1.length : Int) := of_decide_eq_true (by first | (with_reducible assumption) | assumption)
   obtain ⟨ad102, e102, hx102_0, hx102_1, hx102_2⟩ := at_T35 HR1.out x5_1 p102 q102
   have hw102_2 := hx102_2
   have hw102_1 := hx102_1
   have hw102_0 := hx102_0
   cases e102
   replace hx102_0 := (HB.out.cell (World.block_lt_of_cell? w _ hx102_0)).trans hx102_0
   replace hx102_1 := (HB.out.cell (World.block_lt_of_cell? w _ hx102_1)).trans hx102_1
   replace hx102_2 := (HB.out.cell (World.block_lt_of_cell? w _ hx102_2)).trans hx102_2
   replace p102 := eq_true p102
   replace q102 := eq_true q102
   refine start_ (n := 10) (S := fun w' => w'.cell? (ad101.add ((x5_1).toNat * 3)) = some (.int .i64 ((rd_T35 l0 x5_1).f0)) ∧ w'.cell? ⟨(ad101.add ((x5_1).toNat * 3)).block, (ad101.add ((x5_1).toNat * 3)).off + 1, none⟩ = some (.int .i64 ((rd_T35 l0 x5_1).f1)) ∧ w'.cell? ⟨(ad101.add ((x5_1).toNat * 3)).block, (ad101.add ((x5_1).toNat * 3)).off + 2, none⟩ = some (.int .i64 ((rd_T35 l0 x5_1).f2)) ∧ w'.cell? (ad102.add ((x5_1).toNat * 3)) = some (.int .i64 ((rd_T35 l1 x5_1).f0)) ∧ w'.cell? ⟨(ad102.add ((x5_1).toNat * 3)).block, (ad102.add ((x5_1).toNat * 3)).off + 1, none⟩ = some (.int .i64 ((rd_T35 l1 x5_1).f1)) ∧ w'.cell? ⟨(ad102.add ((x5_1).toNat * 3)).block, (ad102.add ((x5_1).toNat * 3)).off + 2, none⟩ = some (.int .i64 ((rd_T35 l1 x5_1).f2))) (ds := []) #[false, false, false, false, false, false, false, false, false, false] (by kernel_rfl) rfl rfl ⟨((HB.out.cell (World.block_lt_of_cell? w _ hw101_0)).trans hw101_0), ((HB.out.cell (World.block_lt_of_cell? w _ hw101_1)).trans hw101_1), ((HB.out.cell (World.block_lt_of_cell? w _ hw101_2)).trans hw101_2), ((HB.out.cell (World.block_lt_of_cell? w _ hw102_0)).trans hw102_0), ((HB.out.cell (World.block_lt_of_cell? w _ hw102_1)).trans hw102_1), ((HB.out.cell (World.block_lt_of_cell? w _ hw102_2)).trans hw102_2)⟩ (fun hHeld => ?_);refine with_tabW laws_eqEvS.tab6 laws_eqEvS.bits6 (fun HT_ HW_ => ?_)
   generalize wr.drew = w9 at HB hx101_0 hx101_1 hx101_2 hx102_0 hx102_1 hx102_2 hHeld ⊢
   refine pv_ 0 17 #[true, false, false, false, false, false, false, false, false, false] (any_of HT_.out (by kernel_rfl)) ?_
   refine pv_ 1 18 #[true, true, false, false, false, false, false, false, false, false] (any_of HT_.out (by kernel_rfl)) ?_
   refine pv_ 2 19 #[true, true, true, false, false, false, false, false, false, false] (any_of HT_.out (by kernel_rfl)) ?_
   refine pv_ 4 21 #[true, true, true, false, true, false, false, false, false, false] (any_of HT_.out (by kernel_rfl)) ?_
   refine pv_ 5 22 #[true, true, true, false, true, true, false, false, false, false] (any_of HT_.out (by kernel_rfl)) ?_
   refine pv_ 6 23 #[true, true, true, false, true, true, true, false, false, false] (any_of HT_.out (by kernel_rfl)) ?_
   refine take_ (i := 3) (N := some 20) (v := ?_) (a' := ?_) #[true, true, true, true, true, true, true, false, false, false] rfl rfl (take_ofW HT_.out HW_.out (by kernel_rfl)) (fun _ _ _ h => h) (Or.inl ⟨by rfl, ?_⟩) hHeld ?_ ?_
   rotate_left
   ·rintro w' ⟨s0, s1, s2, s3, s4, s5⟩
    go_simp
    with_reducible rfl
   rotate_left
   ·simp only [Act.put, List.setIfInBounds_toArray, List.set_cons_zero, List.set_cons_succ, i64_w, i32_w]
    rfl
   refine take_ (i := 7) (N := some 24) (v := ?_) (a' := ?_) #[true, true, true, true, true, true, true, true, false, false] rfl rfl (take_ofW HT_.out HW_.out (by kernel_rfl)) (fun _ _ _ h => h) (Or.inl ⟨by rfl, ?_⟩) hHeld ?_ ?_
   rotate_left
   ·rintro w' ⟨s0, s1, s2, s3, s4, s5⟩
    go_simp
    with_reducible rfl
   rotate_left
   ·simp only [Act.put, List.setIfInBounds_toArray, List.set_cons_zero, List.set_cons_succ, i64_w, i32_w]
    rfl
   refine one_ (i := 8) (N := some 25) #[true, true, true, true, true, true, true, true, true, false] rfl rfl (one_of HT_.out (by kernel_rfl)) (by decide) (fun K hK => ?_)
   refine goes_ Tryd.func43 (by kernel_rfl) rfl #[.agg #[.int .i64 ((rd_T35 l0 x5_1).f0), .int .i64 ((rd_T35 l0 x5_1).f1), .int .i64 ((rd_T35 l0 x5_1).f2)], .agg #[.int .i64 ((rd_T35 l1 x5_1).f0), .int .i64 ((rd_T35 l1 x5_1).f1), .int .i64 ((rd_T35 l1 x5_1).f2)]] (by rfl) rfl rfl (by (try simp only [List.map_toArray, List.map_cons, List.map_nil]);first | done | rfl | (simp only [List.length_drop, List.length_take];rfl)) ?_
   with_reducible refine (laws_eqEv.calls ((rd_T35 l0 x5_1).f0) ((rd_T35 l0 x5_1).f1) ((rd_T35 l0 x5_1).f2) ((rd_T35 l1 x5_1).f0) ((rd_T35 l1 x5_1).f1) ((rd_T35 l1 x5_1).f2) true ⟨rfl⟩ _ A7.out).mono ?_
   rintro e w10 ⟨rfl, hb⟩
   refine ⟨_, rfl, ?_⟩
   replace HB := m0_ (below_step (by exact HB.out) hb)
   (try clear hb)
   (try clear hb2)
   (try clear hk)
   (try clear hi)
   refine hK.out _ _ ⟨((HB.out.cell (World.block_lt_of_cell? w _ hw101_0)).trans hw101_0), ((HB.out.cell (World.block_lt_of_cell? w _ hw101_1)).trans hw101_1), ((HB.out.cell (World.block_lt_of_cell? w _ hw101_2)).trans hw101_2), ((HB.out.cell (World.block_lt_of_cell? w _ hw102_0)).trans hw102_0), ((HB.out.cell (World.block_lt_of_cell? w _ hw102_1)).trans hw102_1), ((HB.out.cell (World.block_lt_of_cell? w _ hw102_2)).trans hw102_2)⟩ (fun hHeld => ?_)
   clear hK K
   refine norm_ (a' := ?_) ?_ ?_
   rotate_left
   ·show Act.put _ (some 25) _ = _
    simp only [Act.put, List.setIfInBounds_toArray, List.set_cons_zero, List.set_cons_succ, i64_w, i32_w]
    rfl
   refine pv_ 9 26 #[true, true, true, true, true, true, true, true, true, true] (any_of HT_.out (by kernel_rfl)) ?_
   refine done_ (done_of HT_.out (by kernel_rfl)) ?_
   try go_wp2
   go_roundg k1
   case measure => have := HK1.out;omega
   case rel => exact ⟨(wrap64 (x5_1 + 1)), (by first | rfl | (simp;done) | (simp [*];done)), H', ⟨by have := HK1.out;omega⟩, ⟨by repeat (first | (with_reducible first | exact HB.out | apply below_alloc | apply pw_below_drewN | apply below_drew1) | exact HB.out)⟩⟩

def impl_in.f (a0 : Int) (a1 : Int) (a2 : Int) : Option (Bool) := if a1 ≤ a0 then (some (decide (a0 ≤ a2))) else (some false)
set_option maxHeartbeats 8000000 in
set_option maxRecDepth 100000 in
theorem impl_in.calls (a0 : Int) (a1 : Int) (a2 : Int) (r : Bool) (w : World) (h : impl_in.f a0 a1 a2 = some r) :
  Calls Tryd.prog 41 #[.int .i64 a0, .int .i64 a1, .int .i64 a2] w fun e w' => e = .returned (.bool r) ∧ Drawn0 w w' := by
 have H : (if a1 ≤ a0 then (some (decide (a0 ≤ a2))) else (some false)) = some r := h
 clear h
 by_cases c4 : a1 ≤ a0
 ·rw [if_pos c4] at H
  have c4b0 : decide (a1 ≤ a0) = true := decide_eq_true c4
  clear c4
  obtain rfl := Option.some.inj H
  go_enter Tryd.func41, Tryd.ntmps41
  go_wp2
  go_ret
  exact ⟨by first | rfl | (simp;done) | (simp [*];done), by repeat (first | exact Drawn0.refl _ | apply Drawn0.step)⟩
 ·rw [if_neg c4] at H
  have c4b0 : decide (a1 ≤ a0) = false := decide_eq_false c4
  clear c4
  obtain rfl := Option.some.inj H
  go_enter Tryd.func41, Tryd.ntmps41
  go_wp2
  go_ret
  exact ⟨by first | rfl | (simp;done) | (simp [*];done), by repeat (first | exact Drawn0.refl _ | apply Drawn0.step)⟩

def impl_isSym.f (a0 : Int) : Option (Bool) := (impl_in.f a0 0 4).bind fun t101 => (some t101)
set_option maxHeartbeats 8000000 in
set_option maxRecDepth 100000 in
theorem impl_isSym.calls (a0 : Int) (r : Bool) (w : World) (h : impl_isSym.f a0 = some r) :
  Calls Tryd.prog 40 #[.int .i64 a0] w fun e w' => e = .returned (.bool r) ∧ Drawn0 w w' := by
 have H : ((impl_in.f a0 0 4).bind fun t101 => (some t101)) = some r := h
 clear h
 replace H := Option.bind_eq_some_iff.mp H
 obtain ⟨t101, A20, H⟩ := H
 replace H : (some t101) = some r := H
 have A2 := m0_ A20
 clear A20
 obtain rfl := Option.some.inj H
 go_enter Tryd.func40, Tryd.ntmps40
 go_wp2_with (first | ((with_reducible refine gate_callee (f := 41) rfl ?_);refine goesL_ (some 4) rfl rfl Tryd.func41 (by kernel_rfl) rfl #[.int .i64 a0, .int .i64 0, .int .i64 4] rfl (by (try simp only [List.map_toArray, List.map_cons, List.map_nil]);first | done | rfl | (simp only [List.length_drop, List.length_take];rfl)) ?_;(with_reducible refine (impl_in.calls a0 0 4 t101 _ A2.out).mono ?_);rintro e w' ⟨rfl, ⟨nd, rfl⟩⟩;refine ⟨_, rfl, ?_⟩) | (go_at_call 41;(with_reducible refine (impl_in.calls a0 0 4 t101 _ A2.out).mono ?_);rintro e w' ⟨rfl, ⟨nd, rfl⟩⟩))
 go_ret
 exact ⟨by first | rfl | (simp;done) | (simp [*];done), by repeat (first | exact Drawn0.refl _ | apply Drawn0.step)⟩

def impl_letter.f (a0 : Int) : Option (ByteArray) := (impl_isSym.f a0).bind fun t101 => (if t101 = true then (if 0 ≤ a0 then (if a0 ≤ (wrap64 (a0 + 1)) then (if (wrap64 (a0 + 1)) ≤ 5 then (some ((⟨#[97, 98, 99, 100, 101]⟩ : ByteArray).extract (a0 : Int).toNat ((wrap64 (a0 + 1)) : Int).toNat)) else (none)) else (none)) else (none)) else (some (⟨#[63]⟩ : ByteArray)))
set_option maxHeartbeats 8000000 in
set_option maxRecDepth 100000 in
theorem impl_letter.calls (a0 : Int) (r : ByteArray) (w : World) (h : impl_letter.f a0 = some r) :
  Calls Tryd.prog 45 #[.int .i64 a0] w fun e w' => e = .returned (.string r) ∧ Drawn0 w w' := by
 have H : ((impl_isSym.f a0).bind fun t101 => (if t101 = true then (if 0 ≤ a0 then (if a0 ≤ (wrap64 (a0 + 1)) then (if (wrap64 (a0 + 1)) ≤ 5 then (some ((⟨#[97, 98, 99, 100, 101]⟩ : ByteArray).extract (a0 : Int).toNat ((wrap64 (a0 + 1)) : Int).toNat)) else (none)) else (none)) else (none)) else (some (⟨#[63]⟩ : ByteArray)))) = some r := h
 clear h
 replace H := Option.bind_eq_some_iff.mp H
 obtain ⟨t101, A20, H⟩ := H
 replace H : (if t101 = true then (if 0 ≤ a0 then (if a0 ≤ (wrap64 (a0 + 1)) then (if (wrap64 (a0 + 1)) ≤ 5 then (some ((⟨#[97, 98, 99, 100, 101]⟩ : ByteArray).extract (a0 : Int).toNat ((wrap64 (a0 + 1)) : Int).toNat)) else (none)) else (none)) else (none)) else (some (⟨#[63]⟩ : ByteArray))) = some r := H
 have A2 := m0_ A20
 clear A20
 by_cases c3 : t101 = true
 rotate_left
 ·replace c3 := Bool.eq_false_iff.mpr c3
  subst c3
  have H1 : (some (⟨#[63]⟩ : ByteArray)) = some r := by rw [if_neg (show ¬ (false = true) by decide)] at H;exact H
  clear H
  have H := H1
  clear H1
  obtain rfl := Option.some.inj H
  go_enter Tryd.func45, Tryd.ntmps45
  go_wp2_with (first | ((with_reducible refine gate_callee (f := 40) rfl ?_);refine goesL_ (some 4) rfl rfl Tryd.func40 (by kernel_rfl) rfl #[.int .i64 a0] rfl (by (try simp only [List.map_toArray, List.map_cons, List.map_nil]);first | done | rfl | (simp only [List.length_drop, List.length_take];rfl)) ?_;(with_reducible refine (impl_isSym.calls a0 false _ A2.out).mono ?_);rintro e w' ⟨rfl, ⟨nd, rfl⟩⟩;refine ⟨_, rfl, ?_⟩) | (go_at_call 40;(with_reducible refine (impl_isSym.calls a0 false _ A2.out).mono ?_);rintro e w' ⟨rfl, ⟨nd, rfl⟩⟩))
  go_ret
  exact ⟨by first | rfl | (simp;done) | (simp [*];done), by repeat (first | exact Drawn0.refl _ | apply Drawn0.step)⟩
 subst c3
 have H1 : (if 0 ≤ a0 then (if a0 ≤ (wrap64 (a0 + 1)) then (if (wrap64 (a0 + 1)) ≤ 5 then (some ((⟨#[97, 98, 99, 100, 101]⟩ : ByteArray).extract (a0 : Int).toNat ((wrap64 (a0 + 1)) : Int).toNat)) else (none)) else (none)) else (none)) = some r := by rw [if_pos rfl] at H;exact H
 clear H
 have H := H1
 clear H1
 by_cases c4 : 0 ≤ a0
 rotate_left
 ·rw [if_neg c4] at H
  exact absurd H (by simp)
 rw [if_pos c4] at H
 have c4b0 := eq_true c4
 have c4b1 : decide (0 ≤ a0) = true := decide_eq_true c4
 clear c4
 by_cases c5 : a0 ≤ (wrap64 (a0 + 1))
 ·rw [if_pos c5] at H
  have c5b0 := eq_true c5
  have c5b1 : decide (a0 ≤ (wrap64 (a0 + 1))) = true := decide_eq_true c5
  by_cases c6 : (wrap64 (a0 + 1)) ≤ 5
  ·rw [if_pos c6] at H
   have c6b0 := eq_true c6
   have c6b1 : decide ((wrap64 (a0 + 1)) ≤ 5) = true := decide_eq_true c6
   obtain rfl := Option.some.inj H
   go_enter Tryd.func45, Tryd.ntmps45
   go_wp2_with (first | ((with_reducible refine gate_callee (f := 40) rfl ?_);refine goesL_ (some 4) rfl rfl Tryd.func40 (by kernel_rfl) rfl #[.int .i64 a0] rfl (by (try simp only [List.map_toArray, List.map_cons, List.map_nil]);first | done | rfl | (simp only [List.length_drop, List.length_take];rfl)) ?_;(with_reducible refine (impl_isSym.calls a0 true _ A2.out).mono ?_);rintro e w' ⟨rfl, ⟨nd, rfl⟩⟩;refine ⟨_, rfl, ?_⟩) | (go_at_call 40;(with_reducible refine (impl_isSym.calls a0 true _ A2.out).mono ?_);rintro e w' ⟨rfl, ⟨nd, rfl⟩⟩))
   go_ret
   exact ⟨by first | rfl | (simp;done) | (simp [*];done), by repeat (first | exact Drawn0.refl _ | apply Drawn0.step)⟩
  ·rw [if_neg c6] at H
   exact absurd H (by simp)
 ·rw [if_neg c5] at H
  exact absurd H (by simp)

def strconv_Itoa.f (a0 : Int) : Option ByteArray := if -9223372036854775808 ≤ a0 ∧ a0 ≤ 9223372036854775807 then some (itoaB a0) else none
theorem strconv_Itoa.calls (a0 : Int) (r : ByteArray) (w : World) (h : strconv_Itoa.f a0 = some r) (ht : TabI w) :
  Calls Tryd.prog 46 #[.int .i64 a0] w fun e w' => e = .returned (.string r) ∧ Below w.heap.size w w' := by
 unfold strconv_Itoa.f at h
 by_cases c : -9223372036854775808 ≤ a0 ∧ a0 ≤ 9223372036854775807
 ·rw [if_pos c] at h
  obtain rfl := Option.some.inj h
  exact itoa_calls a0 c.1 c.2 w ht
 ·rw [if_neg c] at h
  cases h

noncomputable def impl_tell.f (a0 : Int) (a1 : Int) (a2 : Int) : Option (ByteArray) := (impl_letter.f a0).bind fun t101 => ((strconv_Itoa.f a1).bind fun t102 => (if t101.size + t102.size ≤ 9223372036854775807 then (if a2 = 0 then (some (t101 ++ t102)) else ((strconv_Itoa.f a2).bind fun t103 => (if 1 + t103.size ≤ 9223372036854775807 then (if (t101 ++ t102).size + ((⟨#[61]⟩ : ByteArray) ++ t103).size ≤ 9223372036854775807 then (some ((t101 ++ t102) ++ ((⟨#[61]⟩ : ByteArray) ++ t103))) else (none)) else (none)))) else (none)))
set_option maxHeartbeats 8000000 in
set_option maxRecDepth 100000 in
theorem impl_tell.calls (a0 : Int) (a1 : Int) (a2 : Int) (r : ByteArray) (w : World) (h : impl_tell.f a0 a1 a2 = some r) (ht_TabI : TabI w) :
  Calls Tryd.prog 28 #[.int .i64 a0, .int .i64 a1, .int .i64 a2] w fun e w' => e = .returned (.string r) ∧ Below w.heap.size w w' := by
 have HTX_TabI := m0_ ht_TabI
 clear ht_TabI
 have HB := m0_ (Below.refl w.heap.size w)
 have H : ((impl_letter.f a0).bind fun t101 => ((strconv_Itoa.f a1).bind fun t102 => (if t101.size + t102.size ≤ 9223372036854775807 then (if a2 = 0 then (some (t101 ++ t102)) else ((strconv_Itoa.f a2).bind fun t103 => (if 1 + t103.size ≤ 9223372036854775807 then (if (t101 ++ t102).size + ((⟨#[61]⟩ : ByteArray) ++ t103).size ≤ 9223372036854775807 then (some ((t101 ++ t102) ++ ((⟨#[61]⟩ : ByteArray) ++ t103))) else (none)) else (none)))) else (none)))) = some r := h
 clear h
 replace H := Option.bind_eq_some_iff.mp H
 obtain ⟨t101, A40, H⟩ := H
 replace H : ((strconv_Itoa.f a1).bind fun t102 => (if t101.size + t102.size ≤ 9223372036854775807 then (if a2 = 0 then (some (t101 ++ t102)) else ((strconv_Itoa.f a2).bind fun t103 => (if 1 + t103.size ≤ 9223372036854775807 then (if (t101 ++ t102).size + ((⟨#[61]⟩ : ByteArray) ++ t103).size ≤ 9223372036854775807 then (some ((t101 ++ t102) ++ ((⟨#[61]⟩ : ByteArray) ++ t103))) else (none)) else (none)))) else (none))) = some r := H
 have A4 := m0_ A40
 clear A40
 replace H := Option.bind_eq_some_iff.mp H
 obtain ⟨t102, A50, H⟩ := H
 replace H : (if t101.size + t102.size ≤ 9223372036854775807 then (if a2 = 0 then (some (t101 ++ t102)) else ((strconv_Itoa.f a2).bind fun t103 => (if 1 + t103.size ≤ 9223372036854775807 then (if (t101 ++ t102).size + ((⟨#[61]⟩ : ByteArray) ++ t103).size ≤ 9223372036854775807 then (some ((t101 ++ t102) ++ ((⟨#[61]⟩ : ByteArray) ++ t103))) else (none)) else (none)))) else (none)) = some r := H
 have A5 := m0_ A50
 clear A50
 by_cases c6 : t101.size + t102.size ≤ 9223372036854775807
 rotate_left
 ·rw [if_neg c6] at H
  exact absurd H (by simp)
 rw [if_pos c6] at H
 have c6b0 := eq_true c6
 have c6b1 : decide (t101.size + t102.size ≤ 9223372036854775807) = true := decide_eq_true c6
 try have c6b2 : (9223372036854775807 < t101.size + t102.size) = False := eq_false (Nat.not_lt.2 c6)
 by_cases c7 : a2 = 0
 ·rw [if_pos c7] at H
  have c7b0 : (a2 == 0) = true := beq_iff_eq.mpr c7
  have c7b1 : (a2 != 0) = false := bne_eq_false_iff_eq.mpr c7
  clear c7
  obtain rfl := Option.some.inj H
  go_enter Tryd.func28, Tryd.ntmps28
  go_wp2_with (first | ((with_reducible refine gate_callee (f := 45) rfl ?_);refine goesL_ (some 9) rfl rfl Tryd.func45 (by kernel_rfl) rfl #[.int .i64 a0] rfl (by (try simp only [List.map_toArray, List.map_cons, List.map_nil]);first | done | rfl | (simp only [List.length_drop, List.length_take];rfl)) ?_;(with_reducible refine (impl_letter.calls a0 t101 _ A4.out).mono ?_);rintro e w' ⟨rfl, ⟨nd, rfl⟩⟩;refine ⟨_, rfl, ?_⟩) | (go_at_call 45;(with_reducible refine (impl_letter.calls a0 t101 _ A4.out).mono ?_);rintro e w' ⟨rfl, ⟨nd, rfl⟩⟩) | ((with_reducible refine gate_callee (f := 46) rfl ?_);refine goesL_ (some 11) rfl rfl Tryd.func46 (by kernel_rfl) rfl #[.int .i64 a1] rfl (by (try simp only [List.map_toArray, List.map_cons, List.map_nil]);first | done | rfl | (simp only [List.length_drop, List.length_take];rfl)) ?_;(with_reducible refine (strconv_Itoa.calls a1 t102 _ A5.out (by first | exact TabI.below HTX_TabI.out (by repeat (first | (with_reducible first | exact HB.out | apply below_alloc | apply pw_below_drewN | apply below_drew1) | exact HB.out)) | exact TabI.below (TabI.below HTX_TabI.out HB.out) Q_HB | exact TabI.below HTX_TabI.out (pw_below_drewN HB.out _) | exact TabI.below HTX_TabI.out (pw_below_drewN (pw_below_drewN HB.out _) _))).mono ?_);rintro e w8 ⟨rfl, hb⟩;refine ⟨_, rfl, ?_⟩;replace HB := m0_ (below_step (by repeat (first | (with_reducible first | exact HB.out | apply below_alloc | apply pw_below_drewN | apply below_drew1) | exact HB.out)) hb);(try clear hb);(try clear hb2);(try clear hk);(try clear hi)))
  go_ret
  exact ⟨by first | rfl | (simp [errW_none, errW_some] <;> rfl) | (simp [*, errW_none, errW_some] <;> rfl), by repeat (first | (with_reducible first | exact HB.out | apply below_alloc | apply pw_below_drewN | apply below_drew1) | exact HB.out)⟩
 rw [if_neg c7] at H
 have c7b0 : (a2 == 0) = false := beq_eq_false_iff_ne.mpr c7
 have c7b1 : (a2 != 0) = true := bne_iff_ne.mpr c7
 replace H := Option.bind_eq_some_iff.mp H
 obtain ⟨t103, A90, H⟩ := H
 replace H : (if 1 + t103.size ≤ 9223372036854775807 then (if (t101 ++ t102).size + ((⟨#[61]⟩ : ByteArray) ++ t103).size ≤ 9223372036854775807 then (some ((t101 ++ t102) ++ ((⟨#[61]⟩ : ByteArray) ++ t103))) else (none)) else (none)) = some r := H
 have A9 := m0_ A90
 clear A90
 by_cases c10 : 1 + t103.size ≤ 9223372036854775807
 rotate_left
 ·rw [if_neg c10] at H
  exact absurd H (by simp)
 rw [if_pos c10] at H
 have c10b0 := eq_true c10
 have c10b1 : decide (1 + t103.size ≤ 9223372036854775807) = true := decide_eq_true c10
 try have c10b2 : (9223372036854775807 < 1 + t103.size) = False := eq_false (Nat.not_lt.2 c10)
 by_cases c11 : (t101 ++ t102).size + ((⟨#[61]⟩ : ByteArray) ++ t103).size ≤ 9223372036854775807
 ·rw [if_pos c11] at H
  have c11b0 := eq_true c11
  have c11b1 : decide ((t101 ++ t102).size + ((⟨#[61]⟩ : ByteArray) ++ t103).size ≤ 9223372036854775807) = true := decide_eq_true c11
  have c11z : (t101 ++ t102).size + ((⟨#[61]⟩ : ByteArray) ++ t103).size ≤ 9223372036854775807 := c11
  simp only [ByteArray.size_append, show (⟨#[32]⟩ : ByteArray).size = 1 from rfl, show (⟨#[61]⟩ : ByteArray).size = 1 from rfl] at c11z
  have c11z0 := eq_true c11z
  have c11z1 := decide_eq_true c11z
  have c11z2 := eq_false (Nat.not_lt.2 c11z)
  try have c11b2 : (9223372036854775807 < (t101 ++ t102).size + ((⟨#[61]⟩ : ByteArray) ++ t103).size) = False := eq_false (Nat.not_lt.2 c11)
  obtain rfl := Option.some.inj H
  go_enter Tryd.func28, Tryd.ntmps28
  go_wp2_with (first | ((with_reducible refine gate_callee (f := 45) rfl ?_);refine goesL_ (some 9) rfl rfl Tryd.func45 (by kernel_rfl) rfl #[.int .i64 a0] rfl (by (try simp only [List.map_toArray, List.map_cons, List.map_nil]);first | done | rfl | (simp only [List.length_drop, List.length_take];rfl)) ?_;(with_reducible refine (impl_letter.calls a0 t101 _ A4.out).mono ?_);rintro e w' ⟨rfl, ⟨nd, rfl⟩⟩;refine ⟨_, rfl, ?_⟩) | (go_at_call 45;(with_reducible refine (impl_letter.calls a0 t101 _ A4.out).mono ?_);rintro e w' ⟨rfl, ⟨nd, rfl⟩⟩) | ((with_reducible refine gate_callee (f := 46) rfl ?_);refine goesL_ (some 11) rfl rfl Tryd.func46 (by kernel_rfl) rfl #[.int .i64 a1] rfl (by (try simp only [List.map_toArray, List.map_cons, List.map_nil]);first | done | rfl | (simp only [List.length_drop, List.length_take];rfl)) ?_;(with_reducible refine (strconv_Itoa.calls a1 t102 _ A5.out (by first | exact TabI.below HTX_TabI.out (by repeat (first | (with_reducible first | exact HB.out | apply below_alloc | apply pw_below_drewN | apply below_drew1) | exact HB.out)) | exact TabI.below (TabI.below HTX_TabI.out HB.out) Q_HB | exact TabI.below HTX_TabI.out (pw_below_drewN HB.out _) | exact TabI.below HTX_TabI.out (pw_below_drewN (pw_below_drewN HB.out _) _))).mono ?_);rintro e w12 ⟨rfl, hb⟩;refine ⟨_, rfl, ?_⟩;replace HB := m0_ (below_step (by repeat (first | (with_reducible first | exact HB.out | apply below_alloc | apply pw_below_drewN | apply below_drew1) | exact HB.out)) hb);(try clear hb);(try clear hb2);(try clear hk);(try clear hi)) | ((with_reducible refine gate_callee (f := 46) rfl ?_);refine goesL_ (some 17) rfl rfl Tryd.func46 (by kernel_rfl) rfl #[.int .i64 a2] rfl (by (try simp only [List.map_toArray, List.map_cons, List.map_nil]);first | done | rfl | (simp only [List.length_drop, List.length_take];rfl)) ?_;(with_reducible refine (strconv_Itoa.calls a2 t103 _ A9.out (by first | exact TabI.below HTX_TabI.out (by repeat (first | (with_reducible first | exact HB.out | apply below_alloc | apply pw_below_drewN | apply below_drew1) | exact HB.out)) | exact TabI.below (TabI.below HTX_TabI.out HB.out) Q_HB | exact TabI.below HTX_TabI.out (pw_below_drewN HB.out _) | exact TabI.below HTX_TabI.out (pw_below_drewN (pw_below_drewN HB.out _) _))).mono ?_);rintro e w13 ⟨rfl, hb⟩;refine ⟨_, rfl, ?_⟩;replace HB := m0_ (below_step (by repeat (first | (with_reducible first | exact HB.out | apply below_alloc | apply pw_below_drewN | apply below_drew1) | exact HB.out)) hb);(try clear hb);(try clear hb2);(try clear hk);(try clear hi)))
  go_ret
  exact ⟨by first | rfl | (simp [errW_none, errW_some] <;> rfl) | (simp [*, errW_none, errW_some] <;> rfl), by repeat (first | (with_reducible first | exact HB.out | apply below_alloc | apply pw_below_drewN | apply below_drew1) | exact HB.out)⟩
 ·rw [if_neg c11] at H
  exact absurd H (by simp)

def strings_Join.f (l0 : List ByteArray) (a1 : ByteArray) : Option ByteArray := if l0.length ≤ 140737488355328 ∧ (joinB l0 a1).size ≤ 140737488355328 then some (joinB l0 a1) else none
theorem strings_Join.calls (A0 : Option Addr) (c0 : Nat) (l0 : List (ByteArray)) (a1 : ByteArray) (r : ByteArray) (w : World) (hr0 : Kd.C Kd.string w A0 l0.length l0) (hc0 : l0.length ≤ c0) (h : strings_Join.f l0 a1 = some r) :
  Calls Tryd.prog 29 #[.slice A0 l0.length c0, .string a1] w fun e w' => e = .returned (.string r) ∧ Below w.heap.size w w' := by
 unfold strings_Join.f at h
 by_cases c : l0.length ≤ 140737488355328 ∧ (joinB l0 a1).size ≤ 140737488355328
 ·rw [if_pos c] at h
  obtain rfl := Option.some.inj h
  exact join_calls A0 c0 l0 a1 w hr0 hc0 c.1 c.2
 ·rw [if_neg c] at h
  cases h

noncomputable def impl_EvsText.l0 : Nat → List ByteArray → List (S35) → Int → Int → Option (ByteArray)
 | 0, _, _, _, _ => none
 | k + 1, x3, x6, x7, x8 => if x8 < x7 then (if 0 ≤ x8 then (if x8 < (x6.length : Int) then ((impl_tell.f ((rd_T35 x6 x8).f0) ((rd_T35 x6 x8).f1) ((rd_T35 x6 x8).f2)).bind fun t103 => (if x3.length < 8796093022208 then (impl_EvsText.l0 k (x3 ++ [t103]) x6 x7 (wrap64 (x8 + 1))) else (none))) else (none)) else (none)) else ((strings_Join.f x3 (⟨#[32]⟩ : ByteArray)).bind fun t107 => (some t107))
noncomputable def impl_EvsText.f (k : Nat) (l0 : List (S35)) : Option (ByteArray) := impl_EvsText.l0 k ([] : List ByteArray) l0 (l0.length : Int) 0
set_option maxHeartbeats 8000000 in
set_option maxRecDepth 100000 in
theorem impl_EvsText.calls (k : Nat) (A0 : Option Addr) (c0 : Nat) (l0 : List (S35)) (r : ByteArray) (w : World) (hr0 : Kd.C k35 w A0 l0.length l0) (hc0 : l0.length ≤ c0) (h : impl_EvsText.f k l0 = some r) (ht_TabI : TabI w) :
  Calls Tryd.prog 7 #[.slice A0 l0.length c0] w fun e w' => e = .returned (.string r) ∧ Below w.heap.size w w' := by
 have HTX_TabI := m0_ ht_TabI
 clear ht_TabI
 have hu35 := Tryd.underlying35
 have HR0 := m0_ hr0
 have HC0 := m0_ hc0
 clear hr0 hc0
 have HB := m0_ (Below.refl w.heap.size w)
 have H : (impl_EvsText.l0 k ([] : List ByteArray) l0 (l0.length : Int) 0) = some r := h
 clear h
 have H' := m0_ H
 clear H
 go_enter Tryd.func7, Tryd.ntmps7
 go_wp2
 go_loopg [3, 8] k (fun kq v3 v8 w' => ∃ (x3_1 : List ByteArray) (x8_1 : Int), v8 = .int .i64 x8_1 ∧ Aside0 (impl_EvsText.l0 kq x3_1 l0 (l0.length : Int) x8_1 = some r) ∧ Aside0 (kq ≤ k) ∧ Aside0 (Kd.R Kd.string 9 w' w.heap.size (fun _ => True) v3 x3_1) ∧ Aside0 (Below w.heap.size w w'))
 case atStart => exact ⟨(([] : List ByteArray)), (0), (by first | rfl | (simp;done) | (simp [*];done)), H', ⟨Nat.le_refl _⟩, ⟨by first | exact Kd.R_nil _ _ _ _ _ | exact Kd.N_nil _ _ _ _ _ | exact Kd.V_nil _ _ _ _ _ | exact Kd.Q_nil _ _ _ _ _ | exact Kd.S_nil _ _ _ _ _⟩, ⟨by repeat (first | (with_reducible first | exact HB.out | apply below_alloc | apply pw_below_drewN | apply below_drew1) | exact HB.out)⟩⟩
 case round =>
  clear H'
  obtain ⟨x3_1, x8_1, rfl, HA, HK1, HO_3, HB⟩ := hrel
  cases gk with
  | zero => exact absurd HA.out (by simp [impl_EvsText.l0])
  | succ k1 =>
   have H := HA.out
   clear HA
   simp only [impl_EvsText.l0] at H
   by_cases c2 : x8_1 < (l0.length : Int)
   rotate_left
   ·rw [if_neg c2] at H
    have c2b0 : decide (x8_1 < (l0.length : Int)) = false := decide_eq_false c2
    clear c2
    replace H := Option.bind_eq_some_iff.mp H
    obtain ⟨t107, A110, H⟩ := H
    replace H : (some t107) = some r := H
    have A11 := m0_ A110
    clear A110
    obtain rfl := Option.some.inj H
    obtain ⟨Ao12, co12, eo12⟩ := Kd.R_slice HO_3.out
    subst eo12
    go_wp2_with (first | ((with_reducible refine gate_callee (f := 29) rfl ?_);refine goesL_ (some 24) rfl rfl Tryd.func29 (by kernel_rfl) rfl #[.slice Ao12 x3_1.length co12, .string (⟨#[32]⟩ : ByteArray)] rfl (by (try simp only [List.map_toArray, List.map_cons, List.map_nil]);first | done | rfl | (simp only [List.length_drop, List.length_take];rfl)) ?_;(with_reducible refine (strings_Join.calls _ _ x3_1 (⟨#[32]⟩ : ByteArray) t107 _ ?side1 ?side2 A11.out).mono ?_);(case side1 => repeat (first | exact (Kd.R_reads' HO_3.out).2.2 | (with_reducible refine Kd.C_alloc ?_ _) | (with_reducible refine Kd.C_drewN ?_ _) | (with_reducible refine Kd.C_drew ?_)));(case side2 => exact (Kd.R_reads' HO_3.out).2.1);rintro e w13 ⟨rfl, hb⟩;refine ⟨_, rfl, ?_⟩;replace HO_3 := m0_ (Kd.R_below (by exact HO_3.out) hb);replace HB := m0_ (below_step (by repeat (first | (with_reducible first | exact HB.out | apply below_alloc | apply pw_below_drewN | apply below_drew1) | exact HB.out)) hb);(try clear hb);(try clear hb2);(try clear hk);(try clear hi)))
    go_ret
    exact ⟨by first | rfl | (simp [errW_none, errW_some] <;> rfl) | (simp [*, errW_none, errW_some] <;> rfl), by repeat (first | (with_reducible first | exact HB.out | apply below_alloc | apply pw_below_drewN | apply below_drew1) | exact HB.out)⟩
   rw [if_pos c2] at H
   have c2b0 : decide (x8_1 < (l0.length : Int)) = true := decide_eq_true c2
   clear c2
   by_cases c3 : 0 ≤ x8_1
   rotate_left
   ·rw [if_neg c3] at H
    exact absurd H (by simp)
   rw [if_pos c3] at H
   have c3b0 : decide (0 ≤ x8_1) = true := decide_eq_true c3
   clear c3
   by_cases c4 : x8_1 < (l0.length : Int)
   rotate_left
   ·rw [if_neg c4] at H
    exact absurd H (by simp)
   rw [if_pos c4] at H
   have c4b0 : decide (x8_1 < (l0.length : Int)) = true := decide_eq_true c4
   clear c4
   replace H := Option.bind_eq_some_iff.mp H
   obtain ⟨t103, A50, H⟩ := H
   replace H : (if x3_1.length < 8796093022208 then (impl_EvsText.l0 k1 (x3_1 ++ [t103]) l0 (l0.length : Int) (wrap64 (x8_1 + 1))) else (none)) = some r := H
   have A5 := m0_ A50
   clear A50
   by_cases c6 : x3_1.length < 8796093022208
   rotate_left
   ·rw [if_neg c6] at H
    exact absurd H (by simp)
   rw [if_pos c6] at H
   have LMc6 := m0_ c6
   clear c6
   obtain ⟨y104, hy104⟩ : ∃ y_ : List ByteArray, y_ = (x3_1 ++ [t103]) := ⟨_, rfl⟩
   replace H : (impl_EvsText.l0 k1 y104 l0 (l0.length : Int) (wrap64 (x8_1 + 1))) = some r := by first | (rw [hy104];with_reducible exact H) | (have H2_ := (Option.bind_some _ _).symm.trans H;rw [hy104];with_reducible exact H2_) | (have H2_ := (Option.bind_some _ _).symm.trans H;with_reducible exact H2_) | with_reducible exact H | (rw [hy104];exact H) | exact H
   have Ny104 := m0_ hy104
   clear hy104
   have H' := m0_ H
   clear H
   have p101 : 0 ≤ (x8_1 : Int) := of_decide_eq_true (by first | (with_reducible assumption) | assumption)
   have q101 : x8_1 < (l0.length : Int) := of_decide_eq_true (by first | (with_reducible assumption) | assumption)
   obtain ⟨ad101, e101, hx101_0, hx101_1, hx101_2⟩ := at_T35 HR0.out x8_1 p101 q101
   cases e101
   replace hx101_0 := (HB.out.cell (World.block_lt_of_cell? w _ hx101_0)).trans hx101_0
   replace hx101_1 := (HB.out.cell (World.block_lt_of_cell? w _ hx101_1)).trans hx101_1
   replace hx101_2 := (HB.out.cell (World.block_lt_of_cell? w _ hx101_2)).trans hx101_2
   replace p101 := eq_true p101
   replace q101 := eq_true q101
   go_wp2_with (first | ((with_reducible refine gate_dst (N := 5) rfl ?_);refine box_event ?hg (N := 5) ?hd (cs := #[.int .i64 0, .int .i64 0, .int .i64 0]) (t := 35) ?hr ?_;(case hd => rfl);(case hg => rfl);(case hr => first | (go_simp;done) | (go_simp;rfl));intro gb102 hg w7 hbox hb;replace HO_3 := m0_ (Kd.R_below (by exact HO_3.out) hb);have BK102 := m0_ (hbox);have GW102 := m0_ ((by rw [hg];exact (below_size (by repeat (first | (with_reducible first | exact HB.out | apply below_alloc | apply pw_below_drewN | apply below_drew1) | exact HB.out))) : w.heap.size ≤ gb102));have GE102 := m0_ ((by rw [hg];exact (below_size (by repeat (first | (with_reducible first | exact HB.out | apply below_alloc | apply pw_below_drewN | apply below_drew1) | exact HB.out))) : w.heap.size ≤ gb102));replace HB := m0_ (below_step (by repeat (first | (with_reducible first | exact HB.out | apply below_alloc | apply pw_below_drewN | apply below_drew1) | exact HB.out)) hb);clear hb hbox hg;obtain ⟨hcz8_0, hcz8_1, hcz8_2, hfz8_0, hfz8_1, hfz8_2⟩ := bx3 BK102.out) | ((with_reducible refine gate_callee (f := 28) rfl ?_);refine goesL_ (some 19) rfl rfl Tryd.func28 (by kernel_rfl) rfl #[.int .i64 ((rd_T35 l0 x8_1).f0), .int .i64 ((rd_T35 l0 x8_1).f1), .int .i64 ((rd_T35 l0 x8_1).f2)] rfl (by (try simp only [List.map_toArray, List.map_cons, List.map_nil]);first | done | rfl | (simp only [List.length_drop, List.length_take];rfl)) ?_;(with_reducible refine (impl_tell.calls ((rd_T35 l0 x8_1).f0) ((rd_T35 l0 x8_1).f1) ((rd_T35 l0 x8_1).f2) t103 _ A5.out (by first | exact TabI.below HTX_TabI.out (by repeat (first | (with_reducible first | exact HB.out | apply below_alloc | apply pw_below_drewN | apply below_drew1 | refine below_set ?_ GE102.out) | exact HB.out)) | exact TabI.below (TabI.below HTX_TabI.out HB.out) Q_HB | exact TabI.below HTX_TabI.out (pw_below_drewN HB.out _) | exact TabI.below HTX_TabI.out (pw_below_drewN (pw_below_drewN HB.out _) _))).mono ?_);rintro e w9 ⟨rfl, hb⟩;refine ⟨_, rfl, ?_⟩;replace HO_3 := m0_ (Kd.R_below (by (with_reducible repeat (first | apply Kd.R_alloc | apply Kd.R_drewN | apply Kd.R_drew));exact (Kd.R_mono (Kd.R_far (p := ⟨gb102, 2, none⟩) (Kd.R_far (p := ⟨gb102, 1, none⟩) (Kd.R_far (p := ⟨gb102, 0, none⟩) (Kd.R_types HO_3.out BK102.out (by decide)) (fun _ hk => hk.2) (.int .i64 ((rd_T35 l0 x8_1).f0))) (fun _ hk => hk.2) (.int .i64 ((rd_T35 l0 x8_1).f1))) (fun _ hk => hk.2) (.int .i64 ((rd_T35 l0 x8_1).f2))) (fun _ h_ => h_.1))) hb);replace BK102 := m0_ (blk_below (g := gb102) (o := .cells #[.int .i64 ((rd_T35 l0 x8_1).f0), .int .i64 ((rd_T35 l0 x8_1).f1), .int .i64 ((rd_T35 l0 x8_1).f2)] 35 (0, 0)) (by (with_reducible repeat (first | refine blk_drewN ?_ _ | refine blk_drew ?_ | refine blk_alloc ?_ _));refine blk_put (cs := #[.int .i64 ((rd_T35 l0 x8_1).f0), .int .i64 ((rd_T35 l0 x8_1).f1), .int .i64 0]) ?_ 2 _ rfl;(with_reducible repeat (first | refine blk_drewN ?_ _ | refine blk_drew ?_ | refine blk_alloc ?_ _));refine blk_put (cs := #[.int .i64 ((rd_T35 l0 x8_1).f0), .int .i64 0, .int .i64 0]) ?_ 1 _ rfl;(with_reducible repeat (first | refine blk_drewN ?_ _ | refine blk_drew ?_ | refine blk_alloc ?_ _));refine blk_put (cs := #[.int .i64 0, .int .i64 0, .int .i64 0]) ?_ 0 _ rfl;(with_reducible repeat (first | refine blk_drewN ?_ _ | refine blk_drew ?_ | refine blk_alloc ?_ _));exact BK102.out) hb);replace HB := m0_ (below_step (by repeat (first | (with_reducible first | exact HB.out | apply below_alloc | apply pw_below_drewN | apply below_drew1 | refine below_set ?_ GE102.out) | exact HB.out)) hb);(try clear hb);(try clear hb2);(try clear hk);(try clear hi)) | ((with_reducible refine gate_builtin (b := .append) (xs := #[.tmp 12, .tmp 20]) rfl ?_);at_builtin;refine Kd.R_append Kd.string (w0 := w) w.heap.size rfl (.tmp 12) (.tmp 20) 48 9 (.string ⟨#[]⟩) 16 rfl Tryd.underlying48 info9 rfl (by decide) (by omega) u3 x3_1 t103 [.string t103] (fun _ => True) (fun _ => False) rfl rfl ?aP (fun _ hk => hk.elim) ?aF ?aO ?aB ?aS ?aL ?_;(case aP => exact rfl);(case aB => exact (by repeat (first | (with_reducible first | exact HB.out | apply below_alloc | apply pw_below_drewN | apply below_drew1 | refine below_set ?_ GE102.out) | exact HB.out)));(case aF => exact (fun _ _ => trivial));(case aO => exact (by exact HO_3.out));(case aS => exact (below_size (by repeat (first | (with_reducible first | exact HB.out | apply below_alloc | apply pw_below_drewN | apply below_drew1 | refine below_set ?_ GE102.out) | exact HB.out))));(case aL => have := LMc6.out;omega);intro v105 w10 ho hb hg hat;rw [← Ny104.out] at ho;have n0_ := m0_ (blk_grown BK102.out hg (Kd.R_ne HO_3.out BK102.out (by decide)));have n1_ := m0_ (hb);have n2_ := m0_ (ho);clear BK102;clear HB;clear HO_3;have BK102 := n0_;have HB := n1_;have HO106 := n2_;clear n0_ n1_ n2_;clear ho hb hg hat))
   go_roundg k1
   case measure => have := HK1.out;omega
   case rel => exact ⟨(y104), (wrap64 (x8_1 + 1)), (by first | rfl | (simp;done) | (simp [*];done)), H', ⟨by have := HK1.out;omega⟩, ⟨by (with_reducible repeat (first | apply Kd.R_alloc | apply Kd.R_drewN | apply Kd.R_drew));exact HO106.out⟩, ⟨by repeat (first | (with_reducible first | exact HB.out | apply below_alloc | apply pw_below_drewN | apply below_drew1 | refine below_set ?_ GE102.out) | exact HB.out)⟩⟩

def spec_l1Letter.f (a0 : Int) : Option (ByteArray) := if a0 < 0 then (some (⟨#[63]⟩ : ByteArray)) else (if a0 ≥ 5 then (some (⟨#[63]⟩ : ByteArray)) else (if 0 ≤ a0 then (if a0 ≤ (wrap64 (a0 + 1)) then (if (wrap64 (a0 + 1)) ≤ 5 then (some ((⟨#[97, 98, 99, 100, 101]⟩ : ByteArray).extract (a0 : Int).toNat ((wrap64 (a0 + 1)) : Int).toNat)) else (none)) else (none)) else (none)))
set_option maxHeartbeats 8000000 in
set_option maxRecDepth 100000 in
theorem spec_l1Letter.calls (a0 : Int) (r : ByteArray) (w : World) (h : spec_l1Letter.f a0 = some r) :
  Calls Tryd.prog 32 #[.int .i64 a0] w fun e w' => e = .returned (.string r) ∧ Drawn0 w w' := by
 have H : (if a0 < 0 then (some (⟨#[63]⟩ : ByteArray)) else (if a0 ≥ 5 then (some (⟨#[63]⟩ : ByteArray)) else (if 0 ≤ a0 then (if a0 ≤ (wrap64 (a0 + 1)) then (if (wrap64 (a0 + 1)) ≤ 5 then (some ((⟨#[97, 98, 99, 100, 101]⟩ : ByteArray).extract (a0 : Int).toNat ((wrap64 (a0 + 1)) : Int).toNat)) else (none)) else (none)) else (none)))) = some r := h
 clear h
 by_cases c2 : a0 < 0
 ·rw [if_pos c2] at H
  have c2b0 : decide (a0 < 0) = true := decide_eq_true c2
  clear c2
  obtain rfl := Option.some.inj H
  go_enter Tryd.func32, Tryd.ntmps32
  go_wp2
  go_ret
  exact ⟨by first | rfl | (simp;done) | (simp [*];done), by repeat (first | exact Drawn0.refl _ | apply Drawn0.step)⟩
 rw [if_neg c2] at H
 have c2b0 : decide (a0 < 0) = false := decide_eq_false c2
 clear c2
 by_cases c3 : a0 ≥ 5
 ·rw [if_pos c3] at H
  have c3b0 : decide (5 ≤ a0) = true := decide_eq_true c3
  clear c3
  obtain rfl := Option.some.inj H
  go_enter Tryd.func32, Tryd.ntmps32
  go_wp2
  go_ret
  exact ⟨by first | rfl | (simp;done) | (simp [*];done), by repeat (first | exact Drawn0.refl _ | apply Drawn0.step)⟩
 rw [if_neg c3] at H
 have c3b0 : decide (5 ≤ a0) = false := decide_eq_false c3
 clear c3
 by_cases c4 : 0 ≤ a0
 rotate_left
 ·rw [if_neg c4] at H
  exact absurd H (by simp)
 rw [if_pos c4] at H
 have c4b0 := eq_true c4
 have c4b1 : decide (0 ≤ a0) = true := decide_eq_true c4
 clear c4
 by_cases c5 : a0 ≤ (wrap64 (a0 + 1))
 ·rw [if_pos c5] at H
  have c5b0 := eq_true c5
  have c5b1 : decide (a0 ≤ (wrap64 (a0 + 1))) = true := decide_eq_true c5
  by_cases c6 : (wrap64 (a0 + 1)) ≤ 5
  ·rw [if_pos c6] at H
   have c6b0 := eq_true c6
   have c6b1 : decide ((wrap64 (a0 + 1)) ≤ 5) = true := decide_eq_true c6
   obtain rfl := Option.some.inj H
   go_enter Tryd.func32, Tryd.ntmps32
   go_wp2
   go_ret
   exact ⟨by first | rfl | (simp;done) | (simp [*];done), by repeat (first | exact Drawn0.refl _ | apply Drawn0.step)⟩
  ·rw [if_neg c6] at H
   exact absurd H (by simp)
 ·rw [if_neg c5] at H
  exact absurd H (by simp)

mutual
def spec_l14Dec.l0 : Nat → Int → ByteArray → Option (ByteArray)
 | 0, _, _ => none
 | k + 1, x0, x3 => if x0 > 9 then ((some (([(wrap64 (48 + (Int.tmod x0 10))) % 256] : List Int) : List Int)).bind fun y102 => (if (strOfNums y102).size + x3.size ≤ 9223372036854775807 then (spec_l14Dec.l0 k (wrap64 (Int.tdiv x0 10)) ((strOfNums y102) ++ x3)) else (none))) else ((some (([(wrap64 (48 + x0)) % 256] : List Int) : List Int)).bind fun y105 => (if (strOfNums y105).size + x3.size ≤ 9223372036854775807 then (some ((strOfNums y105) ++ x3)) else (none)))
def spec_l14Dec.f : Nat → Int → Option (ByteArray)
 | 0, _ => none
 | k + 1, a0 => if a0 < (-9223372036854775807) then (some (⟨#[45, 57, 50, 50, 51, 51, 55, 50, 48, 51, 54, 56, 53, 52, 55, 55, 53, 56, 48, 56]⟩ : ByteArray)) else (if a0 < 0 then ((spec_l14Dec.f k (wrap64 (-a0))).bind fun t101 => (if 1 + t101.size ≤ 9223372036854775807 then (some ((⟨#[45]⟩ : ByteArray) ++ t101)) else (none))) else (spec_l14Dec.l0 k a0 (⟨#[]⟩ : ByteArray)))
end
set_option maxHeartbeats 8000000 in
set_option maxRecDepth 100000 in
theorem spec_l14Dec.calls (k : Nat) : ∀ (a0 : Int) (r : ByteArray) (w : World) (h : spec_l14Dec.f k a0 = some r),
  Calls Tryd.prog 33 #[.int .i64 a0] w fun e w' => e = .returned (.string r) ∧ Below w.heap.size w w' := by
 induction k using Nat.strongRecOn with
 | _ k ih =>
 intro a0 r w h
 cases k with
 | zero => exact absurd h (by simp [spec_l14Dec.f])
 | succ k =>
 simp only [spec_l14Dec.f] at h
 have HB := m0_ (Below.refl w.heap.size w)
 have H : (if a0 < (-9223372036854775807) then (some (⟨#[45, 57, 50, 50, 51, 51, 55, 50, 48, 51, 54, 56, 53, 52, 55, 55, 53, 56, 48, 56]⟩ : ByteArray)) else (if a0 < 0 then ((spec_l14Dec.f k (wrap64 (-a0))).bind fun t101 => (if 1 + t101.size ≤ 9223372036854775807 then (some ((⟨#[45]⟩ : ByteArray) ++ t101)) else (none))) else (spec_l14Dec.l0 k a0 (⟨#[]⟩ : ByteArray)))) = some r := h
 clear h
 by_cases c2 : a0 < (-9223372036854775807)
 ·rw [if_pos c2] at H
  have c2b0 : decide (a0 < (-9223372036854775807)) = true := decide_eq_true c2
  clear c2
  obtain rfl := Option.some.inj H
  go_enter Tryd.func33, Tryd.ntmps33
  go_wp2
  go_ret
  exact ⟨by first | rfl | (simp [errW_none, errW_some] <;> rfl) | (simp [*, errW_none, errW_some] <;> rfl), by repeat (first | (with_reducible first | exact HB.out | apply below_alloc | apply pw_below_drewN | apply below_drew1) | exact HB.out)⟩
 rw [if_neg c2] at H
 have c2b0 : decide (a0 < (-9223372036854775807)) = false := decide_eq_false c2
 clear c2
 by_cases c3 : a0 < 0
 ·rw [if_pos c3] at H
  have c3b0 : decide (a0 < 0) = true := decide_eq_true c3
  clear c3
  replace H := Option.bind_eq_some_iff.mp H
  obtain ⟨t101, A40, H⟩ := H
  replace H : (if 1 + t101.size ≤ 9223372036854775807 then (some ((⟨#[45]⟩ : ByteArray) ++ t101)) else (none)) = some r := H
  have A4 := m0_ A40
  clear A40
  by_cases c5 : 1 + t101.size ≤ 9223372036854775807
  ·rw [if_pos c5] at H
   have c5b0 := eq_true c5
   have c5b1 : decide (1 + t101.size ≤ 9223372036854775807) = true := decide_eq_true c5
   try have c5b2 : (9223372036854775807 < 1 + t101.size) = False := eq_false (Nat.not_lt.2 c5)
   obtain rfl := Option.some.inj H
   go_enter Tryd.func33, Tryd.ntmps33
   go_wp2_with (first | ((with_reducible refine gate_callee (f := 33) rfl ?_);refine goesL_ (some 10) rfl rfl Tryd.func33 (by kernel_rfl) rfl #[.int .i64 (wrap64 (-a0))] rfl (by (try simp only [List.map_toArray, List.map_cons, List.map_nil]);first | done | rfl | (simp only [List.length_drop, List.length_take];rfl)) ?_;(with_reducible refine (ih k (by omega) (wrap64 (-a0)) t101 _ A4.out).mono ?_);rintro e w6 ⟨rfl, hb⟩;refine ⟨_, rfl, ?_⟩;replace HB := m0_ (below_step (by exact HB.out) hb);(try clear hb);(try clear hb2);(try clear hk);(try clear hi)))
   go_ret
   exact ⟨by first | rfl | (simp [errW_none, errW_some] <;> rfl) | (simp [*, errW_none, errW_some] <;> rfl), by repeat (first | (with_reducible first | exact HB.out | apply below_alloc | apply pw_below_drewN | apply below_drew1) | exact HB.out)⟩
  ·rw [if_neg c5] at H
   exact absurd H (by simp)
 rw [if_neg c3] at H
 have c3b0 : decide (a0 < 0) = false := decide_eq_false c3
 clear c3
 have H' := m0_ H
 clear H
 go_enter Tryd.func33, Tryd.ntmps33
 go_wp2
 go_loopg [0, 3] k (fun kq v0 v3 w' => ∃ (x0_1 : Int) (x3_1 : ByteArray), v0 = .int .i64 x0_1 ∧ v3 = .string x3_1 ∧ Aside0 (spec_l14Dec.l0 kq x0_1 x3_1 = some r) ∧ Aside0 (kq ≤ k) ∧ Aside0 (Below w.heap.size w w'))
 case atStart => exact ⟨(a0), ((⟨#[]⟩ : ByteArray)), (by first | rfl | (simp;done) | (simp [*];done)), (by first | rfl | (simp;done) | (simp [*];done)), H', ⟨Nat.le_refl _⟩, ⟨by repeat (first | (with_reducible first | exact HB.out | apply below_alloc | apply pw_below_drewN | apply below_drew1) | exact HB.out)⟩⟩
 case round =>
  clear H'
  try clear c2
  try clear c2b0
  try clear p2
  try clear c3
  try clear c3b0
  try clear c5
  try clear c5b0
  try clear c5b1
  try clear c5b2
  try clear p6
  obtain ⟨x0_1, x3_1, rfl, rfl, HA, HK1, HB⟩ := hrel
  cases gk with
  | zero => exact absurd HA.out (by simp [spec_l14Dec.l0])
  | succ k1 =>
   have H := HA.out
   clear HA
   simp only [spec_l14Dec.l0] at H
   by_cases c7 : x0_1 > 9
   rotate_left
   ·rw [if_neg c7] at H
    have c7b0 : decide (9 < x0_1) = false := decide_eq_false c7
    clear c7
    obtain ⟨y105, hy105⟩ : ∃ y_ : List Int, y_ = (([(wrap64 (48 + x0_1)) % 256] : List Int)) := ⟨_, rfl⟩
    replace H : (if (strOfNums y105).size + x3_1.size ≤ 9223372036854775807 then (some ((strOfNums y105) ++ x3_1)) else (none)) = some r := by first | (rw [hy105];with_reducible exact H) | (have H2_ := (Option.bind_some _ _).symm.trans H;rw [hy105];with_reducible exact H2_) | (have H2_ := (Option.bind_some _ _).symm.trans H;with_reducible exact H2_) | with_reducible exact H | (rw [hy105];exact H) | exact H
    have Ny105 := m0_ hy105
    clear hy105
    by_cases c12 : (strOfNums y105).size + x3_1.size ≤ 9223372036854775807
    ·rw [if_pos c12] at H
     have c12b0 := eq_true c12
     have c12b1 : decide ((strOfNums y105).size + x3_1.size ≤ 9223372036854775807) = true := decide_eq_true c12
     try have c12b2 : (9223372036854775807 < (strOfNums y105).size + x3_1.size) = False := eq_false (Nat.not_lt.2 c12)
     obtain rfl := Option.some.inj H
     go_wp2_with (first | ((with_reducible refine gate_dst (N := 27) rfl ?_);refine Kd.R_lit (Kd.int .u8) _ 5 ?hg (N := 27) ?hd (xs := ([(wrap64 (48 + x0_1)) % 256] : List Int)) (inner := [.int .u8 ((wrap64 (48 + x0_1)) % 256)]) (ok := fun _ => True) (okp := fun _ => True) ?hr ?hp (fun _ hk => hk) trivial (Below.refl _ _) (Nat.le_refl _) (by simp) ?_;(case hd => rfl);(case hg => rfl);(case hr => first | (go_simp;done) | (go_simp;rfl));(case hp => exact (Reps.one (show Kd.M (Kd.int .u8) _ _ _ ((wrap64 (48 + x0_1)) % 256) [.int .u8 ((wrap64 (48 + x0_1)) % 256)] from rfl) (Reps.none _ _)));intro v106 w13 ho14 hb hg_ hnew_;clear hg_ hnew_;(first | rw [← Ny105.out] at ho14 | (simp only [Int.reduceToNat] at ho14;rw [← Ny105.out] at ho14));have HO107 := m0_ (Kd.R_lower ho14 (below_size (by exact HB.out)));replace HB := m0_ (below_step (by exact HB.out) hb);clear hb ho14;have hcv15 := own_string (P := Tryd.prog) Tryd.underlying22 Tryd.underlying5 Tryd.underlying9 (Kd.own_of_R HO107.out)))
     go_ret
     exact ⟨by first | rfl | (simp [errW_none, errW_some] <;> rfl) | (simp [*, errW_none, errW_some] <;> rfl), by repeat (first | (with_reducible first | exact HB.out | apply below_alloc | apply pw_below_drewN | apply below_drew1) | exact HB.out)⟩
    ·rw [if_neg c12] at H
     exact absurd H (by simp)
   rw [if_pos c7] at H
   have c7b0 : decide (9 < x0_1) = true := decide_eq_true c7
   clear c7
   obtain ⟨y102, hy102⟩ : ∃ y_ : List Int, y_ = (([(wrap64 (48 + (Int.tmod x0_1 10))) % 256] : List Int)) := ⟨_, rfl⟩
   replace H : (if (strOfNums y102).size + x3_1.size ≤ 9223372036854775807 then (spec_l14Dec.l0 k1 (wrap64 (Int.tdiv x0_1 10)) ((strOfNums y102) ++ x3_1)) else (none)) = some r := by first | (rw [hy102];with_reducible exact H) | (have H2_ := (Option.bind_some _ _).symm.trans H;rw [hy102];with_reducible exact H2_) | (have H2_ := (Option.bind_some _ _).symm.trans H;with_reducible exact H2_) | with_reducible exact H | (rw [hy102];exact H) | exact H
   have Ny102 := m0_ hy102
   clear hy102
   by_cases c8 : (strOfNums y102).size + x3_1.size ≤ 9223372036854775807
   ·rw [if_pos c8] at H
    have c8b0 := eq_true c8
    have c8b1 : decide ((strOfNums y102).size + x3_1.size ≤ 9223372036854775807) = true := decide_eq_true c8
    try have c8b2 : (9223372036854775807 < (strOfNums y102).size + x3_1.size) = False := eq_false (Nat.not_lt.2 c8)
    have H' := m0_ H
    clear H
    go_wp2_with (first | ((with_reducible refine gate_dst (N := 18) rfl ?_);refine Kd.R_lit (Kd.int .u8) _ 5 ?hg (N := 18) ?hd (xs := ([(wrap64 (48 + (Int.tmod x0_1 10))) % 256] : List Int)) (inner := [.int .u8 ((wrap64 (48 + (Int.tmod x0_1 10))) % 256)]) (ok := fun _ => True) (okp := fun _ => True) ?hr ?hp (fun _ hk => hk) trivial (Below.refl _ _) (Nat.le_refl _) (by simp) ?_;(case hd => rfl);(case hg => rfl);(case hr => first | (go_simp;done) | (go_simp;rfl));(case hp => exact (Reps.one (show Kd.M (Kd.int .u8) _ _ _ ((wrap64 (48 + (Int.tmod x0_1 10))) % 256) [.int .u8 ((wrap64 (48 + (Int.tmod x0_1 10))) % 256)] from rfl) (Reps.none _ _)));intro v103 w9 ho10 hb hg_ hnew_;clear hg_ hnew_;(first | rw [← Ny102.out] at ho10 | (simp only [Int.reduceToNat] at ho10;rw [← Ny102.out] at ho10));have HO104 := m0_ (Kd.R_lower ho10 (below_size (by exact HB.out)));replace HB := m0_ (below_step (by exact HB.out) hb);clear hb ho10;have hcv11 := own_string (P := Tryd.prog) Tryd.underlying22 Tryd.underlying5 Tryd.underlying9 (Kd.own_of_R HO104.out)))
    go_roundg k1
    case measure => have := HK1.out;omega
    case rel => exact ⟨(wrap64 (Int.tdiv x0_1 10)), ((strOfNums y102) ++ x3_1), (by first | rfl | (simp;done) | (simp [*];done)), (by first | rfl | (simp;done) | (simp [*];done)), H', ⟨by have := HK1.out;omega⟩, ⟨by repeat (first | (with_reducible first | exact HB.out | apply below_alloc | apply pw_below_drewN | apply below_drew1) | exact HB.out)⟩⟩
   ·rw [if_neg c8] at H
    exact absurd H (by simp)

mutual
def spec_EvsText.l0 : Nat → List (S35) → ByteArray → Int → Option (ByteArray)
 | 0, _, _, _ => none
 | k + 1, x0, x3, x4 => if x4 < (x0.length : Int) then (if x4 > 0 then (if x3.size + 1 ≤ 9223372036854775807 then (spec_EvsText.j1 k x0 (x3 ++ (⟨#[32]⟩ : ByteArray)) x4) else (none)) else (spec_EvsText.j1 k x0 x3 x4)) else (some x3)
def spec_EvsText.j1 : Nat → List (S35) → ByteArray → Int → Option (ByteArray)
 | 0, _, _, _ => none
 | k + 1, x0, x3, x4 => if 0 ≤ x4 then (if x4 < (x0.length : Int) then ((spec_l1Letter.f ((rd_T35 x0 x4).f0)).bind fun t102 => (if x3.size + t102.size ≤ 9223372036854775807 then ((spec_l14Dec.f k ((rd_T35 x0 x4).f1)).bind fun t104 => (if (x3 ++ t102).size + t104.size ≤ 9223372036854775807 then (if ((rd_T35 x0 x4).f2) = 0 then (spec_EvsText.l0 k x0 ((x3 ++ t102) ++ t104) (wrap64 (x4 + 1))) else (if ((x3 ++ t102) ++ t104).size + 1 ≤ 9223372036854775807 then ((spec_l14Dec.f k ((rd_T35 x0 x4).f2)).bind fun t107 => (if (((x3 ++ t102) ++ t104) ++ (⟨#[61]⟩ : ByteArray)).size + t107.size ≤ 9223372036854775807 then (spec_EvsText.l0 k x0 ((((x3 ++ t102) ++ t104) ++ (⟨#[61]⟩ : ByteArray)) ++ t107) (wrap64 (x4 + 1))) else (none))) else (none))) else (none))) else (none))) else (none)) else (none)
end
def spec_EvsText.f (k : Nat) (l0 : List (S35)) : Option (ByteArray) := spec_EvsText.l0 k l0 (⟨#[]⟩ : ByteArray) 0
def spec_EvsText.T7 : Bool × List (List Nat × List Nat) := (true, [([], []), ([], []), ([], []), ([1, 2], [1, 2]), ([3], [3]), ([4], [4]), ([5], [5]), ([0, 6], [0, 6]), ([], []), ([], []), ([8, 9], [8, 9]), ([10], [10]), ([11], [11]), ([12, 6], [12]), ([7, 13], [7, 13]), ([14, 13, 0, 1, 2, 3, 4, 5, 6, 7, 8, 9, 10, 11, 12, 13, 14], [0, 14])])
def spec_EvsText.B7 : List Nat := [0, 0, 0, 6, 14, 30, 62, 127, 0, 0, 768, 1792, 3840, 8062, 16383, 32767]
theorem spec_EvsText.tab7 : rtab .any (opsOf Tryd.f9 7) = spec_EvsText.T7 := by kernel_rfl
theorem spec_EvsText.bits7 : waitsOk spec_EvsText.T7.2 spec_EvsText.B7 = true := by kernel_rfl
set_option maxHeartbeats 8000000 in
set_option maxRecDepth 100000 in
theorem spec_EvsText.calls (k : Nat) (A0 : Option Addr) (c0 : Nat) (l0 : List (S35)) (r : ByteArray) (w : World) (hr0 : Kd.C k35 w A0 l0.length l0) (hc0 : l0.length ≤ c0) (h : spec_EvsText.f k l0 = some r) :
  Calls Tryd.prog 9 #[.slice A0 l0.length c0] w fun e w' => e = .returned (.string r) ∧ Below w.heap.size w w' := by
 have HR0 := m0_ hr0
 have HC0 := m0_ hc0
 clear hr0 hc0
 have HB := m0_ (Below.refl w.heap.size w)
 have H : (spec_EvsText.l0 k l0 (⟨#[]⟩ : ByteArray) 0) = some r := h
 clear h
 have H' := m0_ H
 clear H
 go_enter Tryd.func9, Tryd.ntmps9
 go_wp2
 go_loopg [3, 4] k (fun kq v3 v4 w' => ∃ (x3_1 : ByteArray) (x4_1 : Int), v3 = .string x3_1 ∧ v4 = .int .i64 x4_1 ∧ Aside0 (spec_EvsText.l0 kq l0 x3_1 x4_1 = some r) ∧ Aside0 (kq ≤ k) ∧ Aside0 (Below w.heap.size w w'))
 case atStart => exact ⟨((⟨#[]⟩ : ByteArray)), (0), (by first | rfl | (simp;done) | (simp [*];done)), (by first | rfl | (simp;done) | (simp [*];done)), H', ⟨Nat.le_refl _⟩, ⟨by repeat (first | (with_reducible first | exact HB.out | apply below_alloc | apply pw_below_drewN | apply below_drew1) | exact HB.out)⟩⟩
 case round =>
  clear H'
  obtain ⟨x3_1, x4_1, rfl, rfl, HA, HK1, HB⟩ := hrel
  cases gk with
  | zero => exact absurd HA.out (by simp [spec_EvsText.l0])
  | succ k1 =>
   have H := HA.out
   clear HA
   simp only [spec_EvsText.l0] at H
   by_cases c2 : x4_1 < (l0.length : Int)
   rotate_left
   ·rw [if_neg c2] at H
    have c2b0 : decide (x4_1 < (l0.length : Int)) = false := decide_eq_false c2
    clear c2
    obtain rfl := Option.some.inj H
    go_wp2
    go_ret
    exact ⟨by first | rfl | (simp [errW_none, errW_some] <;> rfl) | (simp [*, errW_none, errW_some] <;> rfl), by repeat (first | (with_reducible first | exact HB.out | apply below_alloc | apply pw_below_drewN | apply below_drew1) | exact HB.out)⟩
   rw [if_pos c2] at H
   have c2b0 : decide (x4_1 < (l0.length : Int)) = true := decide_eq_true c2
   clear c2
   have HC3 := m0_ H
   clear H
   go_upto_if 12 with (fail)
   go_cut [3] (fun v3 wc => ∃ (kq : Nat) (x3_2 : ByteArray), v3 = .string x3_2 ∧ Aside0 (spec_EvsText.j1 kq l0 x3_2 x4_1 = some r) ∧ Aside0 (kq ≤ k1) ∧ Aside0 (Below w.heap.size w wc))
   case first =>
    have H := HC3.out
    clear HC3
    by_cases c4 : x4_1 > 0
    rotate_left
    ·rw [if_neg c4] at H
     have c4b0 : decide (0 < x4_1) = false := decide_eq_false c4
     clear c4
     (first | rw [c4b0] | (simp only [i64_w, i32_w];rw [c4b0]) | skip)
     have H' := m0_ H
     clear H
     go_wp2
     go_meet
     case rel => exact ⟨_, (x3_1), (by first | rfl | (simp;done) | (simp [*];done)), H', ⟨by have := HK1.out;first | omega | exact Nat.le_refl _⟩, ⟨by repeat (first | (with_reducible first | exact HB.out | apply below_alloc | apply pw_below_drewN | apply below_drew1) | exact HB.out)⟩⟩
    rw [if_pos c4] at H
    have c4b0 : decide (0 < x4_1) = true := decide_eq_true c4
    clear c4
    (first | rw [c4b0] | (simp only [i64_w, i32_w];rw [c4b0]) | skip)
    by_cases c5 : x3_1.size + 1 ≤ 9223372036854775807
    ·rw [if_pos c5] at H
     have c5b0 := eq_true c5
     have c5b1 : decide (x3_1.size + 1 ≤ 9223372036854775807) = true := decide_eq_true c5
     try have c5b2 : (9223372036854775807 < x3_1.size + 1) = False := eq_false (Nat.not_lt.2 c5)
     have H' := m0_ H
     clear H
     go_wp2
     go_meet
     case rel => exact ⟨_, (x3_1 ++ (⟨#[32]⟩ : ByteArray)), (by first | rfl | (simp;done) | (simp [*];done)), H', ⟨by have := HK1.out;first | omega | exact Nat.le_refl _⟩, ⟨by repeat (first | (with_reducible first | exact HB.out | apply below_alloc | apply pw_below_drewN | apply below_drew1) | exact HB.out)⟩⟩
    ·rw [if_neg c5] at H
     exact absurd H (by simp)
   case rest =>
    clear HC3
    try clear c2
    try clear c2b0
    try clear p2
    try clear c4
    try clear c4b0
    try clear c5
    try clear c5b0
    try clear c5b1
    try clear c5b2
    obtain ⟨kq, x3_2, rfl, HA, HJ2, HB⟩ := hcut
    cases kq with
    | zero => exact absurd HA.out (by simp [spec_EvsText.j1])
    | succ kj2 =>
     have H := HA.out
     clear HA
     simp only [spec_EvsText.j1] at H
     by_cases c6 : 0 ≤ x4_1
     rotate_left
     ·rw [if_neg c6] at H
      exact absurd H (by simp)
     rw [if_pos c6] at H
     have c6b0 : decide (0 ≤ x4_1) = true := decide_eq_true c6
     clear c6
     by_cases c7 : x4_1 < (l0.length : Int)
     rotate_left
     ·rw [if_neg c7] at H
      exact absurd H (by simp)
     rw [if_pos c7] at H
     have c7b0 : decide (x4_1 < (l0.length : Int)) = true := decide_eq_true c7
     clear c7
     replace H := Option.bind_eq_some_iff.mp H
     obtain ⟨t102, A80, H⟩ := H
     replace H : (if x3_2.size + t102.size ≤ 9223372036854775807 then ((spec_l14Dec.f kj2 ((rd_T35 l0 x4_1).f1)).bind fun t104 => (if (x3_2 ++ t102).size + t104.size ≤ 9223372036854775807 then (if ((rd_T35 l0 x4_1).f2) = 0 then (spec_EvsText.l0 kj2 l0 ((x3_2 ++ t102) ++ t104) (wrap64 (x4_1 + 1))) else (if ((x3_2 ++ t102) ++ t104).size + 1 ≤ 9223372036854775807 then ((spec_l14Dec.f kj2 ((rd_T35 l0 x4_1).f2)).bind fun t107 => (if (((x3_2 ++ t102) ++ t104) ++ (⟨#[61]⟩ : ByteArray)).size + t107.size ≤ 9223372036854775807 then (spec_EvsText.l0 kj2 l0 ((((x3_2 ++ t102) ++ t104) ++ (⟨#[61]⟩ : ByteArray)) ++ t107) (wrap64 (x4_1 + 1))) else (none))) else (none))) else (none))) else (none)) = some r := H
     have A8 := m0_ A80
     clear A80
     by_cases c9 : x3_2.size + t102.size ≤ 9223372036854775807
     rotate_left
     ·rw [if_neg c9] at H
      exact absurd H (by simp)
     rw [if_pos c9] at H
     have c9b0 := eq_true c9
     have c9b1 : decide (x3_2.size + t102.size ≤ 9223372036854775807) = true := decide_eq_true c9
     try have c9b2 : (9223372036854775807 < x3_2.size + t102.size) = False := eq_false (Nat.not_lt.2 c9)
     replace H := Option.bind_eq_some_iff.mp H
     obtain ⟨t104, A100, H⟩ := H
     replace H : (if (x3_2 ++ t102).size + t104.size ≤ 9223372036854775807 then (if ((rd_T35 l0 x4_1).f2) = 0 then (spec_EvsText.l0 kj2 l0 ((x3_2 ++ t102) ++ t104) (wrap64 (x4_1 + 1))) else (if ((x3_2 ++ t102) ++ t104).size + 1 ≤ 9223372036854775807 then ((spec_l14Dec.f kj2 ((rd_T35 l0 x4_1).f2)).bind fun t107 => (if (((x3_2 ++ t102) ++ t104) ++ (⟨#[61]⟩ : ByteArray)).size + t107.size ≤ 9223372036854775807 then (spec_EvsText.l0 kj2 l0 ((((x3_2 ++ t102) ++ t104) ++ (⟨#[61]⟩ : ByteArray)) ++ t107) (wrap64 (x4_1 + 1))) else (none))) else (none))) else (none)) = some r := H
     have A10 := m0_ A100
     clear A100
     by_cases c11 : (x3_2 ++ t102).size + t104.size ≤ 9223372036854775807
     rotate_left
     ·rw [if_neg c11] at H
      exact absurd H (by simp)
     rw [if_pos c11] at H
     have c11b0 := eq_true c11
     have c11b1 : decide ((x3_2 ++ t102).size + t104.size ≤ 9223372036854775807) = true := decide_eq_true c11
     have c11z : (x3_2 ++ t102).size + t104.size ≤ 9223372036854775807 := c11
     simp only [ByteArray.size_append, show (⟨#[32]⟩ : ByteArray).size = 1 from rfl] at c11z
     have c11z0 := eq_true c11z
     have c11z1 := decide_eq_true c11z
     have c11z2 := eq_false (Nat.not_lt.2 c11z)
     try have c11b2 : (9223372036854775807 < (x3_2 ++ t102).size + t104.size) = False := eq_false (Nat.not_lt.2 c11)
     by_cases c12 : ((rd_T35 l0 x4_1).f2) = 0
     ·rw [if_pos c12] at H
      have c12b0 : (((rd_T35 l0 x4_1).f2) == 0) = true := beq_iff_eq.mpr c12
      have c12b1 : (((rd_T35 l0 x4_1).f2) != 0) = false := bne_eq_false_iff_eq.mpr c12
      clear c12
      have H' := m0_ H
      clear H
      try go_wp2
      replace HB := m0_ (below_drew1 HB.out)
      have p101 : 0 ≤ (x4_1 : Int) := of_decide_eq_true (by first | (with_reducible assumption) | assumption)
      have q101 : x4_1 < (l0.length : Int) := of_decide_eq_true (by first | (with_reducible assumption) | assumption)
      obtain ⟨ad101, e101, hx101_0, hx101_1, hx101_2⟩ := at_T35 HR0.out x4_1 p101 q101
      have hw101_2 := hx101_2
      have hw101_1 := hx101_1
      have hw101_0 := hx101_0
      cases e101
      replace hx101_0 := (HB.out.cell (World.block_lt_of_cell? w _ hx101_0)).trans hx101_0
      replace hx101_1 := (HB.out.cell (World.block_lt_of_cell? w _ hx101_1)).trans hx101_1
      replace hx101_2 := (HB.out.cell (World.block_lt_of_cell? w _ hx101_2)).trans hx101_2
      replace p101 := eq_true p101
      replace q101 := eq_true q101
      have p103 : 0 ≤ (x4_1 : Int) := of_decide_eq_true (by first | (with_reducible assumption) | assumption)
      have q103 : x4_1 < (l0.length : Int) := of_decide_eq_true (by first | (with_reducible assumption) | assumption)
      obtain ⟨ad103, e103, hx103_0, hx103_1, hx103_2⟩ := at_T35 HR0.out x4_1 p103 q103
      have hw103_2 := hx103_2
      have hw103_1 := hx103_1
      have hw103_0 := hx103_0
      obtain rfl : ad101 = ad103 := (by injection e103)
      replace hx103_0 := (HB.out.cell (World.block_lt_of_cell? w _ hx103_0)).trans hx103_0
      replace hx103_1 := (HB.out.cell (World.block_lt_of_cell? w _ hx103_1)).trans hx103_1
      replace hx103_2 := (HB.out.cell (World.block_lt_of_cell? w _ hx103_2)).trans hx103_2
      replace p103 := eq_true p103
      replace q103 := eq_true q103
      refine start_ (n := 16) (S := fun w' => w'.cell? (ad101.add ((x4_1).toNat * 3)) = some (.int .i64 ((rd_T35 l0 x4_1).f0)) ∧ w'.cell? ⟨(ad101.add ((x4_1).toNat * 3)).block, (ad101.add ((x4_1).toNat * 3)).off + 1, none⟩ = some (.int .i64 ((rd_T35 l0 x4_1).f1)) ∧ w'.cell? ⟨(ad101.add ((x4_1).toNat * 3)).block, (ad101.add ((x4_1).toNat * 3)).off + 2, none⟩ = some (.int .i64 ((rd_T35 l0 x4_1).f2)) ∧ w'.cell? (ad101.add ((x4_1).toNat * 3)) = some (.int .i64 ((rd_T35 l0 x4_1).f0)) ∧ w'.cell? ⟨(ad101.add ((x4_1).toNat * 3)).block, (ad101.add ((x4_1).toNat * 3)).off + 1, none⟩ = some (.int .i64 ((rd_T35 l0 x4_1).f1)) ∧ w'.cell? ⟨(ad101.add ((x4_1).toNat * 3)).block, (ad101.add ((x4_1).toNat * 3)).off + 2, none⟩ = some (.int .i64 ((rd_T35 l0 x4_1).f2))) (ds := []) #[false, false, false, false, false, false, false, false, false, false, false, false, false, false, false, false] (by kernel_rfl) rfl rfl ⟨((HB.out.cell (World.block_lt_of_cell? w _ hw101_0)).trans hw101_0), ((HB.out.cell (World.block_lt_of_cell? w _ hw101_1)).trans hw101_1), ((HB.out.cell (World.block_lt_of_cell? w _ hw101_2)).trans hw101_2), ((HB.out.cell (World.block_lt_of_cell? w _ hw103_0)).trans hw103_0), ((HB.out.cell (World.block_lt_of_cell? w _ hw103_1)).trans hw103_1), ((HB.out.cell (World.block_lt_of_cell? w _ hw103_2)).trans hw103_2)⟩ (fun hHeld => ?_);refine with_tabW spec_EvsText.tab7 spec_EvsText.bits7 (fun HT_ HW_ => ?_)
      generalize wc.drew = w13 at HB hx101_0 hx101_1 hx101_2 hx103_0 hx103_1 hx103_2 hHeld ⊢
      refine pv_ 0 15 #[true, false, false, false, false, false, false, false, false, false, false, false, false, false, false, false] (any_of HT_.out (by kernel_rfl)) ?_
      refine pv_ 1 16 #[true, true, false, false, false, false, false, false, false, false, false, false, false, false, false, false] (any_of HT_.out (by kernel_rfl)) ?_
      refine pv_ 2 17 #[true, true, true, false, false, false, false, false, false, false, false, false, false, false, false, false] (any_of HT_.out (by kernel_rfl)) ?_
      refine pv_ 3 18 #[true, true, true, true, false, false, false, false, false, false, false, false, false, false, false, false] (any_of HT_.out (by kernel_rfl)) ?_
      refine pv_ 4 19 #[true, true, true, true, true, false, false, false, false, false, false, false, false, false, false, false] (any_of HT_.out (by kernel_rfl)) ?_
      refine pv_ 8 23 #[true, true, true, true, true, false, false, false, true, false, false, false, false, false, false, false] (any_of HT_.out (by kernel_rfl)) ?_
      refine pv_ 9 24 #[true, true, true, true, true, false, false, false, true, true, false, false, false, false, false, false] (any_of HT_.out (by kernel_rfl)) ?_
      refine pv_ 10 25 #[true, true, true, true, true, false, false, false, true, true, true, false, false, false, false, false] (any_of HT_.out (by kernel_rfl)) ?_
      refine pv_ 11 26 #[true, true, true, true, true, false, false, false, true, true, true, true, false, false, false, false] (any_of HT_.out (by kernel_rfl)) ?_
      refine take_ (i := 5) (N := some 20) (v := ?_) (a' := ?_) #[true, true, true, true, true, true, false, false, true, true, true, true, false, false, false, false] rfl rfl (take_ofW HT_.out HW_.out (by kernel_rfl)) (fun _ _ _ h => h) (Or.inl ⟨by rfl, ?_⟩) hHeld ?_ ?_
      rotate_left
      ·rintro w' ⟨s0, s1, s2, s3, s4, s5⟩
       go_simp
       with_reducible rfl
      rotate_left
      ·simp only [Act.put, List.setIfInBounds_toArray, List.set_cons_zero, List.set_cons_succ, i64_w, i32_w]
       rfl
      refine take_ (i := 12) (N := some 27) (v := ?_) (a' := ?_) #[true, true, true, true, true, true, false, false, true, true, true, true, true, false, false, false] rfl rfl (take_ofW HT_.out HW_.out (by kernel_rfl)) (fun _ _ _ h => h) (Or.inl ⟨by rfl, ?_⟩) hHeld ?_ ?_
      rotate_left
      ·rintro w' ⟨s0, s1, s2, s3, s4, s5⟩
       go_simp
       with_reducible rfl
      rotate_left
      ·simp only [Act.put, List.setIfInBounds_toArray, List.set_cons_zero, List.set_cons_succ, i64_w, i32_w]
       rfl
      refine one_ (i := 6) (N := some 21) #[true, true, true, true, true, true, true, false, true, true, true, true, true, false, false, false] rfl rfl (one_of HT_.out (by kernel_rfl)) (by decide) (fun K hK => ?_)
      refine goes_ Tryd.func32 (by kernel_rfl) rfl #[.int .i64 ((rd_T35 l0 x4_1).f0)] (by rfl) rfl rfl (by (try simp only [List.map_toArray, List.map_cons, List.map_nil]);first | done | rfl | (simp only [List.length_drop, List.length_take];rfl)) ?_
      with_reducible refine (spec_l1Letter.calls ((rd_T35 l0 x4_1).f0) t102 _ A8.out).mono ?_
      rintro e w' ⟨rfl, ⟨nd, rfl⟩⟩
      refine ⟨_, rfl, ?_⟩
      refine hK.out _ _ ⟨((HB.out.cell (World.block_lt_of_cell? w _ hw101_0)).trans hw101_0), ((HB.out.cell (World.block_lt_of_cell? w _ hw101_1)).trans hw101_1), ((HB.out.cell (World.block_lt_of_cell? w _ hw101_2)).trans hw101_2), ((HB.out.cell (World.block_lt_of_cell? w _ hw103_0)).trans hw103_0), ((HB.out.cell (World.block_lt_of_cell? w _ hw103_1)).trans hw103_1), ((HB.out.cell (World.block_lt_of_cell? w _ hw103_2)).trans hw103_2)⟩ (fun hHeld => ?_)
      clear hK K
      refine norm_ (a' := ?_) ?_ ?_
      rotate_left
      ·show Act.put _ (some 21) _ = _
       simp only [Act.put, List.setIfInBounds_toArray, List.set_cons_zero, List.set_cons_succ, i64_w, i32_w]
       rfl
      refine pv_ 7 22 #[true, true, true, true, true, true, true, true, true, true, true, true, true, false, false, false] (any_of HT_.out (by kernel_rfl)) ?_
      refine one_ (i := 13) (N := some 28) #[true, true, true, true, true, true, true, true, true, true, true, true, true, true, false, false] rfl rfl (one_of HT_.out (by kernel_rfl)) (by decide) (fun K hK => ?_)
      refine goes_ Tryd.func33 (by kernel_rfl) rfl #[.int .i64 ((rd_T35 l0 x4_1).f1)] (by rfl) rfl rfl (by (try simp only [List.map_toArray, List.map_cons, List.map_nil]);first | done | rfl | (simp only [List.length_drop, List.length_take];rfl)) ?_
      with_reducible refine (spec_l14Dec.calls kj2 ((rd_T35 l0 x4_1).f1) t104 _ A10.out).mono ?_
      rintro e w14 ⟨rfl, hb⟩
      refine ⟨_, rfl, ?_⟩
      replace HB := m0_ (below_step (by repeat (first | (with_reducible first | exact HB.out | apply below_alloc | apply pw_below_drewN | apply below_drew1) | exact HB.out)) hb)
      (try clear hb)
      (try clear hb2)
      (try clear hk)
      (try clear hi)
      refine hK.out _ _ ⟨((HB.out.cell (World.block_lt_of_cell? w _ hw101_0)).trans hw101_0), ((HB.out.cell (World.block_lt_of_cell? w _ hw101_1)).trans hw101_1), ((HB.out.cell (World.block_lt_of_cell? w _ hw101_2)).trans hw101_2), ((HB.out.cell (World.block_lt_of_cell? w _ hw103_0)).trans hw103_0), ((HB.out.cell (World.block_lt_of_cell? w _ hw103_1)).trans hw103_1), ((HB.out.cell (World.block_lt_of_cell? w _ hw103_2)).trans hw103_2)⟩ (fun hHeld => ?_)
      clear hK K
      refine norm_ (a' := ?_) ?_ ?_
      rotate_left
      ·show Act.put _ (some 28) _ = _
       simp only [Act.put, List.setIfInBounds_toArray, List.set_cons_zero, List.set_cons_succ, i64_w, i32_w]
       rfl
      refine pv_ 14 29 #[true, true, true, true, true, true, true, true, true, true, true, true, true, true, true, false] (any_of HT_.out (by kernel_rfl)) ?_
      refine pv_ 15 3 #[true, true, true, true, true, true, true, true, true, true, true, true, true, true, true, true] (any_of HT_.out (by kernel_rfl)) ?_
      refine done_ (done_of HT_.out (by kernel_rfl)) ?_
      have p105 : 0 ≤ (x4_1 : Int) := of_decide_eq_true (by first | (with_reducible assumption) | assumption)
      have q105 : x4_1 < (l0.length : Int) := of_decide_eq_true (by first | (with_reducible assumption) | assumption)
      obtain ⟨ad105, e105, hx105_0, hx105_1, hx105_2⟩ := at_T35 HR0.out x4_1 p105 q105
      obtain rfl : ad101 = ad105 := (by injection e105)
      replace hx105_0 := (HB.out.cell (World.block_lt_of_cell? w _ hx105_0)).trans hx105_0
      replace hx105_1 := (HB.out.cell (World.block_lt_of_cell? w _ hx105_1)).trans hx105_1
      replace hx105_2 := (HB.out.cell (World.block_lt_of_cell? w _ hx105_2)).trans hx105_2
      replace p105 := eq_true p105
      replace q105 := eq_true q105
      try go_wp2
      go_roundg kj2
      case measure => have := HK1.out;have := HJ2.out;omega
      case rel => exact ⟨((x3_2 ++ t102) ++ t104), (wrap64 (x4_1 + 1)), (by first | rfl | (simp;done) | (simp [*];done)), (by first | rfl | (simp;done) | (simp [*];done)), H', ⟨by have := HK1.out;have := HJ2.out;omega⟩, ⟨by repeat (first | (with_reducible first | exact HB.out | apply below_alloc | apply pw_below_drewN | apply below_drew1) | exact HB.out)⟩⟩
     rw [if_neg c12] at H
     have c12b0 : (((rd_T35 l0 x4_1).f2) == 0) = false := beq_eq_false_iff_ne.mpr c12
     have c12b1 : (((rd_T35 l0 x4_1).f2) != 0) = true := bne_iff_ne.mpr c12
     by_cases c15 : ((x3_2 ++ t102) ++ t104).size + 1 ≤ 9223372036854775807
     rotate_left
     ·rw [if_neg c15] at H
      exact absurd H (by simp)
     rw [if_pos c15] at H
     have c15b0 := eq_true c15
     have c15b1 : decide (((x3_2 ++ t102) ++ t104).size + 1 ≤ 9223372036854775807) = true := decide_eq_true c15
     have c15z : ((x3_2 ++ t102) ++ t104).size + 1 ≤ 9223372036854775807 := c15
     simp only [ByteArray.size_append, show (⟨#[32]⟩ : ByteArray).size = 1 from rfl] at c15z
     have c15z0 := eq_true c15z
     have c15z1 := decide_eq_true c15z
     have c15z2 := eq_false (Nat.not_lt.2 c15z)
     try have c15b2 : (9223372036854775807 < ((x3_2 ++ t102) ++ t104).size + 1) = False := eq_false (Nat.not_lt.2 c15)
     replace H := Option.bind_eq_some_iff.mp H
     obtain ⟨t107, A160, H⟩ := H
     replace H : (if (((x3_2 ++ t102) ++ t104) ++ (⟨#[61]⟩ : ByteArray)).size + t107.size ≤ 9223372036854775807 then (spec_EvsText.l0 kj2 l0 ((((x3_2 ++ t102) ++ t104) ++ (⟨#[61]⟩ : ByteArray)) ++ t107) (wrap64 (x4_1 + 1))) else (none)) = some r := H
     have A16 := m0_ A160
     clear A160
     by_cases c17 : (((x3_2 ++ t102) ++ t104) ++ (⟨#[61]⟩ : ByteArray)).size + t107.size ≤ 9223372036854775807
     rotate_left
     ·rw [if_neg c17] at H
      exact absurd H (by simp)
     rw [if_pos c17] at H
     have c17b0 := eq_true c17
     have c17b1 : decide ((((x3_2 ++ t102) ++ t104) ++ (⟨#[61]⟩ : ByteArray)).size + t107.size ≤ 9223372036854775807) = true := decide_eq_true c17
     have c17z : (((x3_2 ++ t102) ++ t104) ++ (⟨#[61]⟩ : ByteArray)).size + t107.size ≤ 9223372036854775807 := c17
     simp only [ByteArray.size_append, show (⟨#[32]⟩ : ByteArray).size = 1 from rfl, show (⟨#[61]⟩ : ByteArray).size = 1 from rfl] at c17z
     have c17z0 := eq_true c17z
     have c17z1 := decide_eq_true c17z
     have c17z2 := eq_false (Nat.not_lt.2 c17z)
     try have c17b2 : (9223372036854775807 < (((x3_2 ++ t102) ++ t104) ++ (⟨#[61]⟩ : ByteArray)).size + t107.size) = False := eq_false (Nat.not_lt.2 c17)
     have H' := m0_ H
     clear H
     try go_wp2
     replace HB := m0_ (below_drew1 HB.out)
     have p101 : 0 ≤ (x4_1 : Int) := of_decide_eq_true (by first | (with_reducible assumption) | assumption)
     have q101 : x4_1 < (l0.length : Int) := of_decide_eq_true (by first | (with_reducible assumption) | assumption)
     obtain ⟨ad101, e101, hx101_0, hx101_1, hx101_2⟩ := at_T35 HR0.out x4_1 p101 q101
     have hw101_2 := hx101_2
     have hw101_1 := hx101_1
     have hw101_0 := hx101_0
     cases e101
     replace hx101_0 := (HB.out.cell (World.block_lt_of_cell? w _ hx101_0)).trans hx101_0
     replace hx101_1 := (HB.out.cell (World.block_lt_of_cell? w _ hx101_1)).trans hx101_1
     replace hx101_2 := (HB.out.cell (World.block_lt_of_cell? w _ hx101_2)).trans hx101_2
     replace p101 := eq_true p101
     replace q101 := eq_true q101
     have p103 : 0 ≤ (x4_1 : Int) := of_decide_eq_true (by first | (with_reducible assumption) | assumption)
     have q103 : x4_1 < (l0.length : Int) := of_decide_eq_true (by first | (with_reducible assumption) | assumption)
     obtain ⟨ad103, e103, hx103_0, hx103_1, hx103_2⟩ := at_T35 HR0.out x4_1 p103 q103
     have hw103_2 := hx103_2
     have hw103_1 := hx103_1
     have hw103_0 := hx103_0
     obtain rfl : ad101 = ad103 := (by injection e103)
     replace hx103_0 := (HB.out.cell (World.block_lt_of_cell? w _ hx103_0)).trans hx103_0
     replace hx103_1 := (HB.out.cell (World.block_lt_of_cell? w _ hx103_1)).trans hx103_1
     replace hx103_2 := (HB.out.cell (World.block_lt_of_cell? w _ hx103_2)).trans hx103_2
     replace p103 := eq_true p103
     replace q103 := eq_true q103
     refine start_ (n := 16) (S := fun w' => w'.cell? (ad101.add ((x4_1).toNat * 3)) = some (.int .i64 ((rd_T35 l0 x4_1).f0)) ∧ w'.cell? ⟨(ad101.add ((x4_1).toNat * 3)).block, (ad101.add ((x4_1).toNat * 3)).off + 1, none⟩ = some (.int .i64 ((rd_T35 l0 x4_1).f1)) ∧ w'.cell? ⟨(ad101.add ((x4_1).toNat * 3)).block, (ad101.add ((x4_1).toNat * 3)).off + 2, none⟩ = some (.int .i64 ((rd_T35 l0 x4_1).f2)) ∧ w'.cell? (ad101.add ((x4_1).toNat * 3)) = some (.int .i64 ((rd_T35 l0 x4_1).f0)) ∧ w'.cell? ⟨(ad101.add ((x4_1).toNat * 3)).block, (ad101.add ((x4_1).toNat * 3)).off + 1, none⟩ = some (.int .i64 ((rd_T35 l0 x4_1).f1)) ∧ w'.cell? ⟨(ad101.add ((x4_1).toNat * 3)).block, (ad101.add ((x4_1).toNat * 3)).off + 2, none⟩ = some (.int .i64 ((rd_T35 l0 x4_1).f2))) (ds := []) #[false, false, false, false, false, false, false, false, false, false, false, false, false, false, false, false] (by kernel_rfl) rfl rfl ⟨((HB.out.cell (World.block_lt_of_cell? w _ hw101_0)).trans hw101_0), ((HB.out.cell (World.block_lt_of_cell? w _ hw101_1)).trans hw101_1), ((HB.out.cell (World.block_lt_of_cell? w _ hw101_2)).trans hw101_2), ((HB.out.cell (World.block_lt_of_cell? w _ hw103_0)).trans hw103_0), ((HB.out.cell (World.block_lt_of_cell? w _ hw103_1)).trans hw103_1), ((HB.out.cell (World.block_lt_of_cell? w _ hw103_2)).trans hw103_2)⟩ (fun hHeld => ?_);refine with_tabW spec_EvsText.tab7 spec_EvsText.bits7 (fun HT_ HW_ => ?_)
     generalize wc.drew = w18 at HB hx101_0 hx101_1 hx101_2 hx103_0 hx103_1 hx103_2 hHeld ⊢
     refine pv_ 0 15 #[true, false, false, false, false, false, false, false, false, false, false, false, false, false, false, false] (any_of HT_.out (by kernel_rfl)) ?_
     refine pv_ 1 16 #[true, true, false, false, false, false, false, false, false, false, false, false, false, false, false, false] (any_of HT_.out (by kernel_rfl)) ?_
     refine pv_ 2 17 #[true, true, true, false, false, false, false, false, false, false, false, false, false, false, false, false] (any_of HT_.out (by kernel_rfl)) ?_
     refine pv_ 3 18 #[true, true, true, true, false, false, false, false, false, false, false, false, false, false, false, false] (any_of HT_.out (by kernel_rfl)) ?_
     refine pv_ 4 19 #[true, true, true, true, true, false, false, false, false, false, false, false, false, false, false, false] (any_of HT_.out (by kernel_rfl)) ?_
     refine pv_ 8 23 #[true, true, true, true, true, false, false, false, true, false, false, false, false, false, false, false] (any_of HT_.out (by kernel_rfl)) ?_
     refine pv_ 9 24 #[true, true, true, true, true, false, false, false, true, true, false, false, false, false, false, false] (any_of HT_.out (by kernel_rfl)) ?_
     refine pv_ 10 25 #[true, true, true, true, true, false, false, false, true, true, true, false, false, false, false, false] (any_of HT_.out (by kernel_rfl)) ?_
     refine pv_ 11 26 #[true, true, true, true, true, false, false, false, true, true, true, true, false, false, false, false] (any_of HT_.out (by kernel_rfl)) ?_
     refine take_ (i := 5) (N := some 20) (v := ?_) (a' := ?_) #[true, true, true, true, true, true, false, false, true, true, true, true, false, false, false, false] rfl rfl (take_ofW HT_.out HW_.out (by kernel_rfl)) (fun _ _ _ h => h) (Or.inl ⟨by rfl, ?_⟩) hHeld ?_ ?_
     rotate_left
     ·rintro w' ⟨s0, s1, s2, s3, s4, s5⟩
      go_simp
      with_reducible rfl
     rotate_left
     ·simp only [Act.put, List.setIfInBounds_toArray, List.set_cons_zero, List.set_cons_succ, i64_w, i32_w]
      rfl
     refine take_ (i := 12) (N := some 27) (v := ?_) (a' := ?_) #[true, true, true, true, true, true, false, false, true, true, true, true, true, false, false, false] rfl rfl (take_ofW HT_.out HW_.out (by kernel_rfl)) (fun _ _ _ h => h) (Or.inl ⟨by rfl, ?_⟩) hHeld ?_ ?_
     rotate_left
     ·rintro w' ⟨s0, s1, s2, s3, s4, s5⟩
      go_simp
      with_reducible rfl
     rotate_left
     ·simp only [Act.put, List.setIfInBounds_toArray, List.set_cons_zero, List.set_cons_succ, i64_w, i32_w]
      rfl
     refine one_ (i := 6) (N := some 21) #[true, true, true, true, true, true, true, false, true, true, true, true, true, false, false, false] rfl rfl (one_of HT_.out (by kernel_rfl)) (by decide) (fun K hK => ?_)
     refine goes_ Tryd.func32 (by kernel_rfl) rfl #[.int .i64 ((rd_T35 l0 x4_1).f0)] (by rfl) rfl rfl (by (try simp only [List.map_toArray, List.map_cons, List.map_nil]);first | done | rfl | (simp only [List.length_drop, List.length_take];rfl)) ?_
     with_reducible refine (spec_l1Letter.calls ((rd_T35 l0 x4_1).f0) t102 _ A8.out).mono ?_
     rintro e w' ⟨rfl, ⟨nd, rfl⟩⟩
     refine ⟨_, rfl, ?_⟩
     refine hK.out _ _ ⟨((HB.out.cell (World.block_lt_of_cell? w _ hw101_0)).trans hw101_0), ((HB.out.cell (World.block_lt_of_cell? w _ hw101_1)).trans hw101_1), ((HB.out.cell (World.block_lt_of_cell? w _ hw101_2)).trans hw101_2), ((HB.out.cell (World.block_lt_of_cell? w _ hw103_0)).trans hw103_0), ((HB.out.cell (World.block_lt_of_cell? w _ hw103_1)).trans hw103_1), ((HB.out.cell (World.block_lt_of_cell? w _ hw103_2)).trans hw103_2)⟩ (fun hHeld => ?_)
     clear hK K
     refine norm_ (a' := ?_) ?_ ?_
     rotate_left
     ·show Act.put _ (some 21) _ = _
      simp only [Act.put, List.setIfInBounds_toArray, List.set_cons_zero, List.set_cons_succ, i64_w, i32_w]
      rfl
     refine pv_ 7 22 #[true, true, true, true, true, true, true, true, true, true, true, true, true, false, false, false] (any_of HT_.out (by kernel_rfl)) ?_
     refine one_ (i := 13) (N := some 28) #[true, true, true, true, true, true, true, true, true, true, true, true, true, true, false, false] rfl rfl (one_of HT_.out (by kernel_rfl)) (by decide) (fun K hK => ?_)
     refine goes_ Tryd.func33 (by kernel_rfl) rfl #[.int .i64 ((rd_T35 l0 x4_1).f1)] (by rfl) rfl rfl (by (try simp only [List.map_toArray, List.map_cons, List.map_nil]);first | done | rfl | (simp only [List.length_drop, List.length_take];rfl)) ?_
     with_reducible refine (spec_l14Dec.calls kj2 ((rd_T35 l0 x4_1).f1) t104 _ A10.out).mono ?_
     rintro e w19 ⟨rfl, hb⟩
     refine ⟨_, rfl, ?_⟩
     replace HB := m0_ (below_step (by repeat (first | (with_reducible first | exact HB.out | apply below_alloc | apply pw_below_drewN | apply below_drew1) | exact HB.out)) hb)
     (try clear hb)
     (try clear hb2)
     (try clear hk)
     (try clear hi)
     refine hK.out _ _ ⟨((HB.out.cell (World.block_lt_of_cell? w _ hw101_0)).trans hw101_0), ((HB.out.cell (World.block_lt_of_cell? w _ hw101_1)).trans hw101_1), ((HB.out.cell (World.block_lt_of_cell? w _ hw101_2)).trans hw101_2), ((HB.out.cell (World.block_lt_of_cell? w _ hw103_0)).trans hw103_0), ((HB.out.cell (World.block_lt_of_cell? w _ hw103_1)).trans hw103_1), ((HB.out.cell (World.block_lt_of_cell? w _ hw103_2)).trans hw103_2)⟩ (fun hHeld => ?_)
     clear hK K
     refine norm_ (a' := ?_) ?_ ?_
     rotate_left
     ·show Act.put _ (some 28) _ = _
      simp only [Act.put, List.setIfInBounds_toArray, List.set_cons_zero, List.set_cons_succ, i64_w, i32_w]
      rfl
     refine pv_ 14 29 #[true, true, true, true, true, true, true, true, true, true, true, true, true, true, true, false] (any_of HT_.out (by kernel_rfl)) ?_
     refine pv_ 15 3 #[true, true, true, true, true, true, true, true, true, true, true, true, true, true, true, true] (any_of HT_.out (by kernel_rfl)) ?_
     refine done_ (done_of HT_.out (by kernel_rfl)) ?_
     have p105 : 0 ≤ (x4_1 : Int) := of_decide_eq_true (by first | (with_reducible assumption) | assumption)
     have q105 : x4_1 < (l0.length : Int) := of_decide_eq_true (by first | (with_reducible assumption) | assumption)
     obtain ⟨ad105, e105, hx105_0, hx105_1, hx105_2⟩ := at_T35 HR0.out x4_1 p105 q105
     obtain rfl : ad101 = ad105 := (by injection e105)
     replace hx105_0 := (HB.out.cell (World.block_lt_of_cell? w _ hx105_0)).trans hx105_0
     replace hx105_1 := (HB.out.cell (World.block_lt_of_cell? w _ hx105_1)).trans hx105_1
     replace hx105_2 := (HB.out.cell (World.block_lt_of_cell? w _ hx105_2)).trans hx105_2
     replace p105 := eq_true p105
     replace q105 := eq_true q105
     have p106 : 0 ≤ (x4_1 : Int) := of_decide_eq_true (by first | (with_reducible assumption) | assumption)
     have q106 : x4_1 < (l0.length : Int) := of_decide_eq_true (by first | (with_reducible assumption) | assumption)
     obtain ⟨ad106, e106, hx106_0, hx106_1, hx106_2⟩ := at_T35 HR0.out x4_1 p106 q106
     obtain rfl : ad101 = ad106 := (by injection e106)
     replace hx106_0 := (HB.out.cell (World.block_lt_of_cell? w _ hx106_0)).trans hx106_0
     replace hx106_1 := (HB.out.cell (World.block_lt_of_cell? w _ hx106_1)).trans hx106_1
     replace hx106_2 := (HB.out.cell (World.block_lt_of_cell? w _ hx106_2)).trans hx106_2
     replace p106 := eq_true p106
     replace q106 := eq_true q106
     try go_wp2_with (first | ((with_reducible refine gate_callee (f := 33) rfl ?_);refine goesL_ (some 43) rfl rfl Tryd.func33 (by kernel_rfl) rfl #[.int .i64 ((rd_T35 l0 x4_1).f2)] rfl (by (try simp only [List.map_toArray, List.map_cons, List.map_nil]);first | done | rfl | (simp only [List.length_drop, List.length_take];rfl)) ?_;(with_reducible refine (spec_l14Dec.calls kj2 ((rd_T35 l0 x4_1).f2) t107 _ A16.out).mono ?_);rintro e w20 ⟨rfl, hb⟩;refine ⟨_, rfl, ?_⟩;replace HB := m0_ (below_step (by repeat (first | (with_reducible first | exact HB.out | apply below_alloc | apply pw_below_drewN | apply below_drew1) | exact HB.out)) hb);(try clear hb);(try clear hb2);(try clear hk);(try clear hi)))
     go_roundg kj2
     case measure => have := HK1.out;have := HJ2.out;omega
     case rel => exact ⟨((((x3_2 ++ t102) ++ t104) ++ (⟨#[61]⟩ : ByteArray)) ++ t107), (wrap64 (x4_1 + 1)), (by first | rfl | (simp;done) | (simp [*];done)), (by first | rfl | (simp;done) | (simp [*];done)), H', ⟨by have := HK1.out;have := HJ2.out;omega⟩, ⟨by repeat (first | (with_reducible first | exact HB.out | apply below_alloc | apply pw_below_drewN | apply below_drew1) | exact HB.out)⟩⟩

noncomputable def laws_FnExactEvsText.f (k : Nat) (l0 : List (S65)) : Option (Bool) := (laws_szEvS.f l0 1048576).bind fun t101 => (if t101 < 0 then (some true) else ((laws_toEvS.f k l0).bind fun t102 => ((spec_EvsText.f k t102).bind fun t105 => ((laws_toEvS.f k l0).bind fun t106 => ((impl_EvsText.f k t106).bind fun t109 => (if t109.toList = t105.toList then ((laws_toEvS.f k l0).bind fun t110 => ((laws_eqEvS.f k t106 t110).bind fun t113 => (if t113 = true then (some true) else (some false)))) else (some false)))))))
set_option maxHeartbeats 8000000 in
set_option maxRecDepth 100000 in
theorem laws_FnExactEvsText.calls (k : Nat) (A0 : Option Addr) (c0 : Nat) (l0 : List (S65)) (r : Bool) (hT_ : Aside0 (r = true)) (w : World) (hr0 : Kd.C k65 w A0 l0.length l0) (hc0 : l0.length ≤ c0) (h : laws_FnExactEvsText.f k l0 = some r) (ht_TabI : TabI w) :
  Calls Tryd.prog 4 #[.slice A0 l0.length c0] w fun e w' => e = .returned (.bool r) ∧ Below w.heap.size w w' := by
 have HTX_TabI := m0_ ht_TabI
 clear ht_TabI
 have HR0 := m0_ hr0
 have HC0 := m0_ hc0
 clear hr0 hc0
 have HB := m0_ (Below.refl w.heap.size w)
 have H : ((laws_szEvS.f l0 1048576).bind fun t101 => (if t101 < 0 then (some true) else ((laws_toEvS.f k l0).bind fun t102 => ((spec_EvsText.f k t102).bind fun t105 => ((laws_toEvS.f k l0).bind fun t106 => ((impl_EvsText.f k t106).bind fun t109 => (if t109.toList = t105.toList then ((laws_toEvS.f k l0).bind fun t110 => ((laws_eqEvS.f k t106 t110).bind fun t113 => (if t113 = true then (some true) else (some false)))) else (some false)))))))) = some r := h
 clear h
 replace H := Option.bind_eq_some_iff.mp H
 obtain ⟨t101, A20, H⟩ := H
 replace H : (if t101 < 0 then (some true) else ((laws_toEvS.f k l0).bind fun t102 => ((spec_EvsText.f k t102).bind fun t105 => ((laws_toEvS.f k l0).bind fun t106 => ((impl_EvsText.f k t106).bind fun t109 => (if t109.toList = t105.toList then ((laws_toEvS.f k l0).bind fun t110 => ((laws_eqEvS.f k t106 t110).bind fun t113 => (if t113 = true then (some true) else (some false)))) else (some false))))))) = some r := H
 have A2 := m0_ A20
 clear A20
 by_cases c3 : t101 < 0
 ·rw [if_pos c3] at H
  have c3b0 : decide (t101 < 0) = true := decide_eq_true c3
  clear c3
  obtain rfl := Option.some.inj H
  go_enter Tryd.func4, Tryd.ntmps4
  go_wp2_with (first | ((with_reducible refine gate_callee (f := 21) rfl ?_);refine goesL_ (some 9) rfl rfl Tryd.func21 (by kernel_rfl) rfl #[.slice A0 l0.length c0, .int .i64 1048576] rfl (by (try simp only [List.map_toArray, List.map_cons, List.map_nil]);first | done | rfl | (simp only [List.length_drop, List.length_take];rfl)) ?_;(with_reducible refine (laws_szEvS.calls _ _ l0 1048576 t101 _ ?side1 ?side2 A2.out).mono ?_);(case side1 => repeat (first | exact HR0.out | (with_reducible refine Kd.C_alloc ?_ _) | (with_reducible refine Kd.C_drewN ?_ _) | (with_reducible refine Kd.C_drew ?_)));(case side2 => exact HC0.out);rintro e w' ⟨rfl, ⟨nd, rfl⟩⟩;refine ⟨_, rfl, ?_⟩))
  go_ret
  exact ⟨by first | rfl | (simp [errW_none, errW_some] <;> rfl) | (simp [*, errW_none, errW_some] <;> rfl), by repeat (first | (with_reducible first | exact HB.out | apply below_alloc | apply pw_below_drewN | apply below_drew1) | exact HB.out)⟩
 rw [if_neg c3] at H
 have c3b0 : decide (t101 < 0) = false := decide_eq_false c3
 clear c3
 replace H := Option.bind_eq_some_iff.mp H
 obtain ⟨t102, A40, H⟩ := H
 replace H : ((spec_EvsText.f k t102).bind fun t105 => ((laws_toEvS.f k l0).bind fun t106 => ((impl_EvsText.f k t106).bind fun t109 => (if t109.toList = t105.toList then ((laws_toEvS.f k l0).bind fun t110 => ((laws_eqEvS.f k t106 t110).bind fun t113 => (if t113 = true then (some true) else (some false)))) else (some false))))) = some r := H
 have A4 := m0_ A40
 clear A40
 replace H := Option.bind_eq_some_iff.mp H
 obtain ⟨t105, A50, H⟩ := H
 replace H : ((laws_toEvS.f k l0).bind fun t106 => ((impl_EvsText.f k t106).bind fun t109 => (if t109.toList = t105.toList then ((laws_toEvS.f k l0).bind fun t110 => ((laws_eqEvS.f k t106 t110).bind fun t113 => (if t113 = true then (some true) else (some false)))) else (some false)))) = some r := H
 have A5 := m0_ A50
 clear A50
 replace H := Option.bind_eq_some_iff.mp H
 obtain ⟨t106, A60, H⟩ := H
 replace H : ((impl_EvsText.f k t106).bind fun t109 => (if t109.toList = t105.toList then ((laws_toEvS.f k l0).bind fun t110 => ((laws_eqEvS.f k t106 t110).bind fun t113 => (if t113 = true then (some true) else (some false)))) else (some false))) = some r := H
 have A6 := m0_ A60
 clear A60
 replace H := Option.bind_eq_some_iff.mp H
 obtain ⟨t109, A70, H⟩ := H
 replace H : (if t109.toList = t105.toList then ((laws_toEvS.f k l0).bind fun t110 => ((laws_eqEvS.f k t106 t110).bind fun t113 => (if t113 = true then (some true) else (some false)))) else (some false)) = some r := H
 have A7 := m0_ A70
 clear A70
 by_cases c8 : t109.toList = t105.toList
 rotate_left
 ·rw [if_neg c8] at H
  have c8b0 : (t109.toList == t105.toList) = false := beq_eq_false_iff_ne.mpr c8
  have c8b1 : (t109.toList != t105.toList) = true := bne_iff_ne.mpr c8
  exact absurd (Option.some.inj H) (by rw [hT_.out];decide)
 rw [if_pos c8] at H
 have c8b0 : (t109.toList == t105.toList) = true := beq_iff_eq.mpr c8
 have c8b1 : (t109.toList != t105.toList) = false := bne_eq_false_iff_eq.mpr c8
 clear c8
 replace H := Option.bind_eq_some_iff.mp H
 obtain ⟨t110, A90, H⟩ := H
 replace H : ((laws_eqEvS.f k t106 t110).bind fun t113 => (if t113 = true then (some true) else (some false))) = some r := H
 have A9 := m0_ A90
 clear A90
 replace H := Option.bind_eq_some_iff.mp H
 obtain ⟨t113, A100, H⟩ := H
 replace H : (if t113 = true then (some true) else (some false)) = some r := H
 have A10 := m0_ A100
 clear A100
 by_cases c11 : t113 = true
 ·subst c11
  have H1 : (some true) = some r := by rw [if_pos rfl] at H;exact H
  clear H
  have H := H1
  clear H1
  obtain rfl := Option.some.inj H
  go_enter Tryd.func4, Tryd.ntmps4
  go_wp2_with (first | ((with_reducible refine gate_callee (f := 21) rfl ?_);refine goesL_ (some 9) rfl rfl Tryd.func21 (by kernel_rfl) rfl #[.slice A0 l0.length c0, .int .i64 1048576] rfl (by (try simp only [List.map_toArray, List.map_cons, List.map_nil]);first | done | rfl | (simp only [List.length_drop, List.length_take];rfl)) ?_;(with_reducible refine (laws_szEvS.calls _ _ l0 1048576 t101 _ ?side1 ?side2 A2.out).mono ?_);(case side1 => repeat (first | exact HR0.out | (with_reducible refine Kd.C_alloc ?_ _) | (with_reducible refine Kd.C_drewN ?_ _) | (with_reducible refine Kd.C_drew ?_)));(case side2 => exact HC0.out);rintro e w' ⟨rfl, ⟨nd, rfl⟩⟩;refine ⟨_, rfl, ?_⟩) | ((with_reducible refine gate_callee (f := 22) rfl ?_);refine goesL_ (some 13) rfl rfl Tryd.func22 (by kernel_rfl) rfl #[.slice A0 l0.length c0] rfl (by (try simp only [List.map_toArray, List.map_cons, List.map_nil]);first | done | rfl | (simp only [List.length_drop, List.length_take];rfl)) ?_;(with_reducible refine (laws_toEvS.calls k _ _ l0 t102 _ ?side1 ?side2 A4.out).mono ?_);(case side1 => repeat (first | exact HR0.out | (with_reducible refine Kd.C_alloc ?_ _) | (with_reducible refine Kd.C_drewN ?_ _) | (with_reducible refine Kd.C_drew ?_)));(case side2 => exact HC0.out);rintro e w12 ⟨v103, rfl, ho0, hb⟩;refine ⟨_, rfl, ?_⟩;have HO104 := m0_ (Kd.R_lower ho0 (below_size (by repeat (first | (with_reducible first | exact HB.out | apply below_alloc | apply pw_below_drewN | apply below_drew1) | exact HB.out))));replace HB := m0_ (below_step (by repeat (first | (with_reducible first | exact HB.out | apply below_alloc | apply pw_below_drewN | apply below_drew1) | exact HB.out)) hb);(try clear hb);(try clear hb2);(try clear hk);(try clear hi);(try clear ho0);obtain ⟨Ao13, co13, eo13⟩ := Kd.R_slice HO104.out;subst eo13) | ((with_reducible refine gate_callee (f := 9) rfl ?_);refine goesL_ (some 14) rfl rfl Tryd.func9 (by kernel_rfl) rfl #[.slice Ao13 t102.length co13] rfl (by (try simp only [List.map_toArray, List.map_cons, List.map_nil]);first | done | rfl | (simp only [List.length_drop, List.length_take];rfl)) ?_;(with_reducible refine (spec_EvsText.calls k _ _ t102 t105 _ ?side1 ?side2 A5.out).mono ?_);(case side1 => repeat (first | exact (Kd.R_reads' HO104.out).2.2 | (with_reducible refine Kd.C_alloc ?_ _) | (with_reducible refine Kd.C_drewN ?_ _) | (with_reducible refine Kd.C_drew ?_)));(case side2 => exact (Kd.R_reads' HO104.out).2.1);rintro e w14 ⟨rfl, hb⟩;refine ⟨_, rfl, ?_⟩;replace HO104 := m0_ (Kd.R_below (by exact HO104.out) hb);replace HB := m0_ (below_step (by repeat (first | (with_reducible first | exact HB.out | apply below_alloc | apply pw_below_drewN | apply below_drew1) | exact HB.out)) hb);(try clear hb);(try clear hb2);(try clear hk);(try clear hi)) | ((with_reducible refine gate_callee (f := 22) rfl ?_);refine goesL_ (some 16) rfl rfl Tryd.func22 (by kernel_rfl) rfl #[.slice A0 l0.length c0] rfl (by (try simp only [List.map_toArray, List.map_cons, List.map_nil]);first | done | rfl | (simp only [List.length_drop, List.length_take];rfl)) ?_;(with_reducible refine (laws_toEvS.calls k _ _ l0 t106 _ ?side1 ?side2 A6.out).mono ?_);(case side1 => repeat (first | exact (Kd.C_below HR0.out HB.out) | (with_reducible refine Kd.C_alloc ?_ _) | (with_reducible refine Kd.C_drewN ?_ _) | (with_reducible refine Kd.C_drew ?_)));(case side2 => exact HC0.out);rintro e w15 ⟨v107, rfl, ho0, hb⟩;refine ⟨_, rfl, ?_⟩;have HO108 := m0_ (Kd.R_lower (Kd.R_new' ho0 (Kd.R_lt (by exact HO104.out))) (below_size (by repeat (first | (with_reducible first | exact HB.out | apply below_alloc | apply pw_below_drewN | apply below_drew1) | exact HB.out))));replace HO104 := m0_ (Kd.R_elder' (by exact HO104.out) (Kd.R_base ho0) hb);replace HB := m0_ (below_step (by repeat (first | (with_reducible first | exact HB.out | apply below_alloc | apply pw_below_drewN | apply below_drew1) | exact HB.out)) hb);(try clear hb);(try clear hb2);(try clear hk);(try clear hi);(try clear ho0);obtain ⟨Ao16, co16, eo16⟩ := Kd.R_slice HO108.out;subst eo16) | ((with_reducible refine gate_callee (f := 7) rfl ?_);refine goesL_ (some 18) rfl rfl Tryd.func7 (by kernel_rfl) rfl #[.slice Ao16 t106.length co16] rfl (by (try simp only [List.map_toArray, List.map_cons, List.map_nil]);first | done | rfl | (simp only [List.length_drop, List.length_take];rfl)) ?_;(with_reducible refine (impl_EvsText.calls k _ _ t106 t109 _ ?side1 ?side2 A7.out (by first | exact TabI.below HTX_TabI.out (by repeat (first | (with_reducible first | exact HB.out | apply below_alloc | apply pw_below_drewN | apply below_drew1) | exact HB.out)) | exact TabI.below (TabI.below HTX_TabI.out HB.out) Q_HB | exact TabI.below HTX_TabI.out (pw_below_drewN HB.out _) | exact TabI.below HTX_TabI.out (pw_below_drewN (pw_below_drewN HB.out _) _))).mono ?_);(case side1 => repeat (first | exact (Kd.R_reads' HO108.out).2.2 | (with_reducible refine Kd.C_alloc ?_ _) | (with_reducible refine Kd.C_drewN ?_ _) | (with_reducible refine Kd.C_drew ?_)));(case side2 => exact (Kd.R_reads' HO108.out).2.1);rintro e w17 ⟨rfl, hb⟩;refine ⟨_, rfl, ?_⟩;replace HO104 := m0_ (Kd.R_below (by exact HO104.out) hb);replace HO108 := m0_ (Kd.R_below (by exact HO108.out) hb);replace HB := m0_ (below_step (by repeat (first | (with_reducible first | exact HB.out | apply below_alloc | apply pw_below_drewN | apply below_drew1) | exact HB.out)) hb);(try clear hb);(try clear hb2);(try clear hk);(try clear hi)) | ((with_reducible refine gate_callee (f := 22) rfl ?_);refine goesL_ (some 24) rfl rfl Tryd.func22 (by kernel_rfl) rfl #[.slice A0 l0.length c0] rfl (by (try simp only [List.map_toArray, List.map_cons, List.map_nil]);first | done | rfl | (simp only [List.length_drop, List.length_take];rfl)) ?_;(with_reducible refine (laws_toEvS.calls k _ _ l0 t110 _ ?side1 ?side2 A9.out).mono ?_);(case side1 => repeat (first | exact (Kd.C_below HR0.out HB.out) | (with_reducible refine Kd.C_alloc ?_ _) | (with_reducible refine Kd.C_drewN ?_ _) | (with_reducible refine Kd.C_drew ?_)));(case side2 => exact HC0.out);rintro e w18 ⟨v111, rfl, ho0, hb⟩;refine ⟨_, rfl, ?_⟩;have HO112 := m0_ (Kd.R_lower (Kd.R_new' (Kd.R_new' ho0 (Kd.R_lt (by exact HO104.out))) (Kd.R_lt (by exact HO108.out))) (below_size (by repeat (first | (with_reducible first | exact HB.out | apply below_alloc | apply pw_below_drewN | apply below_drew1) | exact HB.out))));replace HO104 := m0_ (Kd.R_elder' (by exact HO104.out) (Kd.R_base ho0) hb);replace HO108 := m0_ (Kd.R_elder' (by exact HO108.out) (Kd.R_base ho0) hb);replace HB := m0_ (below_step (by repeat (first | (with_reducible first | exact HB.out | apply below_alloc | apply pw_below_drewN | apply below_drew1) | exact HB.out)) hb);(try clear hb);(try clear hb2);(try clear hk);(try clear hi);(try clear ho0);obtain ⟨Ao19, co19, eo19⟩ := Kd.R_slice HO112.out;subst eo19) | ((with_reducible refine gate_callee (f := 23) rfl ?_);refine goesL_ (some 25) rfl rfl Tryd.func23 (by kernel_rfl) rfl #[.slice Ao16 t106.length co16, .slice Ao19 t110.length co19] rfl (by (try simp only [List.map_toArray, List.map_cons, List.map_nil]);first | done | rfl | (simp only [List.length_drop, List.length_take];rfl)) ?_;(with_reducible refine (laws_eqEvS.calls k _ _ t106 _ _ t110 true ⟨rfl⟩ _ ?side1 ?side2 ?side3 ?side4 A10.out).mono ?_);(case side1 => repeat (first | exact (Kd.R_reads' HO108.out).2.2 | (with_reducible refine Kd.C_alloc ?_ _) | (with_reducible refine Kd.C_drewN ?_ _) | (with_reducible refine Kd.C_drew ?_)));(case side2 => exact (Kd.R_reads' HO108.out).2.1);(case side3 => repeat (first | exact (Kd.R_reads' HO112.out).2.2 | (with_reducible refine Kd.C_alloc ?_ _) | (with_reducible refine Kd.C_drewN ?_ _) | (with_reducible refine Kd.C_drew ?_)));(case side4 => exact (Kd.R_reads' HO112.out).2.1);rintro e w20 ⟨rfl, hb⟩;refine ⟨_, rfl, ?_⟩;replace HO104 := m0_ (Kd.R_below (by exact HO104.out) hb);replace HO108 := m0_ (Kd.R_below (by exact HO108.out) hb);replace HO112 := m0_ (Kd.R_below (by exact HO112.out) hb);replace HB := m0_ (below_step (by repeat (first | (with_reducible first | exact HB.out | apply below_alloc | apply pw_below_drewN | apply below_drew1) | exact HB.out)) hb);(try clear hb);(try clear hb2);(try clear hk);(try clear hi)))
  go_ret
  exact ⟨by first | rfl | (simp [errW_none, errW_some] <;> rfl) | (simp [*, errW_none, errW_some] <;> rfl), by repeat (first | (with_reducible first | exact HB.out | apply below_alloc | apply pw_below_drewN | apply below_drew1) | exact HB.out)⟩
 ·replace c11 := Bool.eq_false_iff.mpr c11
  subst c11
  have H1 : (some false) = some r := by rw [if_neg (show ¬ (false = true) by decide)] at H;exact H
  clear H
  have H := H1
  clear H1
  exact absurd (Option.some.inj H) (by rw [hT_.out];decide)




end Go.Proofs.YtiebpoikhijbgaaDoor.M
namespace Go.Proofs.YtiebpoikhijbgaaDoor.M
set_option linter.unusedVariables false
set_option linter.unusedSimpArgs false
open Go.RowKit Go.Proofs.YtiebpoikhijbgaaDoorW.PrintWords Go.Proofs.YtiebpoikhijbgaaDoorW.PrintLast

theorem impl_in_is (a b c : Int) : impl_in.f a b c = some (decide (b ≤ a) && decide (a ≤ c)) := by
  unfold impl_in.f
  by_cases h : b ≤ a
  · rw [if_pos h]; simp [h]
  · rw [if_neg h]; simp [h]
theorem impl_isSym_is (a : Int) : impl_isSym.f a = some (decide (0 ≤ a) && decide (a ≤ 4)) := by
  unfold impl_isSym.f
  rw [impl_in_is]; rfl
theorem nDigits_le (n : Nat) : Lib.nDigits n ≤ n / 10 + 2 := by
  induction n using Nat.strongRecOn with
  | _ n ih =>
    by_cases h : n < 10
    · rw [Lib.nDigits_small h]; omega
    · have := ih (n / 10) (by omega)
      rw [Lib.nDigits_big h]; omega
theorem ba_cons (c : UInt8) (l : List UInt8) (x : ByteArray) : (⟨(l ++ [c]).toArray⟩ : ByteArray) ++ x = (⟨l.toArray⟩ : ByteArray) ++ ((⟨#[c]⟩ : ByteArray) ++ x) := by
  apply ByteArray.ext
  simp [ByteArray.data_append]
theorem digit_is (d : Nat) (h : d < 10) : strOfNums [wrap64 (48 + (d : Int)) % 256] = (⟨#[UInt8.ofNat (48 + d)]⟩ : ByteArray) := by
  rw [w_small (by omega) (by omega)]
  have : d = 0 ∨ d = 1 ∨ d = 2 ∨ d = 3 ∨ d = 4 ∨ d = 5 ∨ d = 6 ∨ d = 7 ∨ d = 8 ∨ d = 9 := by omega
  rcases this with rfl | rfl | rfl | rfl | rfl | rfl | rfl | rfl | rfl | rfl <;> rfl
theorem l14Dec_l0 : ∀ (n : Nat) (x : ByteArray), x.size + Lib.nDigits n ≤ 9223372036854775807 → n ≤ 9223372036854775807 → Ev (fun k => spec_l14Dec.l0 k (n : Int) x) ((⟨(Lib.decDigits n).toArray⟩ : ByteArray) ++ x) := by
  intro n
  induction n using Nat.strongRecOn with
  | _ n ih =>
    intro x hx hn
    have one : ∀ c : UInt8, (⟨#[c]⟩ : ByteArray).size = 1 := fun _ => rfl
    by_cases h : n < 10
    · rw [Lib.nDigits_small h] at hx
      rw [Lib.decDigits_one h]
      exact Ev.last (fun k => by simp only [spec_l14Dec.l0]; rw [if_neg (by omega), Option.bind_some, digit_is n h, one, if_pos (by omega)])
    rw [Lib.nDigits_big h] at hx
    have hd : Int.tmod (n : Int) 10 = ((n % 10 : Nat) : Int) := by rw [Int.tmod_eq_emod_of_nonneg (by omega)]; omega
    have hq : wrap64 (Int.tdiv (n : Int) 10) = ((n / 10 : Nat) : Int) := by rw [Int.tdiv_eq_ediv_of_nonneg (by omega), w_small (by omega) (by omega)]; omega
    rw [Lib.decDigits, dif_neg h, ba_cons]
    refine Ev.step (fun k => by simp only [spec_l14Dec.l0]; rw [if_pos (by omega), hd, Option.bind_some, digit_is _ (by omega), one, if_pos (by omega), hq]) (ih (n / 10) (by omega) _ ?_ (by omega))
    rw [ByteArray.size_append, one]
    omega
theorem l14Dec_ev (a : Int) (h0 : -9223372036854775808 ≤ a) (h1 : a ≤ 9223372036854775807) : Ev (fun k => spec_l14Dec.f k a) (itoaB a) := by
  have pos : ∀ a : Int, 0 ≤ a → a ≤ 9223372036854775807 → Ev (fun k => spec_l14Dec.f k a) (itoaB a) := by
    intro a g0 g1
    obtain ⟨n, rfl⟩ := Int.eq_ofNat_of_zero_le g0
    have hd := nDigits_le n
    have := l14Dec_l0 n ⟨#[]⟩ (by show 0 + _ ≤ _; omega) (by omega)
    refine Ev.step (fun k => by simp only [spec_l14Dec.f]; rw [if_neg (by omega), if_neg (by omega)]) (Ev.val this ?_)
    unfold itoaB Lib.itoa
    rw [if_neg (by omega)]
    apply ByteArray.ext
    simp [ByteArray.data_append]
  by_cases hp : 0 ≤ a
  · exact pos a hp h1
  by_cases hm : a < -9223372036854775807
  · have : a = -9223372036854775808 := by omega
    subst this
    refine Ev.step (f := fun _ => some _) (fun k => by simp only [spec_l14Dec.f]; rw [if_pos (by omega)]) (Ev.val (Ev.now _) ?_)
    unfold itoaB Lib.itoa
    rw [if_pos (by omega)]
    simp [Lib.decDigits]
  have hn := pos (-a) (by omega) (by omega)
  have hw : wrap64 (-a) = -a := w_small (by omega) (by omega)
  refine Ev.step (fun k => by simp only [spec_l14Dec.f]; rw [if_neg hm, if_pos (by omega), hw]) ?_
  refine Ev.bind hn ?_
  have hs : (itoaB (-a)).size = Lib.nDigits (-a).toNat := by
    unfold itoaB Lib.itoa
    rw [if_neg (by omega)]
    show ((Lib.decDigits _).toArray).size = _
    rw [List.size_toArray, Lib.decDigits_length]
  have hd := nDigits_le (-a).toNat
  refine Ev.pos (by omega) (Ev.val (Ev.now _) ?_)
  unfold itoaB Lib.itoa
  rw [if_neg (by omega), if_pos (by omega)]
  apply ByteArray.ext
  simp [ByteArray.data_append, show a.natAbs = (-a).toNat by omega]
end Go.Proofs.YtiebpoikhijbgaaDoor.M
namespace Go.Proofs.YtiebpoikhijbgaaDoor.M
set_option linter.unusedVariables false
set_option linter.unusedSimpArgs false
open Go Go.RowKit Go.Proofs.YtiebpoikhijbgaaDoorW.PrintWords Go.Proofs.YtiebpoikhijbgaaDoorW.PrintLast

def letE (a : Int) : ByteArray := if 0 ≤ a ∧ a ≤ 4 then (⟨#[97, 98, 99, 100, 101]⟩ : ByteArray).extract a.toNat (a + 1).toNat else ⟨#[63]⟩
def tellV (x : S35) : ByteArray := if x.f2 = 0 then letE x.f0 ++ itoaB x.f1 else (letE x.f0 ++ itoaB x.f1) ++ ((⟨#[61]⟩ : ByteArray) ++ itoaB x.f2)
def sufE : List ByteArray → ByteArray
  | [] => ⟨#[]⟩
  | w :: ws => ((⟨#[32]⟩ : ByteArray) ++ w) ++ sufE ws
def evsT : List S35 → ByteArray
  | [] => ⟨#[]⟩
  | x :: l => tellV x ++ sufE (l.map tellV)
def in64 (x : S35) : Prop := (-9223372036854775808 ≤ x.f1 ∧ x.f1 ≤ 9223372036854775807) ∧ (-9223372036854775808 ≤ x.f2 ∧ x.f2 ≤ 9223372036854775807)
theorem impl_letter_is (a : Int) : impl_letter.f a = some (letE a) := by
  unfold impl_letter.f letE
  rw [impl_isSym_is, Option.bind_some]
  by_cases c : 0 ≤ a ∧ a ≤ 4
  · have w1 : wrap64 (a + 1) = a + 1 := w_small (by omega) (by omega)
    rw [if_pos (by simp [c.1, c.2]), if_pos c.1, w1, if_pos (by omega), if_pos (by omega), if_pos c]
  · rw [if_neg (by simp; omega), if_neg c]
theorem l1Letter_is (a : Int) : spec_l1Letter.f a = some (letE a) := by
  unfold spec_l1Letter.f letE
  by_cases c : 0 ≤ a ∧ a ≤ 4
  · have w1 : wrap64 (a + 1) = a + 1 := w_small (by omega) (by omega)
    rw [if_neg (by omega), if_neg (by omega), if_pos c.1, w1, if_pos (by omega), if_pos (by omega), if_pos c]
  rw [if_neg c]
  by_cases c1 : a < 0
  · rw [if_pos c1]
  · rw [if_neg c1, if_pos (by omega)]
theorem letE_size (a : Int) : (letE a).size ≤ 5 := by
  unfold letE
  split
  · rw [ByteArray.size_extract]
    show min _ 5 - _ ≤ _
    omega
  · exact Nat.le_of_ble_eq_true rfl
theorem itoaB_size (a : Int) (h0 : -9223372036854775808 ≤ a) (h1 : a ≤ 9223372036854775807) : (itoaB a).size ≤ 21 := Lib.itoa_length_le a h0 h1
theorem one61 : (⟨#[61]⟩ : ByteArray).size = 1 := rfl
theorem one32 : (⟨#[32]⟩ : ByteArray).size = 1 := rfl
theorem tellV_size (x : S35) (h : in64 x) : (tellV x).size ≤ 48 := by
  have h1 := letE_size x.f0
  have h2 := itoaB_size x.f1 h.1.1 h.1.2
  have h3 := itoaB_size x.f2 h.2.1 h.2.2
  unfold tellV
  split
  · rw [ByteArray.size_append]; omega
  · rw [ByteArray.size_append, ByteArray.size_append, ByteArray.size_append, one61]; omega
theorem Itoa_is (a : Int) (h0 : -9223372036854775808 ≤ a) (h1 : a ≤ 9223372036854775807) : strconv_Itoa.f a = some (itoaB a) := by
  unfold strconv_Itoa.f
  rw [if_pos ⟨h0, h1⟩]
theorem tell_is (x : S35) (h : in64 x) : impl_tell.f x.f0 x.f1 x.f2 = some (tellV x) := by
  have h1 := letE_size x.f0
  have h2 := itoaB_size x.f1 h.1.1 h.1.2
  have h3 := itoaB_size x.f2 h.2.1 h.2.2
  unfold impl_tell.f tellV
  rw [impl_letter_is, Option.bind_some, Itoa_is x.f1 h.1.1 h.1.2, Option.bind_some, if_pos (by omega)]
  by_cases c : x.f2 = 0
  · rw [if_pos c, if_pos c]
  · rw [if_neg c, if_neg c, Itoa_is x.f2 h.2.1 h.2.2, Option.bind_some, if_pos (by omega), if_pos (by rw [ByteArray.size_append, ByteArray.size_append, one61]; omega)]
theorem join_is (ws : List ByteArray) : joinB ws ⟨#[32]⟩ = match ws with | [] => ⟨#[]⟩ | w :: r => w ++ sufE r := by
  cases ws with
  | nil => rfl
  | cons w r =>
    apply ByteArray.ext
    apply Array.ext'
    simp only [joinB, List.map_cons]
    rw [Lib.join_cons, ByteArray.data_append, Array.toList_append]
    congr 1
    induction r with
    | nil => rfl
    | cons y r ih =>
      simp only [sufE, ByteArray.data_append, Array.toList_append]
      rw [← ih]
      simp [Lib.joinTail]
theorem evsT_join (l : List S35) : joinB (l.map tellV) ⟨#[32]⟩ = evsT l := by
  rw [join_is]
  cases l <;> rfl
theorem sufE_size (l : List S35) (h : ∀ x ∈ l, in64 x) : (sufE (l.map tellV)).size ≤ 49 * l.length := by
  induction l with
  | nil => exact Nat.le_refl _
  | cons x l ih =>
    have := ih (fun y hy => h y (by simp [hy]))
    have h1 := tellV_size x (h x (by simp))
    rw [List.map_cons, sufE, ByteArray.size_append, ByteArray.size_append, one32, List.length_cons]
    omega
theorem evsT_size (l : List S35) (h : ∀ x ∈ l, in64 x) : (evsT l).size ≤ 49 * l.length := by
  cases l with
  | nil => exact Nat.le_refl _
  | cons x l =>
    have := sufE_size l (fun y hy => h y (by simp [hy]))
    have h1 := tellV_size x (h x (by simp))
    rw [evsT, ByteArray.size_append, List.length_cons]
    omega
theorem rdE (l : List S35) (n : Nat) (h : n < l.length) : rd_T35 l (n : Int) = l[n] := by
  show l.getD n z35 = _
  rw [List.getD_eq_getElem?_getD, List.getElem?_eq_getElem h]
  rfl
theorem impl_EvsText_l0_ev (l : List S35) (hl : l.length ≤ 1099511627776) (h : ∀ x ∈ l, in64 x) : ∀ (d n : Nat) (out : List ByteArray), n + d = l.length → out.length ≤ n → Ev (fun k => impl_EvsText.l0 k out l (l.length : Int) (n : Int)) (joinB (out ++ (l.drop n).map tellV) ⟨#[32]⟩) ∨ (joinB (out ++ (l.drop n).map tellV) ⟨#[32]⟩).size > 140737488355328 := by
  intro d
  induction d with
  | zero =>
    intro n out hn ho
    rw [List.drop_of_length_le (by omega), List.map_nil, List.append_nil]
    by_cases c : (joinB out ⟨#[32]⟩).size ≤ 140737488355328
    · left
      refine Ev.last (fun k => ?_)
      simp only [impl_EvsText.l0]
      rw [if_neg (by omega)]
      unfold strings_Join.f
      rw [if_pos ⟨by omega, c⟩]
      rfl
    · right; omega
  | succ d ih =>
    intro n out hn ho
    have e : l.drop n = l[n] :: l.drop (n + 1) := List.drop_eq_getElem_cons (by omega)
    rcases ih (n + 1) (out ++ [tellV l[n]]) (by omega) (by rw [List.length_append]; simp; omega) with g | g
    · left
      rw [e, List.map_cons]
      refine Ev.step (f := fun k => impl_EvsText.l0 k (out ++ [tellV l[n]]) l (l.length : Int) ((n + 1 : Nat) : Int)) (fun k => ?_) (Ev.val g (by rw [List.append_assoc]; rfl))
      simp only [impl_EvsText.l0]
      rw [if_pos (by omega), if_pos (by omega), if_pos (by omega), rdE l n (by omega), tell_is _ (h _ (List.getElem_mem _)), Option.bind_some, if_pos (by omega), w_succ (by omega)]
    · right
      rw [e, List.map_cons]
      rw [List.append_assoc] at g
      exact g
theorem impl_EvsText_ev (l : List S35) (hl : l.length ≤ 1048576) (h : ∀ x ∈ l, in64 x) : Ev (fun k => impl_EvsText.f k l) (evsT l) := by
  have hs := evsT_size l h
  rw [← evsT_join] at hs ⊢
  rcases impl_EvsText_l0_ev l (by omega) h l.length 0 [] (by omega) (by simp) with g | g
  · exact g
  · rw [List.nil_append, List.drop_zero] at g
    omega
theorem spec_EvsText_j1_ev (l : List S35) (n : Nat) (out r : ByteArray) (hn : n < l.length) (hl : l.length ≤ 1099511627776) (h : in64 l[n]) (ho : out.size ≤ 4611686018427387904) (g : Ev (fun k => spec_EvsText.l0 k l (out ++ tellV l[n]) ((n + 1 : Nat) : Int)) r) : Ev (fun k => spec_EvsText.j1 k l out (n : Int)) r := by
  have h1 := letE_size l[n].f0
  have h2 := itoaB_size l[n].f1 h.1.1 h.1.2
  have h3 := itoaB_size l[n].f2 h.2.1 h.2.2
  refine Ev.step (fun k => by simp only [spec_EvsText.j1]; rw [if_pos (by omega), if_pos (by omega), rdE l n hn, l1Letter_is, Option.bind_some, if_pos (by omega), w_succ (by omega)]) ?_
  refine Ev.bind (l14Dec_ev _ h.1.1 h.1.2) (Ev.pos (by rw [ByteArray.size_append]; omega) ?_)
  unfold tellV at g
  by_cases c : l[n].f2 = 0
  · rw [if_pos c] at g
    refine Ev.pos c ?_
    rw [ByteArray.append_assoc]
    exact g
  · rw [if_neg c] at g
    refine Ev.neg c (Ev.pos (by rw [ByteArray.size_append, ByteArray.size_append]; omega) (Ev.bind (l14Dec_ev _ h.2.1 h.2.2) (Ev.pos (by rw [ByteArray.size_append, ByteArray.size_append, ByteArray.size_append, one61]; omega) ?_)))
    simp only [ByteArray.append_assoc] at g ⊢
    exact g
theorem spec_EvsText_l0_ev (l : List S35) (hl : l.length ≤ 1099511627776) (h : ∀ x ∈ l, in64 x) : ∀ (d n : Nat) (out : ByteArray), n + d = l.length → 0 < n → out.size ≤ 49 * n → Ev (fun k => spec_EvsText.l0 k l out (n : Int)) (out ++ sufE ((l.drop n).map tellV)) := by
  intro d
  induction d with
  | zero =>
    intro n out hn hp ho
    rw [List.drop_of_length_le (by omega), List.map_nil, sufE, show out ++ (⟨#[]⟩ : ByteArray) = out from ByteArray.append_empty]
    exact Ev.last (fun k => by simp only [spec_EvsText.l0]; rw [if_neg (by omega)])
  | succ d ih =>
    intro n out hn hp ho
    have hx := h l[n] (List.getElem_mem _)
    have e : l.drop n = l[n] :: l.drop (n + 1) := List.drop_eq_getElem_cons (by omega)
    have hz := tellV_size _ hx
    have g := ih (n + 1) ((out ++ (⟨#[32]⟩ : ByteArray)) ++ tellV l[n]) (by omega) (by omega) (by rw [ByteArray.size_append, ByteArray.size_append, one32]; omega)
    refine Ev.step (fun k => by simp only [spec_EvsText.l0]; rw [if_pos (by omega), if_pos (by omega), if_pos (by omega)]) ?_
    refine spec_EvsText_j1_ev l n _ _ (by omega) hl hx (by rw [ByteArray.size_append, one32]; omega) (Ev.val g ?_)
    rw [e, List.map_cons, sufE]
    simp only [ByteArray.append_assoc]
theorem spec_EvsText_ev (l : List S35) (hl : l.length ≤ 1048576) (h : ∀ x ∈ l, in64 x) : Ev (fun k => spec_EvsText.f k l) (evsT l) := by
  unfold spec_EvsText.f
  cases hl0 : l with
  | nil => exact Ev.last (fun k => by simp only [spec_EvsText.l0]; rw [if_neg (by simp)]; rfl)
  | cons x r =>
    rw [← hl0]
    have hlen : l.length = r.length + 1 := by rw [hl0]; simp
    have hx : in64 l[0] := h _ (List.getElem_mem _)
    have e0 : l[0] = x := by simp [hl0]
    have g := spec_EvsText_l0_ev l (by omega) h r.length 1 ((⟨#[]⟩ : ByteArray) ++ tellV l[0]) (by omega) (by omega) (by rw [ByteArray.size_append]; have := tellV_size _ hx; show 0 + _ ≤ _; omega)
    refine Ev.step (fun k => by simp only [spec_EvsText.l0]; rw [if_pos (by omega), if_neg (by omega)]) ?_
    refine spec_EvsText_j1_ev l 0 _ _ (by omega) (by omega) hx (by show 0 ≤ _; omega) (Ev.val g ?_)
    rw [e0, hl0]
    show ((⟨#[]⟩ : ByteArray) ++ tellV x) ++ sufE (r.map tellV) = tellV x ++ sufE (r.map tellV)
    rw [show (⟨#[]⟩ : ByteArray) ++ tellV x = tellV x from ByteArray.empty_append]
end Go.Proofs.YtiebpoikhijbgaaDoor.M
namespace Go.Proofs.YtiebpoikhijbgaaDoor.M
open Go.RowKit Go.Proofs.YtiebpoikhijbgaaDoorW.PrintWords Go.Proofs.YtiebpoikhijbgaaDoorW.PrintLast Go.Proofs.YtiebpoikhijbgaaDoorW.PrintMore
attribute [local go_sem] max2_int min2_int max_two min_two max_three min_three max_four min_four
set_option linter.unusedVariables false
set_option linter.unusedSimpArgs false

end Go.Proofs.YtiebpoikhijbgaaDoor.M
namespace Go.Proofs.YtiebpoikhijbgaaDoor.M
set_option linter.unusedVariables false
set_option linter.unusedSimpArgs false
open Go.RowKit Go.Proofs.YtiebpoikhijbgaaDoorW.PrintWords Go.Proofs.YtiebpoikhijbgaaDoorW.PrintLast

def cvEv (x : S65) : S35 := ⟨x.f0, x.f1, x.f2⟩

theorem szEvS_ok (l : List S65) (a : Int) (h0 : 0 ≤ a) (h1 : a ≤ 1048576) (hl : l.length ≤ 9223372036854775807) : laws_szEvS.f l a = some (if (l.length : Int) ≤ a then a - l.length else -1) := by
  unfold laws_szEvS.f
  rw [w_small (by omega) (by omega)]
  by_cases h : (l.length : Int) ≤ a
  · rw [if_neg (by omega), if_pos h]
  · rw [if_pos (by omega), if_neg h]

theorem toEvS_l0_ev (l : List S65) (hl : l.length ≤ 9223372036854775807) : ∀ (d n : Nat) (a : List S35), n + d = l.length → a.length = l.length → Ev (fun k => laws_toEvS.l0 k l a (n : Int)) (a.take n ++ (l.drop n).map cvEv) := by
  intro d
  induction d with
  | zero =>
    intro n a hn ha
    rw [List.drop_of_length_le (by omega), List.take_of_length_le (by omega), List.map_nil, List.append_nil]
    exact Ev.last (fun k => by simp only [laws_toEvS.l0]; rw [if_neg (by omega)])
  | succ d ih =>
    intro n a hn ha
    have hlt : n < l.length := by omega
    have hrd : rd_T65 l (n : Int) = l.getD n z65 := rfl
    rw [drop_at l z65 n hlt]
    have next := ih (n + 1) (a.set n (cvEv (l.getD n z65))) (by omega) (by rw [List.length_set]; exact ha)
    rw [take_set a n _ (by omega), List.append_assoc] at next
    refine Ev.step (fun k => by simp only [laws_toEvS.l0, laws_toEv.f]; rw [if_pos (by omega), if_pos (by omega), Option.bind_some, if_pos (by omega), w_succ (by omega), hrd, Int.toNat_natCast]) ?_
    rw [List.map_cons]
    exact next

theorem toEvS_ev (l : List S65) (hl : l.length ≤ 1048576) : Ev (fun k => laws_toEvS.f k l) (l.map cvEv) := by
  unfold laws_toEvS.f
  refine Ev.pos (by omega) (Ev.pos (by omega) ?_)
  have := toEvS_l0_ev l (by omega) l.length 0 (List.replicate l.length z35) (by omega) (by simp)
  rw [Int.toNat_natCast]
  exact this

theorem eqEv_self (a b c : Int) : laws_eqEv.f a b c a b c = some true := by
  unfold laws_eqEv.f
  rw [if_pos rfl, if_pos rfl, if_pos rfl]
theorem eqEvS_l0_ev (l : List S35) (hl : l.length ≤ 9223372036854775807) : ∀ d n : Nat, n + d = l.length → Ev (fun k => laws_eqEvS.l0 k l l (n : Int)) true := by
  intro d
  induction d with
  | zero =>
    intro n hn
    exact Ev.last (fun k => by simp only [laws_eqEvS.l0]; rw [if_neg (by omega)])
  | succ d ih =>
    intro n hn
    refine Ev.step (fun k => by simp only [laws_eqEvS.l0]; rw [if_pos (by omega), if_pos (by omega), if_pos (by omega), eqEv_self, w_succ (by omega), Option.bind_some, if_pos rfl]) ?_
    exact ih (n + 1) (by omega)
theorem eqEvS_ev (l : List S35) (hl : l.length ≤ 9223372036854775807) : Ev (fun k => laws_eqEvS.f k l l) true := by
  unfold laws_eqEvS.f
  exact Ev.pos rfl (eqEvS_l0_ev l hl l.length 0 (by omega))

theorem FnExactEvsText_pure (l : List S65) (h : l.length ≤ maxLen ∧ ∀ y ∈ l, good65 y) : ∃ k, laws_FnExactEvsText.f k l = some true := by
  have hl : l.length ≤ 9223372036854775807 := by have := h.1; unfold maxLen at this; omega
  refine Ev.rounds (g := fun k => laws_FnExactEvsText.f k l) ?_
  unfold laws_FnExactEvsText.f
  refine Ev.bind (Ev.one (fun _ => szEvS_ok l 1048576 (by omega) (by omega) hl)) ?_
  by_cases hs : (l.length : Int) ≤ 1048576
  · rw [if_pos hs]
    refine Ev.neg (by omega) ?_
    have k1 : (l.map cvEv).length ≤ 1048576 := by rw [List.length_map]; omega
    have k2 : ∀ x ∈ l.map cvEv, in64 x := by
      intro x hx
      obtain ⟨y, hy, rfl⟩ := List.mem_map.1 hx
      have g := h.2 y hy
      simp only [good65, Lit.wf, IntKind.min, IntKind.max, IntKind.signed, IntKind.bits] at g
      simp at g
      show (-9223372036854775808 ≤ y.f1 ∧ y.f1 ≤ 9223372036854775807) ∧ (-9223372036854775808 ≤ y.f2 ∧ y.f2 ≤ 9223372036854775807)
      omega
    exact Ev.bind (toEvS_ev l (by omega)) (Ev.bind (spec_EvsText_ev _ k1 k2) (Ev.bind (toEvS_ev l (by omega)) (Ev.bind (impl_EvsText_ev _ k1 k2) (Ev.pos rfl (Ev.bind (toEvS_ev l (by omega)) (Ev.bind (eqEvS_ev _ (by omega)) (Ev.pos rfl (Ev.now _))))))))
  · rw [if_neg hs]
    exact Ev.pos (by omega) (Ev.now _)
end Go.Proofs.YtiebpoikhijbgaaDoor.M
