/- What the claim's law leans on: the program's functions, what they compute, and the law over plain values; no condition is asked. (Part 1 of 3.) -/
import Derived.Test.YtbcdfbiggjfmlaaDoorVFnExactExReadWords
import Derived.Test.YtbcdfbiggjfmlaaDoorVFnExactExReadLast
import Derived.Shelf.Small.Bits
import Derived.Shelf.Utf8.RuneCount
import Derived.Shelf.Strconv.Atoi
import Derived.Shelf.Strconv.Itoa0
import Derived.Shelf.Strconv.Itoa1
import Derived.Shelf.LaysM
import Derived.Shelf.Strconv.Itoa2
import Derived.Shelf.Strconv.Itoa3
import Derived.Shelf.Strconv.AtoiErrFast
import Derived.Shelf.Strconv.ParseIntEmpty
import Derived.Shelf.Strconv.AtoiFail
import Derived.Shelf.Strconv.Clone
import Derived.Shelf.Strconv.SyntaxError
import Derived.Shelf.LaysC
import Derived.Shelf.Strconv.ToError
import Derived.Shelf.Strconv.Lower
import Derived.Shelf.Strconv.ParseUint10
import Derived.Shelf.Strconv.ParseUint10Empty
import Derived.Shelf.Strconv.ParseUint10Any
import Derived.Shelf.Strconv.ParseInt10
import Derived.Shelf.Strconv.AtoiLong
import Derived.Shelf.Strconv.AtoiInnerAll
import Derived.Shelf.Strconv.RangeError
import Derived.Shelf.Strconv.ToErrorRange
import Derived.Shelf.Strconv.AtoiAll
import Derived.Shelf.Strings.Search1
import Derived.Shelf.Strings.Search2
import Derived.Shelf.Strings.Search3
import Derived.Shelf.Strings.Count
import Derived.Shelf.Strings.Shaped
import Derived.Shelf.Strings.Split
import Derived.Shelf.Unicode.DecodeSlow
import Derived.Shelf.Unicode.DecodeAny
import Derived.Ground.Names2Prog
import Derived.Shelf.Slices.CompactI
import Derived.Shelf.Slices.SearchI
import Derived.Shelf.Slices.Cells
import Derived.Test.YtbcdfbiggjfmlaaDoorProg
import Derived.Below
import Derived.Deep.Draws
import Derived.Deep.AppendLies
import Derived.Maps.AppendAt
import Derived.OwnWalk
import Derived.Laws.BytesArg
import Derived.Laws.MakeOwn
import Derived.Laws.OwnMore
import Derived.Deep.OwnRows
import Derived.Tactics
import Derived.Lib.ConvBytes
import Derived.Laws.Slices
import Derived.WalkKit
import Derived.KernelRfl
import Derived.RowKit3
import Derived.Deep.LoopGhost
import Derived.Deep.QuietTactic
import Derived.BigQuiet
import Derived.WideLaws
import Derived.Deep.DeepCutAuto
import Derived.Deep.CutBlock
import Derived.Deep.RegionHeld3
import Derived.Laws.Rows
import Derived.Lib.AppendStr
import Derived.ArgAppend
import Derived.Laws.IdiomCopy
import Derived.OrdersHeld
import Derived.Laws.BitsLemmas
import Derived.RowKit
import Derived.Test.YtbcdfbiggjfmlaaDoorVFnExactExReadTab
import Derived.Test.YtbcdfbiggjfmlaaDoorVFnExactExReadFour
import Derived.Test.YtbcdfbiggjfmlaaDoorVFnExactExReadQPut
import Derived.Test.YtbcdfbiggjfmlaaDoorVFnExactExReadApart
import Derived.Test.YtbcdfbiggjfmlaaDoorVFnExactExReadArr
import Derived.Test.YtbcdfbiggjfmlaaDoorVFnExactExReadZeros
import Derived.Test.YtbcdfbiggjfmlaaDoorVFnExactExReadFoot
import Derived.Test.YtbcdfbiggjfmlaaDoorVFnExactExReadKept
import Derived.Test.YtbcdfbiggjfmlaaDoorVFnExactExReadShare
import Derived.Test.YtbcdfbiggjfmlaaDoorVFnExactExReadN
import Derived.Test.YtbcdfbiggjfmlaaDoorVFnExactExReadFootNe
import Derived.Test.YtbcdfbiggjfmlaaDoorVFnExactExReadAt
import Derived.Test.YtbcdfbiggjfmlaaDoorVFnExactExReadEqStruct
import Derived.Test.YtbcdfbiggjfmlaaDoorVFnExactExReadRepsOne
import Derived.Test.YtbcdfbiggjfmlaaDoorVFnExactExReadInv
import Derived.Test.YtbcdfbiggjfmlaaDoorVFnExactExReadInvWords
import Derived.Test.YtbcdfbiggjfmlaaDoorVFnExactExReadGuard
import Derived.Test.YtbcdfbiggjfmlaaDoorVFnExactExReadNEv
import Derived.Test.YtbcdfbiggjfmlaaDoorVFnExactExReadMore
import Derived.Laws.CopyRow
import Derived.Laws.CopyOwn
import Derived.Test.YtbcdfbiggjfmlaaDoorRows
import Derived.LaidSub
import Derived.MakeChecks
import Derived.LaidMore
import Derived.Handed
import Derived.SizedLaws
import Derived.Shelf.Vars
import Derived.Stop.Joined
import Derived.ProofKit
import Derived.ChangeSlices
namespace Go.Proofs.YtbcdfbiggjfmlaaDoor.M
set_option linter.unusedVariables false
set_option linter.unusedSimpArgs false
open Go.RowKit Go.Proofs.YtbcdfbiggjfmlaaDoorW.PrintWords Go.Proofs.YtbcdfbiggjfmlaaDoorW.PrintLast

theorem m0_ {p : Prop} (h : p) : Aside0 p := ⟨h⟩
theorem w_small {i : Int} (h0 : -9223372036854775808 ≤ i) (h1 : i ≤ 9223372036854775807) : wrap64 i = i := by
  unfold wrap64
  omega
theorem w_succ {n : Nat} (h : n < 9223372036854775807) : wrap64 ((n : Int) + 1) = ((n + 1 : Nat) : Int) := by
  unfold wrap64
  omega
theorem Ev.one {α : Type} {g : Nat → Option α} {r : α} (h : ∀ k, g k = some r) : Ev g r := ⟨0, fun k _ => h k⟩
theorem Ev.last {α : Type} {g : Nat → Option α} {r : α} (h : ∀ k, g (k + 1) = some r) : Ev g r := Ev.step (f := fun _ => some r) h (Ev.now r)
theorem Ev.bindS {α β : Type} {g : Nat → Option α} {f : α → Option β} {a : α} {r : β} (h : Ev g a) (k : f a = some r) : Ev (fun n => (g n).bind f) r := Ev.bind (f := fun _ => f) h (Ev.one (fun _ => k))
theorem Ev.pos {α : Type} {c : Prop} [Decidable c] {g f : Nat → Option α} {r : α} (h : c) (k : Ev g r) : Ev (fun n => if c then g n else f n) r := Ev.congr (fun _ => if_pos h) k
theorem Ev.neg {α : Type} {c : Prop} [Decidable c] {g f : Nat → Option α} {r : α} (h : ¬ c) (k : Ev f r) : Ev (fun n => if c then g n else f n) r := Ev.congr (fun _ => if_neg h) k
theorem Ev.val {α : Type} {g : Nat → Option α} {r r' : α} (h : Ev g r) (e : r = r') : Ev g r' := e ▸ h
end Go.Proofs.YtbcdfbiggjfmlaaDoor.M
namespace Go.Proofs
open Go.Shelf
def Tryd.lays171_ren : Go.Shelf.Ren := ⟨fun | 171 => 54 | 243 => 73 | 246 => 93 | 283 => 112 | 284 => 113 | 285 => 114 | 286 => 115 | 129 => 86 | 317 => 123 | 318 => 124 | 319 => 125 | 320 => 126 | 337 => 129 | 338 => 130 | n => n, fun | 3 => 3 | 9 => 9 | 2 => 2 | 4 => 4 | 171 => 129 | 0 => 0 | 53 => 108 | 37 => 33 | 5 => 5 | 173 => 131 | 212 => 144 | 51 => 106 | 20 => 20 | 213 => 145 | 46 => 85 | 232 => 155 | 233 => 156 | n => n, fun | 17 => 4 | 18 => 7 | 19 => 8 | n => n⟩
theorem Tryd.lays171 : Go.Proofs.Lays.n171 Tryd.prog Tryd.lays171_ren := {
  mixed := by kernel_rfl
  f129 := Tryd.func86.trans (congrArg some (by kernel_rfl))
  f171 := Tryd.func54.trans (congrArg some (by kernel_rfl))
  f243 := Tryd.func73.trans (congrArg some (by kernel_rfl))
  f246 := Tryd.func93.trans (congrArg some (by kernel_rfl))
  f283 := Tryd.func112.trans (congrArg some (by kernel_rfl))
  f284 := Tryd.func113.trans (congrArg some (by kernel_rfl))
  f285 := Tryd.func114.trans (congrArg some (by kernel_rfl))
  f286 := Tryd.func115.trans (congrArg some (by kernel_rfl))
  f317 := Tryd.func123.trans (congrArg some (by kernel_rfl))
  f318 := Tryd.func124.trans (congrArg some (by kernel_rfl))
  f319 := Tryd.func125.trans (congrArg some (by kernel_rfl))
  f320 := Tryd.func126.trans (congrArg some (by kernel_rfl))
  f337 := Tryd.func129.trans (congrArg some (by kernel_rfl))
  f338 := Tryd.func130.trans (congrArg some (by kernel_rfl))
  t0 := Tryd.underlying0
  a0 := Tryd.isAgg0
  z0 := Tryd.sizeOf0
  v0 := Tryd.zeroValue0
  t2 := Tryd.underlying2
  a2 := Tryd.isAgg2
  z2 := Tryd.sizeOf2
  v2 := Tryd.zeroValue2
  t3 := Tryd.underlying3
  a3 := Tryd.isAgg3
  z3 := Tryd.sizeOf3
  v3 := Tryd.zeroValue3
  t4 := Tryd.underlying4
  a4 := Tryd.isAgg4
  z4 := Tryd.sizeOf4
  v4 := Tryd.zeroValue4
  t5 := Tryd.underlying5
  a5 := Tryd.isAgg5
  z5 := Tryd.sizeOf5
  v5 := Tryd.zeroValue5
  t9 := Tryd.underlying9
  a9 := Tryd.isAgg9
  z9 := Tryd.sizeOf9
  v9 := Tryd.zeroValue9
  t20 := Tryd.underlying20
  a20 := Tryd.isAgg20
  z20 := Tryd.sizeOf20
  v20 := Tryd.zeroValue20
  t37 := Tryd.underlying33
  a37 := Tryd.isAgg33
  z37 := Tryd.sizeOf33
  v37 := Tryd.zeroValue33
  t46 := Tryd.underlying85
  a46 := Tryd.isAgg85
  z46 := Tryd.sizeOf85
  v46 := Tryd.zeroValue85
  t51 := Tryd.underlying106
  a51 := Tryd.isAgg106
  z51 := Tryd.sizeOf106
  v51 := Tryd.zeroValue106
  t53 := Tryd.underlying108
  a53 := Tryd.isAgg108
  z53 := Tryd.sizeOf108
  v53 := Tryd.zeroValue108
  t171 := Tryd.underlying129
  a171 := Tryd.isAgg129
  z171 := Tryd.sizeOf129
  v171 := Tryd.zeroValue129
  t173 := Tryd.underlying131
  a173 := Tryd.isAgg131
  z173 := Tryd.sizeOf131
  v173 := Tryd.zeroValue131
  t212 := Tryd.underlying144
  a212 := Tryd.isAgg144
  z212 := Tryd.sizeOf144
  v212 := Tryd.zeroValue144
  t213 := Tryd.underlying145
  a213 := Tryd.isAgg145
  z213 := Tryd.sizeOf145
  t232 := Tryd.underlying155
  a232 := Tryd.isAgg155
  z232 := Tryd.sizeOf155
  v232 := Tryd.zeroValue155
  t233 := Tryd.underlying156
  a233 := Tryd.isAgg156
  z233 := Tryd.sizeOf156
  v233 := Tryd.zeroValue156
  g17 := by kernel_rfl
  g18 := by kernel_rfl
  g19 := by kernel_rfl }
open Go.RowKit Go.Sort Go.Lib in
theorem Tryd.strconv_Itoa_small (i : Nat) (hi : i < 100) (w : World) :
    Calls Tryd.prog 54 #[.int .i64 i] w fun e w' => e = .returned (.string ⟨(Lib.decDigits i).toArray⟩) ∧ w' = w := Any.strconv_Itoa_small Tryd.lays171 i hi w
def Tryd.laysC172_ren : Go.Shelf.Ren := ⟨fun | 172 => 72 | 244 => 91 | 245 => 92 | 247 => 107 | 279 => 108 | 280 => 109 | 281 => 110 | 282 => 111 | 287 => 120 | 316 => 121 | 171 => 54 | 205 => 122 | 321 => 127 | 322 => 128 | 243 => 73 | 246 => 93 | 283 => 112 | 284 => 113 | 285 => 114 | 286 => 115 | 129 => 86 | 317 => 123 | 318 => 124 | 319 => 125 | 320 => 126 | 337 => 129 | 338 => 130 | n => n, fun | 9 => 9 | 3 => 3 | 75 => 91 | 76 => 92 | 4 => 4 | 5 => 5 | 167 => 123 | 37 => 33 | 0 => 0 | 85 => 124 | 2 => 2 | 168 => 126 | 53 => 108 | 175 => 137 | 46 => 85 | 210 => 141 | 127 => 151 | 145 => 154 | 143 => 152 | 21 => 21 | 171 => 129 | 173 => 131 | 212 => 144 | 51 => 106 | 20 => 20 | 213 => 145 | 232 => 155 | 233 => 156 | 80 => 49 | n => n, fun | 15 => 2 | 16 => 3 | 17 => 4 | 18 => 7 | 19 => 8 | n => n⟩
theorem Tryd.laysC172 : Go.Proofs.LaysC.n172 Tryd.prog Tryd.laysC172_ren := {
  mixed := by kernel_rfl
  f129 := Tryd.func86.trans (congrArg some (by kernel_rfl))
  f171 := Tryd.func54.trans (congrArg some (by kernel_rfl))
  f172 := Tryd.func72.trans (congrArg some (by kernel_rfl))
  f205 := Tryd.func122.trans (congrArg some (by kernel_rfl))
  f243 := Tryd.func73.trans (congrArg some (by kernel_rfl))
  f244 := Tryd.func91.trans (congrArg some (by kernel_rfl))
  f245 := Tryd.func92.trans (congrArg some (by kernel_rfl))
  f246 := Tryd.func93.trans (congrArg some (by kernel_rfl))
  f247 := Tryd.func107.trans (congrArg some (by kernel_rfl))
  f279 := Tryd.func108.trans (congrArg some (by kernel_rfl))
  f280 := Tryd.func109.trans (congrArg some (by kernel_rfl))
  f281 := Tryd.func110.trans (congrArg some (by kernel_rfl))
  f282 := Tryd.func111.trans (congrArg some (by kernel_rfl))
  f283 := Tryd.func112.trans (congrArg some (by kernel_rfl))
  f284 := Tryd.func113.trans (congrArg some (by kernel_rfl))
  f285 := Tryd.func114.trans (congrArg some (by kernel_rfl))
  f286 := Tryd.func115.trans (congrArg some (by kernel_rfl))
  f287 := Tryd.func120.trans (congrArg some (by kernel_rfl))
  f316 := Tryd.func121.trans (congrArg some (by kernel_rfl))
  f317 := Tryd.func123.trans (congrArg some (by kernel_rfl))
  f318 := Tryd.func124.trans (congrArg some (by kernel_rfl))
  f319 := Tryd.func125.trans (congrArg some (by kernel_rfl))
  f320 := Tryd.func126.trans (congrArg some (by kernel_rfl))
  f321 := Tryd.func127.trans (congrArg some (by kernel_rfl))
  f322 := Tryd.func128.trans (congrArg some (by kernel_rfl))
  f337 := Tryd.func129.trans (congrArg some (by kernel_rfl))
  f338 := Tryd.func130.trans (congrArg some (by kernel_rfl))
  t0 := Tryd.underlying0
  a0 := Tryd.isAgg0
  z0 := Tryd.sizeOf0
  v0 := Tryd.zeroValue0
  t2 := Tryd.underlying2
  a2 := Tryd.isAgg2
  z2 := Tryd.sizeOf2
  v2 := Tryd.zeroValue2
  t3 := Tryd.underlying3
  a3 := Tryd.isAgg3
  z3 := Tryd.sizeOf3
  v3 := Tryd.zeroValue3
  t4 := Tryd.underlying4
  a4 := Tryd.isAgg4
  z4 := Tryd.sizeOf4
  v4 := Tryd.zeroValue4
  t5 := Tryd.underlying5
  a5 := Tryd.isAgg5
  z5 := Tryd.sizeOf5
  v5 := Tryd.zeroValue5
  t9 := Tryd.underlying9
  a9 := Tryd.isAgg9
  z9 := Tryd.sizeOf9
  v9 := Tryd.zeroValue9
  t20 := Tryd.underlying20
  a20 := Tryd.isAgg20
  z20 := Tryd.sizeOf20
  v20 := Tryd.zeroValue20
  t21 := Tryd.underlying21
  a21 := Tryd.isAgg21
  z21 := Tryd.sizeOf21
  v21 := Tryd.zeroValue21
  t37 := Tryd.underlying33
  a37 := Tryd.isAgg33
  z37 := Tryd.sizeOf33
  v37 := Tryd.zeroValue33
  t46 := Tryd.underlying85
  a46 := Tryd.isAgg85
  z46 := Tryd.sizeOf85
  v46 := Tryd.zeroValue85
  t51 := Tryd.underlying106
  a51 := Tryd.isAgg106
  z51 := Tryd.sizeOf106
  v51 := Tryd.zeroValue106
  t53 := Tryd.underlying108
  a53 := Tryd.isAgg108
  z53 := Tryd.sizeOf108
  v53 := Tryd.zeroValue108
  t75 := Tryd.underlying91
  a75 := Tryd.isAgg91
  z75 := Tryd.sizeOf91
  v75 := Tryd.zeroValue91
  t76 := Tryd.underlying92
  a76 := Tryd.isAgg92
  z76 := Tryd.sizeOf92
  v76 := Tryd.zeroValue92
  t85 := Tryd.underlying124
  a85 := Tryd.isAgg124
  z85 := Tryd.sizeOf124
  v85 := Tryd.zeroValue124
  t127 := Tryd.underlying151
  a127 := Tryd.isAgg151
  z127 := Tryd.sizeOf151
  v127 := Tryd.zeroValue151
  t143 := Tryd.underlying152
  a143 := Tryd.isAgg152
  z143 := Tryd.sizeOf152
  v143 := Tryd.zeroValue152
  t145 := Tryd.underlying154
  a145 := Tryd.isAgg154
  z145 := Tryd.sizeOf154
  v145 := Tryd.zeroValue154
  t167 := Tryd.underlying123
  a167 := Tryd.isAgg123
  z167 := Tryd.sizeOf123
  v167 := Tryd.zeroValue123
  t168 := Tryd.underlying126
  a168 := Tryd.isAgg126
  z168 := Tryd.sizeOf126
  v168 := Tryd.zeroValue126
  t171 := Tryd.underlying129
  a171 := Tryd.isAgg129
  z171 := Tryd.sizeOf129
  v171 := Tryd.zeroValue129
  t173 := Tryd.underlying131
  a173 := Tryd.isAgg131
  z173 := Tryd.sizeOf131
  v173 := Tryd.zeroValue131
  t175 := Tryd.underlying137
  a175 := Tryd.isAgg137
  z175 := Tryd.sizeOf137
  v175 := Tryd.zeroValue137
  t210 := Tryd.underlying141
  a210 := Tryd.isAgg141
  z210 := Tryd.sizeOf141
  v210 := Tryd.zeroValue141
  t212 := Tryd.underlying144
  a212 := Tryd.isAgg144
  z212 := Tryd.sizeOf144
  v212 := Tryd.zeroValue144
  t213 := Tryd.underlying145
  a213 := Tryd.isAgg145
  z213 := Tryd.sizeOf145
  t232 := Tryd.underlying155
  a232 := Tryd.isAgg155
  z232 := Tryd.sizeOf155
  v232 := Tryd.zeroValue155
  t233 := Tryd.underlying156
  a233 := Tryd.isAgg156
  z233 := Tryd.sizeOf156
  v233 := Tryd.zeroValue156
  g15 := by kernel_rfl
  g16 := by kernel_rfl
  g17 := by kernel_rfl
  g18 := by kernel_rfl
  g19 := by kernel_rfl
  t80 := Tryd.underlying49
  a80 := Tryd.isAgg49
  z80 := Tryd.sizeOf49
  v80 := Tryd.zeroValue49
  i0 := by kernel_rfl
  i2 := by kernel_rfl
  i3 := by kernel_rfl
  i4 := by kernel_rfl
  i5 := by kernel_rfl
  i9 := by kernel_rfl
  i20 := by kernel_rfl
  i21 := by kernel_rfl
  i37 := by kernel_rfl
  i46 := by kernel_rfl
  i51 := by kernel_rfl
  i53 := by kernel_rfl
  i75 := by kernel_rfl
  i76 := by kernel_rfl
  i80 := by kernel_rfl
  i85 := by kernel_rfl
  i127 := by kernel_rfl
  i143 := by kernel_rfl
  i145 := by kernel_rfl
  i167 := by kernel_rfl
  i168 := by kernel_rfl
  i171 := by kernel_rfl
  i173 := by kernel_rfl
  i175 := by kernel_rfl
  i210 := by kernel_rfl
  i212 := by kernel_rfl
  i232 := by kernel_rfl
  i233 := by kernel_rfl
  m15 := by kernel_rfl
  m16 := by kernel_rfl
  m17 := by kernel_rfl
  m18 := by kernel_rfl
  m19 := by kernel_rfl
  c0 := by kernel_rfl
  c2 := by kernel_rfl
  c3 := by kernel_rfl
  c4 := by kernel_rfl
  c5 := by kernel_rfl
  c9 := by kernel_rfl
  c20 := by kernel_rfl
  c21 := by kernel_rfl
  c37 := by kernel_rfl
  c46 := by kernel_rfl
  c51 := by kernel_rfl
  c53 := by kernel_rfl
  c75 := by kernel_rfl
  c76 := by kernel_rfl
  c80 := by kernel_rfl
  c85 := by kernel_rfl
  c127 := by kernel_rfl
  c143 := by kernel_rfl
  c145 := by kernel_rfl
  c167 := by kernel_rfl
  c168 := by kernel_rfl
  c171 := by kernel_rfl
  c173 := by kernel_rfl
  c175 := by kernel_rfl
  c210 := by kernel_rfl
  c212 := by kernel_rfl
  c213 := by kernel_rfl
  c232 := by kernel_rfl
  c233 := by kernel_rfl }
open Go.RowKit in
theorem Tryd.strconv_Atoi_ok (s : ByteArray) (hmax : s.size ≤ 9223372036854775806) (v : Int) (h : Lib.atoiAll s.data.toList = .ok v) (w : World) :
    Calls Tryd.prog 72 #[.string s] w fun e w' => e = .returned (.tuple #[.int .i64 v, .nilIface]) ∧ (w' = w ∨ ∃ t, w' = Lib.bytesWorld w 5 t) := Any.strconv_Atoi_ok Tryd.laysC172 s hmax v h w
open Go.RowKit in
theorem Tryd.strconv_Atoi_syntax (s : ByteArray) (hlim : s.size ≤ 281474976710656) (h : Lib.atoiAll s.data.toList = Lib.atoiAll []) (ev : Value) (w : World) (hv : w.cell? ⟨2, 0, none⟩ = some ev) (hev : ev = .nilIface ∨ ∃ te pe, ev = .iface te pe) :
    Calls Tryd.prog 72 #[.string s] w fun e w' => ∃ N, e = .returned (.tuple #[.int .i64 (0), .iface 126 (.pointer (some ⟨N, 0, none⟩))]) ∧ w.heap.size ≤ N ∧ w'.heap[N]? = some (.cells #[.string ⟨#[65, 116, 111, 105]⟩, .string s, ev] 141 (0, 0)) ∧ Below w.heap.size w w' := Any.strconv_Atoi_syntax Tryd.laysC172 s hlim h ev w hv hev
open Go.RowKit in
theorem Tryd.strconv_Atoi_range (s : ByteArray) (hlim : s.size ≤ 281474976710656) (h : Lib.atoiAll s.data.toList = .range) (ev : Value) (w : World) (hv : w.cell? ⟨3, 0, none⟩ = some ev) (hev : ev = .nilIface ∨ ∃ te pe, ev = .iface te pe) :
    Calls Tryd.prog 72 #[.string s] w fun e w' => ∃ N, e = .returned (.tuple #[.int .i64 (Lib.atoiSat s.data.toList), .iface 126 (.pointer (some ⟨N, 0, none⟩))]) ∧ w.heap.size ≤ N ∧ w'.heap[N]? = some (.cells #[.string ⟨#[65, 116, 111, 105]⟩, .string s, ev] 141 (0, 0)) ∧ Below w.heap.size w w' := Any.strconv_Atoi_range Tryd.laysC172 s hlim h ev w hv hev
def Tryd.lays143_ren : Go.Shelf.Ren := ⟨fun | 143 => 70 | 219 => 90 | 217 => 103 | 225 => 104 | 224 => 105 | 267 => 106 | 266 => 118 | 314 => 119 | n => n, fun | 9 => 9 | 3 => 3 | 4 => 4 | 5 => 5 | 46 => 85 | 146 => 135 | 51 => 106 | n => n, fun | 1 => 1 | n => n⟩
theorem Tryd.lays143 : Go.Proofs.Lays.n143 Tryd.prog Tryd.lays143_ren := {
  mixed := by kernel_rfl
  f143 := Tryd.func70.trans (congrArg some (by kernel_rfl))
  f217 := Tryd.func103.trans (congrArg some (by kernel_rfl))
  f219 := Tryd.func90.trans (congrArg some (by kernel_rfl))
  f224 := Tryd.func105.trans (congrArg some (by kernel_rfl))
  f225 := Tryd.func104.trans (congrArg some (by kernel_rfl))
  f266 := Tryd.func118.trans (congrArg some (by kernel_rfl))
  f267 := Tryd.func106.trans (congrArg some (by kernel_rfl))
  f314 := Tryd.func119.trans (congrArg some (by kernel_rfl))
  t3 := Tryd.underlying3
  a3 := Tryd.isAgg3
  z3 := Tryd.sizeOf3
  v3 := Tryd.zeroValue3
  t4 := Tryd.underlying4
  a4 := Tryd.isAgg4
  z4 := Tryd.sizeOf4
  v4 := Tryd.zeroValue4
  t5 := Tryd.underlying5
  a5 := Tryd.isAgg5
  z5 := Tryd.sizeOf5
  v5 := Tryd.zeroValue5
  t9 := Tryd.underlying9
  a9 := Tryd.isAgg9
  z9 := Tryd.sizeOf9
  v9 := Tryd.zeroValue9
  t46 := Tryd.underlying85
  a46 := Tryd.isAgg85
  z46 := Tryd.sizeOf85
  v46 := Tryd.zeroValue85
  t51 := Tryd.underlying106
  a51 := Tryd.isAgg106
  z51 := Tryd.sizeOf106
  v51 := Tryd.zeroValue106
  t146 := Tryd.underlying135
  a146 := Tryd.isAgg135
  z146 := Tryd.sizeOf135
  v146 := Tryd.zeroValue135
  g1 := by kernel_rfl }
open Go.RowKit Go.Lib in
theorem Tryd.strings_Index_one (s : ByteArray) (c : UInt8) (w : World) :
    Calls Tryd.prog 70 #[.string s, .string ⟨#[c]⟩] w fun e w' => e = .returned (.int .i64 (Lib.indexByte s.data.toList c)) ∧ w' = w := Any.strings_Index_one Tryd.lays143 s c w
def Tryd.lays146_ren : Go.Shelf.Ren := ⟨fun | 146 => 44 | 221 => 68 | 268 => 88 | 138 => 89 | 143 => 70 | 195 => 100 | 197 => 101 | 218 => 102 | 219 => 90 | 260 => 117 | 217 => 103 | 225 => 104 | 224 => 105 | 267 => 106 | 266 => 118 | 314 => 119 | n => n, fun | 9 => 9 | 31 => 62 | 3 => 3 | 4 => 4 | 0 => 0 | 105 => 120 | 21 => 21 | 5 => 5 | 46 => 85 | 119 => 146 | 139 => 149 | 138 => 148 | 146 => 135 | 51 => 106 | n => n, fun | 1 => 1 | 3 => 5 | 4 => 6 | n => n⟩
theorem Tryd.lays146 : Go.Proofs.Lays.n146 Tryd.prog Tryd.lays146_ren := {
  mixed := by kernel_rfl
  f138 := Tryd.func89.trans (congrArg some (by kernel_rfl))
  f143 := Tryd.func70.trans (congrArg some (by kernel_rfl))
  f146 := Tryd.func44.trans (congrArg some (by kernel_rfl))
  f195 := Tryd.func100.trans (congrArg some (by kernel_rfl))
  f197 := Tryd.func101.trans (congrArg some (by kernel_rfl))
  f217 := Tryd.func103.trans (congrArg some (by kernel_rfl))
  f218 := Tryd.func102.trans (congrArg some (by kernel_rfl))
  f219 := Tryd.func90.trans (congrArg some (by kernel_rfl))
  f221 := Tryd.func68.trans (congrArg some (by kernel_rfl))
  f224 := Tryd.func105.trans (congrArg some (by kernel_rfl))
  f225 := Tryd.func104.trans (congrArg some (by kernel_rfl))
  f260 := Tryd.func117.trans (congrArg some (by kernel_rfl))
  f266 := Tryd.func118.trans (congrArg some (by kernel_rfl))
  f267 := Tryd.func106.trans (congrArg some (by kernel_rfl))
  f268 := Tryd.func88.trans (congrArg some (by kernel_rfl))
  f314 := Tryd.func119.trans (congrArg some (by kernel_rfl))
  t0 := Tryd.underlying0
  a0 := Tryd.isAgg0
  z0 := Tryd.sizeOf0
  v0 := Tryd.zeroValue0
  t3 := Tryd.underlying3
  a3 := Tryd.isAgg3
  z3 := Tryd.sizeOf3
  v3 := Tryd.zeroValue3
  t4 := Tryd.underlying4
  a4 := Tryd.isAgg4
  z4 := Tryd.sizeOf4
  v4 := Tryd.zeroValue4
  t5 := Tryd.underlying5
  a5 := Tryd.isAgg5
  z5 := Tryd.sizeOf5
  v5 := Tryd.zeroValue5
  t9 := Tryd.underlying9
  a9 := Tryd.isAgg9
  z9 := Tryd.sizeOf9
  v9 := Tryd.zeroValue9
  t21 := Tryd.underlying21
  a21 := Tryd.isAgg21
  z21 := Tryd.sizeOf21
  v21 := Tryd.zeroValue21
  t31 := Tryd.underlying62
  a31 := Tryd.isAgg62
  z31 := Tryd.sizeOf62
  v31 := Tryd.zeroValue62
  t46 := Tryd.underlying85
  a46 := Tryd.isAgg85
  z46 := Tryd.sizeOf85
  v46 := Tryd.zeroValue85
  t51 := Tryd.underlying106
  a51 := Tryd.isAgg106
  z51 := Tryd.sizeOf106
  v51 := Tryd.zeroValue106
  t105 := Tryd.underlying120
  a105 := Tryd.isAgg120
  z105 := Tryd.sizeOf120
  v105 := Tryd.zeroValue120
  t119 := Tryd.underlying146
  a119 := Tryd.isAgg146
  z119 := Tryd.sizeOf146
  t138 := Tryd.underlying148
  a138 := Tryd.isAgg148
  z138 := Tryd.sizeOf148
  v138 := Tryd.zeroValue148
  t139 := Tryd.underlying149
  a139 := Tryd.isAgg149
  z139 := Tryd.sizeOf149
  v139 := Tryd.zeroValue149
  t146 := Tryd.underlying135
  a146 := Tryd.isAgg135
  z146 := Tryd.sizeOf135
  v146 := Tryd.zeroValue135
  g1 := by kernel_rfl
  g3 := by kernel_rfl
  g4 := by kernel_rfl }
open Go.RowKit Go.Lib in
theorem Tryd.strings_Split (s sep : ByteArray) (m : Int) (w : World) (hs : s.size < 4294967281) (hm : w.cell? ⟨1, 0, none⟩ = some (.int .i64 m)) (h1 : 1 ≤ sep.size) :
    Calls Tryd.prog 44 #[.string s, .string sep] w fun e w' =>
      e = .returned (.slice (some ⟨w.heap.size, 0, none⟩) (Lib.countB s sep + 1) (Lib.countB s sep + 1)) ∧ w' = w.alloc (.cells ((Lib.splitB sep 0 (Lib.countB s sep) s).map Value.string).toArray 9) := Any.strings_Split Tryd.lays146 (by kernel_rfl) s sep m w hs hm h1
end Go.Proofs
namespace Go.Proofs.YtbcdfbiggjfmlaaDoor.M
open Go.RowKit Go.Proofs.YtbcdfbiggjfmlaaDoorW.PrintWords Go.Proofs.YtbcdfbiggjfmlaaDoorW.PrintLast Go.Proofs.YtbcdfbiggjfmlaaDoorW.PrintMore
attribute [local go_sem] max2_int min2_int max_two min_two max_three min_three max_four min_four
set_option linter.unusedVariables false
set_option linter.unusedSimpArgs false

def errW : Option Int → Value
  | none => .nilIface
  | some c => .iface 0 (.int .i64 c)
theorem errW_none : errW none = .nilIface := rfl
theorem errW_some (c : Int) : errW (some c) = .iface 0 (.int .i64 c) := rfl

theorem info9 : (Tryd.prog.info? 9).map (fun i => (i.zero, i.size, i.bytes)) = some (some (.string ⟨#[]⟩), 1, 16) := by kernel_rfl
theorem info29 : (Tryd.prog.info? 29).map (fun i => (i.zero, i.size, i.bytes)) = some (some (.agg #[(.int .i64 0), (.int .i64 0), (.int .i64 0), (.slice none 0 0)]), 4, 48) := by kernel_rfl
structure S29 where
  f0 : Int
  f1 : Int
  f2 : Int
  f3 : (List S29)
def z29 : S29 := ⟨(0 : Int), (0 : Int), (0 : Int), ([] : List S29)⟩
def F29 (d : Kd S29) : Kd S29 := Kd.iso (Kd.pair (Kd.int .i64) (Kd.pair (Kd.int .i64) (Kd.pair (Kd.int .i64) (Kd.slice 29 d)))) (fun x : S29 => (x.f0, x.f1, x.f2, x.f3))
theorem mono29 : Kd.Mono F29 := Kd.mono_iso _ (Kd.mono_pair (Kd.mono_const _) (Kd.mono_pair (Kd.mono_const _) (Kd.mono_pair (Kd.mono_const _) (Kd.mono_slice 29 Kd.mono_id))))
theorem sub29 : Kd.Sub F29 [29] := Kd.sub_iso _ (Kd.sub_pair (Kd.sub_const _ (by decide)) (Kd.sub_pair (Kd.sub_const _ (by decide)) (Kd.sub_pair (Kd.sub_const _ (by decide)) (Kd.sub_slice 29 (by decide) Kd.sub_id))))
theorem sz29 : ∀ n, (Kd.upto F29 4 [29] n).sz = 4 := Kd.upto_sz (fun _ => rfl)
def k29 : Kd S29 := Kd.fix F29 4 [29] sz29 (Kd.upto_E sub29)
theorem k29_open {w : World} {x : S29} {cs : List Value} (h : k29.K w x cs) : ∃ A3 c3, cs = [.int .i64 x.f0, .int .i64 x.f1, .int .i64 x.f2, .slice A3 x.f3.length c3] ∧ x.f3.length ≤ c3 ∧ k29.C w A3 x.f3.length x.f3 := by
  obtain ⟨n, h⟩ := h
  cases n with
  | zero => exact h.elim
  | succ n =>
    obtain ⟨_, _, rfl, rfl, ⟨_, _, rfl, rfl, ⟨_, _, rfl, rfl, ⟨A3, c3, rfl, l3, g3⟩⟩⟩⟩ := h
    exact ⟨A3, c3, rfl, l3, Kd.fix_C g3⟩
theorem k29_mkM (w : World) (base : Nat) (ok : Nat → Prop) (x : S29) {v3 : Value} (g3 : k29.R 29 w base ok v3 x.f3) : k29.M w base ok x [.int .i64 x.f0, .int .i64 x.f1, .int .i64 x.f2, v3] := by
  obtain ⟨n3, q3⟩ := Kd.fix_R_back mono29 g3
  have r3 := Kd.upto_R_le mono29 sz29 (show n3 ≤ n3 by omega) q3
  exact ⟨n3 + 1, ⟨[.int .i64 x.f0], [.int .i64 x.f1, .int .i64 x.f2, v3], rfl, rfl, ⟨[.int .i64 x.f1], [.int .i64 x.f2, v3], rfl, rfl, ⟨[.int .i64 x.f2], [v3], rfl, rfl, ⟨v3, rfl, r3⟩⟩⟩⟩⟩
def rd_T29 (xs : List S29) (i : Int) : S29 := xs.getD i.toNat z29
theorem at_T29 {w : World} {A : Option Addr} {n : Nat} {xs : List S29} (h : Kd.C k29 w A n xs) (i : Int) (h0 : 0 ≤ i) (h1 : i < n) : ∃ ad A3 c3, A = some ad ∧ w.cell? (ad.add (i.toNat * 4)) = some (.int .i64 (rd_T29 xs i).f0) ∧ w.cell? ⟨(ad.add (i.toNat * 4)).block, (ad.add (i.toNat * 4)).off + 1, none⟩ = some (.int .i64 (rd_T29 xs i).f1) ∧ w.cell? ⟨(ad.add (i.toNat * 4)).block, (ad.add (i.toNat * 4)).off + 2, none⟩ = some (.int .i64 (rd_T29 xs i).f2) ∧ w.cell? ⟨(ad.add (i.toNat * 4)).block, (ad.add (i.toNat * 4)).off + 3, none⟩ = some (.slice A3 (rd_T29 xs i).f3.length c3) ∧ (rd_T29 xs i).f3.length ≤ c3 ∧ k29.C w A3 (rd_T29 xs i).f3.length (rd_T29 xs i).f3 := by
  obtain ⟨ad, c, e, _, hK, hc0⟩ := Kd.C_get h z29 i h0 h1
  have hc : ∀ j u, c[j]? = some u → w.cell? (ad.add (i.toNat * 4 + j)) = some u := hc0
  obtain ⟨A3, c3, rfl, l3, g3⟩ := k29_open hK
  exact ⟨ad, A3, c3, e, hc 0 _ rfl, by rw [← add_field _ _ 1 (by omega)]; exact hc 1 _ rfl, by rw [← add_field _ _ 2 (by omega)]; exact hc 2 _ rfl, by rw [← add_field _ _ 3 (by omega)]; exact hc 3 _ rfl, l3, g3⟩

end Go.Proofs.YtbcdfbiggjfmlaaDoor.M
namespace Go.Proofs.YtbcdfbiggjfmlaaDoor.M
set_option linter.unusedVariables false
set_option linter.unusedSimpArgs false
open Go Go.RowKit Go.Proofs.YtbcdfbiggjfmlaaDoorW.PrintWords Go.Proofs.YtbcdfbiggjfmlaaDoorW.PrintLast Go.Proofs.YtbcdfbiggjfmlaaDoorW.PrintMore

theorem keep_setRow {w : World} {g : Nat} (cs : Array Value) : KeepBut w (w.setRow g cs) g none := ⟨by simp [World.setRow], fun k _ hk _ => setRow_other w g k cs hk⟩
theorem store_blk {P : Program} {ops : Array Oper} {rest : List Oper} {o : Oper} {a : Act} {Q : Exit → Act → World → Prop} {W w0 : World} {base : Nat} (hgd : o.guard = none) (hN : o.dst = none) {t e : TypeId} {p : Tmp} {v : Operand} (ho : o.op = .store t (.tmp p) v) {g off : Nat} {cur cur' : Array Value} {u : Value} {seg : List Value}
    (hp : a.eval (.tmp p) = .pointer (some ⟨g, off, none⟩)) (hx : a.eval v = u) (hg : W.heap[g]? = some (.cells cur e (0, 0))) (hu : u.cells.toList = seg) (ht : (P.info? t).map (·.size) = some seg.length) (h1 : ∀ q ∈ seg, q.oneCell' = true) (hfit : off + seg.length ≤ cur.size) (hcur : (cur.toList.take off ++ seg ++ cur.toList.drop (off + seg.length)).toArray = cur')
    (hB : Below base w0 W) (hbg : base ≤ g)
    (h : ∀ w', w'.heap[g]? = some (.cells cur' e (0, 0)) → KeepBut W w' g none → Below base w0 w' → wpList P ops Q rest a w') : wpList P ops Q (o :: rest) a W := by
  obtain ⟨i, hi, hsz⟩ := Option.map_eq_some_iff.1 ht
  have hc : u.cells.size = i.size := by rw [hsz, ← hu, Array.length_toList]
  have hst := run_storeCells_at P g off e seg 0 cur W hg (by simpa using hfit) h1
  refine wpList_plain hgd fun K hK => ?_
  have hrun : (execOp a.eval o).run P W = .ok .skip (W.setRow g (cur.toList.take off ++ seg ++ cur.toList.drop (off + seg.length)).toArray) := by
    rw [Nat.add_zero] at hst
    simp [execOp, ho, hp, hx, Instr.storeAt, Instr.sureAddr, storeVar, sizeOf, typeInfo, hi, hc, hu, hst, Result.andThen]
  unfold Oper.wp
  rw [hrun]
  show K (a.put o.dst undef) _
  rw [hN]
  refine hK _ _ (h _ ?_ (keep_setRow _) (below_setRow hB hbg _))
  rw [setRow_heap W g cur _ e _ hg, hcur]
theorem blk_keep {w w1 : World} {g g' : Nat} {o : Obj} (h : w.heap[g']? = some o) (hk : KeepBut w w1 g none) (hne : g' ≠ g) : w1.heap[g']? = some o := (hk.2 g' (blk_lt h) hne (by simp)).trans h
end Go.Proofs.YtbcdfbiggjfmlaaDoor.M
namespace Go.Proofs.YtbcdfbiggjfmlaaDoor.M
open Go.RowKit Go.Proofs.YtbcdfbiggjfmlaaDoorW.PrintWords Go.Proofs.YtbcdfbiggjfmlaaDoorW.PrintLast Go.Proofs.YtbcdfbiggjfmlaaDoorW.PrintMore
attribute [local go_sem] max2_int min2_int max_two min_two max_three min_three max_four min_four
set_option linter.unusedVariables false
set_option linter.unusedSimpArgs false

def impl_in.f (a0 : Int) (a1 : Int) (a2 : Int) : Option (Bool) := if a1 ≤ a0 then (some (decide (a0 ≤ a2))) else (some false)
set_option maxHeartbeats 8000000 in
set_option maxRecDepth 100000 in
theorem impl_in.calls (a0 : Int) (a1 : Int) (a2 : Int) (r : Bool) (w : World) (h : impl_in.f a0 a1 a2 = some r) :
  Calls Tryd.prog 62 #[.int .i64 a0, .int .i64 a1, .int .i64 a2] w fun e w' => e = .returned (.bool r) ∧ Drawn0 w w' := by
 have H : (if a1 ≤ a0 then (some (decide (a0 ≤ a2))) else (some false)) = some r := h
 clear h
 by_cases c4 : a1 ≤ a0
 ·rw [if_pos c4] at H
  have c4b0 : decide (a1 ≤ a0) = true := decide_eq_true c4
  clear c4
  obtain rfl := Option.some.inj H
  go_enter Tryd.func62, Tryd.ntmps62
  go_wp2
  go_ret
  exact ⟨by first | rfl | (simp;done) | (simp [*];done), by repeat (first | exact Drawn0.refl _ | apply Drawn0.step)⟩
 ·rw [if_neg c4] at H
  have c4b0 : decide (a1 ≤ a0) = false := decide_eq_false c4
  clear c4
  obtain rfl := Option.some.inj H
  go_enter Tryd.func62, Tryd.ntmps62
  go_wp2
  go_ret
  exact ⟨by first | rfl | (simp;done) | (simp [*];done), by repeat (first | exact Drawn0.refl _ | apply Drawn0.step)⟩

def impl_isSym.f (a0 : Int) : Option (Bool) := (impl_in.f a0 0 4).bind fun t101 => (some t101)
set_option maxHeartbeats 8000000 in
set_option maxRecDepth 100000 in
theorem impl_isSym.calls (a0 : Int) (r : Bool) (w : World) (h : impl_isSym.f a0 = some r) :
  Calls Tryd.prog 61 #[.int .i64 a0] w fun e w' => e = .returned (.bool r) ∧ Drawn0 w w' := by
 have H : ((impl_in.f a0 0 4).bind fun t101 => (some t101)) = some r := h
 clear h
 replace H := Option.bind_eq_some_iff.mp H
 obtain ⟨t101, A20, H⟩ := H
 replace H : (some t101) = some r := H
 have A2 := m0_ A20
 clear A20
 obtain rfl := Option.some.inj H
 go_enter Tryd.func61, Tryd.ntmps61
 go_wp2_with (first | ((with_reducible refine gate_callee (f := 62) rfl ?_);refine goesL_ (some 4) rfl rfl Tryd.func62 (by kernel_rfl) rfl #[.int .i64 a0, .int .i64 0, .int .i64 4] rfl (by (try simp only [List.map_toArray, List.map_cons, List.map_nil]);first | done | rfl | (simp only [List.length_drop, List.length_take];rfl)) ?_;(with_reducible refine (impl_in.calls a0 0 4 t101 _ A2.out).mono ?_);rintro e w' ⟨rfl, ⟨nd, rfl⟩⟩;refine ⟨_, rfl, ?_⟩) | (go_at_call 62;(with_reducible refine (impl_in.calls a0 0 4 t101 _ A2.out).mono ?_);rintro e w' ⟨rfl, ⟨nd, rfl⟩⟩))
 go_ret
 exact ⟨by first | rfl | (simp;done) | (simp [*];done), by repeat (first | exact Drawn0.refl _ | apply Drawn0.step)⟩

def impl_letter.f (a0 : Int) : Option (ByteArray) := (impl_isSym.f a0).bind fun t101 => (if t101 = true then (if 0 ≤ a0 then (if a0 ≤ (wrap64 (a0 + 1)) then (if (wrap64 (a0 + 1)) ≤ 5 then (some ((⟨#[97, 98, 99, 100, 101]⟩ : ByteArray).extract (a0 : Int).toNat ((wrap64 (a0 + 1)) : Int).toNat)) else (none)) else (none)) else (none)) else (some (⟨#[63]⟩ : ByteArray)))
set_option maxHeartbeats 8000000 in
set_option maxRecDepth 100000 in
theorem impl_letter.calls (a0 : Int) (r : ByteArray) (w : World) (h : impl_letter.f a0 = some r) :
  Calls Tryd.prog 53 #[.int .i64 a0] w fun e w' => e = .returned (.string r) ∧ Drawn0 w w' := by
 have H : ((impl_isSym.f a0).bind fun t101 => (if t101 = true then (if 0 ≤ a0 then (if a0 ≤ (wrap64 (a0 + 1)) then (if (wrap64 (a0 + 1)) ≤ 5 then (some ((⟨#[97, 98, 99, 100, 101]⟩ : ByteArray).extract (a0 : Int).toNat ((wrap64 (a0 + 1)) : Int).toNat)) else (none)) else (none)) else (none)) else (some (⟨#[63]⟩ : ByteArray)))) = some r := h
 clear h
 replace H := Option.bind_eq_some_iff.mp H
 obtain ⟨t101, A20, H⟩ := H
 replace H : (if t101 = true then (if 0 ≤ a0 then (if a0 ≤ (wrap64 (a0 + 1)) then (if (wrap64 (a0 + 1)) ≤ 5 then (some ((⟨#[97, 98, 99, 100, 101]⟩ : ByteArray).extract (a0 : Int).toNat ((wrap64 (a0 + 1)) : Int).toNat)) else (none)) else (none)) else (none)) else (some (⟨#[63]⟩ : ByteArray))) = some r := H
 have A2 := m0_ A20
 clear A20
 by_cases c3 : t101 = true
 rotate_left
 ·replace c3 := Bool.eq_false_iff.mpr c3
  subst c3
  have H1 : (some (⟨#[63]⟩ : ByteArray)) = some r := by rw [if_neg (show ¬ (false = true) by decide)] at H;exact H
  clear H
  have H := H1
  clear H1
  obtain rfl := Option.some.inj H
  go_enter Tryd.func53, Tryd.ntmps53
  go_wp2_with (first | ((with_reducible refine gate_callee (f := 61) rfl ?_);refine goesL_ (some 4) rfl rfl Tryd.func61 (by kernel_rfl) rfl #[.int .i64 a0] rfl (by (try simp only [List.map_toArray, List.map_cons, List.map_nil]);first | done | rfl | (simp only [List.length_drop, List.length_take];rfl)) ?_;(with_reducible refine (impl_isSym.calls a0 false _ A2.out).mono ?_);rintro e w' ⟨rfl, ⟨nd, rfl⟩⟩;refine ⟨_, rfl, ?_⟩) | (go_at_call 61;(with_reducible refine (impl_isSym.calls a0 false _ A2.out).mono ?_);rintro e w' ⟨rfl, ⟨nd, rfl⟩⟩))
  go_ret
  exact ⟨by first | rfl | (simp;done) | (simp [*];done), by repeat (first | exact Drawn0.refl _ | apply Drawn0.step)⟩
 subst c3
 have H1 : (if 0 ≤ a0 then (if a0 ≤ (wrap64 (a0 + 1)) then (if (wrap64 (a0 + 1)) ≤ 5 then (some ((⟨#[97, 98, 99, 100, 101]⟩ : ByteArray).extract (a0 : Int).toNat ((wrap64 (a0 + 1)) : Int).toNat)) else (none)) else (none)) else (none)) = some r := by rw [if_pos rfl] at H;exact H
 clear H
 have H := H1
 clear H1
 by_cases c4 : 0 ≤ a0
 rotate_left
 ·rw [if_neg c4] at H
  exact absurd H (by simp)
 rw [if_pos c4] at H
 have c4b0 := eq_true c4
 have c4b1 : decide (0 ≤ a0) = true := decide_eq_true c4
 clear c4
 by_cases c5 : a0 ≤ (wrap64 (a0 + 1))
 ·rw [if_pos c5] at H
  have c5b0 := eq_true c5
  have c5b1 : decide (a0 ≤ (wrap64 (a0 + 1))) = true := decide_eq_true c5
  by_cases c6 : (wrap64 (a0 + 1)) ≤ 5
  ·rw [if_pos c6] at H
   have c6b0 := eq_true c6
   have c6b1 : decide ((wrap64 (a0 + 1)) ≤ 5) = true := decide_eq_true c6
   obtain rfl := Option.some.inj H
   go_enter Tryd.func53, Tryd.ntmps53
   go_wp2_with (first | ((with_reducible refine gate_callee (f := 61) rfl ?_);refine goesL_ (some 4) rfl rfl Tryd.func61 (by kernel_rfl) rfl #[.int .i64 a0] rfl (by (try simp only [List.map_toArray, List.map_cons, List.map_nil]);first | done | rfl | (simp only [List.length_drop, List.length_take];rfl)) ?_;(with_reducible refine (impl_isSym.calls a0 true _ A2.out).mono ?_);rintro e w' ⟨rfl, ⟨nd, rfl⟩⟩;refine ⟨_, rfl, ?_⟩) | (go_at_call 61;(with_reducible refine (impl_isSym.calls a0 true _ A2.out).mono ?_);rintro e w' ⟨rfl, ⟨nd, rfl⟩⟩))
   go_ret
   exact ⟨by first | rfl | (simp;done) | (simp [*];done), by repeat (first | exact Drawn0.refl _ | apply Drawn0.step)⟩
  ·rw [if_neg c6] at H
   exact absurd H (by simp)
 ·rw [if_neg c5] at H
  exact absurd H (by simp)

end Go.Proofs.YtbcdfbiggjfmlaaDoor.M
namespace Go.Proofs.YtbcdfbiggjfmlaaDoor.M
open Go.RowKit Go.Proofs.YtbcdfbiggjfmlaaDoorW.PrintWords Go.Proofs.YtbcdfbiggjfmlaaDoorW.PrintLast Go.Proofs.YtbcdfbiggjfmlaaDoorW.PrintMore
theorem bx4 {w : World} {g : Nat} {t : TypeId} {v0 v1 v2 v3 : Value} (h : w.heap[g]? = some (.cells #[v0, v1, v2, v3] t (0, 0))) : w.cell? ⟨g, 0, none⟩ = some v0 ∧ w.cell? ⟨g, 1, none⟩ = some v1 ∧ w.cell? ⟨g, 2, none⟩ = some v2 ∧ w.cell? ⟨g, 3, none⟩ = some v3 ∧ w.frozen? ⟨g, 0, none⟩ = false ∧ w.frozen? ⟨g, 1, none⟩ = false ∧ w.frozen? ⟨g, 2, none⟩ = false ∧ w.frozen? ⟨g, 3, none⟩ = false := ⟨(blk_cell h 0).trans rfl, (blk_cell h 1).trans rfl, (blk_cell h 2).trans rfl, (blk_cell h 3).trans rfl, blk_frozen h 0, blk_frozen h 1, blk_frozen h 2, blk_frozen h 3⟩
section
variable {P : Program} {ops : Array Oper} {Q : Exit → Act → World → Prop} {md : Region.Mode} {S : World → Prop} {ds : List Nat}
theorem pu_ {oi : Oper} {fuel : Nat} {l : Array Bool} {a a' : Act} {w : World} (i N : Nat) (l' : Array Bool) (hc : anyB md ops l l' i = true) (h : wpAnyLast P md ops Q S ds fuel l' a' w) (hi : ops[i]? = some oi := by rfl) (hN : oi.dst = some N := by rfl)
    (hw : Region.wanted oi (yielded ops a.tmps) = false := by rfl) (hQ : ∀ c a w, Q (.panic c) (a.put oi.dst undef) w → Q (.panic c) a w := by exact fun _ _ _ h => h) (ha : a.put (some N) undef = a' := by simp only [Act.put, List.setIfInBounds_toArray, List.set_cons_zero, List.set_cons_succ, i64_w, i32_w]; rfl) : wpAnyLast P md ops Q S ds (fuel + 1) l a w :=
  pure_ l' hi hN hc hQ (Or.inr ⟨hw, rfl⟩) ha h
theorem pv_ {oi : Oper} {v : Value} {fuel : Nat} {l : Array Bool} {a a' : Act} {w : World} (i N : Nat) (l' : Array Bool) (hc : anyB md ops l l' i = true) (h : wpAnyLast P md ops Q S ds fuel l' a' w) (hi : ops[i]? = some oi := by rfl) (hN : oi.dst = some N := by rfl)
    (hw : Region.wanted oi (yielded ops a.tmps) = true := by rfl) (hQ : ∀ c a w, Q (.panic c) (a.put oi.dst v) w → Q (.panic c) a w := by exact fun _ _ _ h => h) (hy : ∀ w', (execOp a.eval oi).run P w' = .ok (.value v) w' := by intro w'; go_simp; with_reducible rfl) (ha : a.put (some N) v = a' := by simp only [Act.put, List.setIfInBounds_toArray, List.set_cons_zero, List.set_cons_succ, i64_w, i32_w]; rfl) : wpAnyLast P md ops Q S ds (fuel + 1) l a w :=
  pure_ l' hi hN hc hQ (Or.inl ⟨hw, hy⟩) ha h
end
end Go.Proofs.YtbcdfbiggjfmlaaDoor.M
namespace Go.Proofs.YtbcdfbiggjfmlaaDoor.M
open Go.RowKit Go.Proofs.YtbcdfbiggjfmlaaDoorW.PrintWords Go.Proofs.YtbcdfbiggjfmlaaDoorW.PrintLast Go.Proofs.YtbcdfbiggjfmlaaDoorW.PrintMore
attribute [local go_sem] max2_int min2_int max_two min_two max_three min_three max_four min_four
set_option linter.unusedVariables false
set_option linter.unusedSimpArgs false

mutual
def impl_Ex_size.l0 : Nat → Int → Int → List (S29) → Int → Int → Option (Int × Int)
 | 0, _, _, _, _, _ => none
 | k + 1, x4, x5, x11, x12, x13 => if x13 < x12 then (if 0 ≤ x13 then (if x13 < (x11.length : Int) then ((impl_Ex_size.f k ((rd_T29 x11 x13).f0) ((rd_T29 x11 x13).f1) ((rd_T29 x11 x13).f2) ((rd_T29 x11 x13).f3)).bind fun bt104 => (impl_Ex_size.l0 k (wrap64 (x4 + bt104.1)) (mx x5 (wrap64 (bt104.2 + 1))) x11 x12 (wrap64 (x13 + 1)))) else (none)) else (none)) else (some (x4, x5))
def impl_Ex_size.f : Nat → Int → Int → Int → List (S29) → Option (Int × Int)
 | 0, _, _, _, _ => none
 | k + 1, a0_0, a0_1, a0_2, l0_3 => impl_Ex_size.l0 k 1 1 l0_3 (l0_3.length : Int) 0
end
set_option maxHeartbeats 8000000 in
set_option maxRecDepth 100000 in
theorem impl_Ex_size.calls (k : Nat) : ∀ (a0_0 : Int) (a0_1 : Int) (a0_2 : Int) (A0_3 : Option Addr) (c0_3 : Nat) (l0_3 : List (S29)) (r1 : Int) (r2 : Int) (w : World) (hr0_3 : Kd.C k29 w A0_3 l0_3.length l0_3) (hc0_3 : l0_3.length ≤ c0_3) (h : impl_Ex_size.f k a0_0 a0_1 a0_2 l0_3 = some (r1, r2)),
  Calls Tryd.prog 37 #[.agg #[.int .i64 a0_0, .int .i64 a0_1, .int .i64 a0_2, .slice A0_3 l0_3.length c0_3]] w fun e w' => e = .returned (.tuple #[.int .i64 r1, .int .i64 r2]) ∧ Below w.heap.size w w' := by
 induction k using Nat.strongRecOn with
 | _ k ih =>
 intro a0_0 a0_1 a0_2 A0_3 c0_3 l0_3 r1 r2 w hr0_3 hc0_3 h
 cases k with
 | zero => exact absurd h (by simp [impl_Ex_size.f])
 | succ k =>
 simp only [impl_Ex_size.f] at h
 have hu29 := Tryd.underlying29
 have HR0_3 := m0_ hr0_3
 have HC0_3 := m0_ hc0_3
 clear hr0_3 hc0_3
 have HB := m0_ (Below.refl w.heap.size w)
 have H : (impl_Ex_size.l0 k 1 1 l0_3 (l0_3.length : Int) 0) = some (r1, r2) := h
 clear h
 have H' := m0_ H
 clear H
 go_enter Tryd.func37, Tryd.ntmps37
 go_wp2_with (first | ((with_reducible refine gate_dst (N := 1) rfl ?_);refine box_event ?hg (N := 1) ?hd (cs := #[.int .i64 a0_0, .int .i64 a0_1, .int .i64 a0_2, .slice A0_3 l0_3.length c0_3]) (t := 29) ?hr ?_;(case hd => rfl);(case hg => rfl);(case hr => first | (go_simp;done) | (go_simp;rfl));intro gb101 hg w2 hbox hb;have BK101 := m0_ (hbox);have GW101 := m0_ ((by rw [hg];exact (below_size (by repeat (first | (with_reducible first | exact HB.out | apply below_alloc | apply pw_below_drewN | apply below_drew1) | exact HB.out))) : w.heap.size ≤ gb101));have GE101 := m0_ ((by rw [hg];exact (below_size (by repeat (first | (with_reducible first | exact HB.out | apply below_alloc | apply pw_below_drewN | apply below_drew1) | exact HB.out))) : w.heap.size ≤ gb101));replace HB := m0_ (below_step (by repeat (first | (with_reducible first | exact HB.out | apply below_alloc | apply pw_below_drewN | apply below_drew1) | exact HB.out)) hb);clear hb hbox hg;obtain ⟨hcz3_0, hcz3_1, hcz3_2, hcz3_3, hfz3_0, hfz3_1, hfz3_2, hfz3_3⟩ := bx4 BK101.out))
 go_loopg [4, 5, 13] k (fun kq v4 v5 v13 w' => ∃ (x4_1 : Int) (x5_1 : Int) (x13_1 : Int), v4 = .int .i64 x4_1 ∧ v5 = .int .i64 x5_1 ∧ v13 = .int .i64 x13_1 ∧ Aside0 (impl_Ex_size.l0 kq x4_1 x5_1 l0_3 (l0_3.length : Int) x13_1 = some (r1, r2)) ∧ Aside0 (kq ≤ k) ∧ Aside0 (w'.heap[gb101]? = some (.cells #[.int .i64 a0_0, .int .i64 a0_1, .int .i64 a0_2, (.slice A0_3 l0_3.length c0_3)] 29 (0, 0))) ∧ Aside0 (Below w.heap.size w w'))
 case atStart => exact ⟨(1), (1), (0), (by first | rfl | (simp;done) | (simp [*];done)), (by first | rfl | (simp;done) | (simp [*];done)), (by first | rfl | (simp;done) | (simp [*];done)), H', ⟨Nat.le_refl _⟩, ⟨by (with_reducible repeat (first | refine blk_drewN ?_ _ | refine blk_drew ?_ | refine blk_alloc ?_ _));exact BK101.out⟩, ⟨by repeat (first | (with_reducible first | exact HB.out | apply below_alloc | apply pw_below_drewN | apply below_drew1 | refine below_set ?_ GE101.out) | exact HB.out)⟩⟩
 case round =>
  clear H'
  try clear p2
  try clear c3
  try clear hcz3_0
  try clear hcz3_1
  try clear hcz3_2
  try clear hcz3_3
  try clear hfz3_0
  try clear hfz3_1
  try clear hfz3_2
  try clear hfz3_3
  obtain ⟨x4_1, x5_1, x13_1, rfl, rfl, rfl, HA, HK1, BK101, HB⟩ := hrel
  cases gk with
  | zero => exact absurd HA.out (by simp [impl_Ex_size.l0])
  | succ k1 =>
   have H := HA.out
   clear HA
   simp only [impl_Ex_size.l0] at H
   by_cases c4 : x13_1 < (l0_3.length : Int)
   rotate_left
   ·rw [if_neg c4] at H
    have c4b0 : decide (x13_1 < (l0_3.length : Int)) = false := decide_eq_false c4
    clear c4
    simp only [Option.some.injEq, Prod.mk.injEq] at H
    obtain ⟨rfl, rfl⟩ := H
    go_wp2
    go_ret2
    exact ⟨by first | rfl | (simp [errW_none, errW_some] <;> rfl) | (simp [*, errW_none, errW_some] <;> rfl), by repeat (first | (with_reducible first | exact HB.out | apply below_alloc | apply pw_below_drewN | apply below_drew1 | refine below_set ?_ GE101.out) | exact HB.out)⟩
   rw [if_pos c4] at H
   have c4b0 : decide (x13_1 < (l0_3.length : Int)) = true := decide_eq_true c4
   clear c4
   by_cases c5 : 0 ≤ x13_1
   rotate_left
   ·rw [if_neg c5] at H
    exact absurd H (by simp)
   rw [if_pos c5] at H
   have c5b0 : decide (0 ≤ x13_1) = true := decide_eq_true c5
   clear c5
   by_cases c6 : x13_1 < (l0_3.length : Int)
   rotate_left
   ·rw [if_neg c6] at H
    exact absurd H (by simp)
   rw [if_pos c6] at H
   have c6b0 : decide (x13_1 < (l0_3.length : Int)) = true := decide_eq_true c6
   clear c6
   replace H := Option.bind_eq_some_iff.mp H
   obtain ⟨⟨t104, t105⟩, A70, H⟩ := H
   replace H : (impl_Ex_size.l0 k1 (wrap64 (x4_1 + t104)) (mx x5_1 (wrap64 (t105 + 1))) l0_3 (l0_3.length : Int) (wrap64 (x13_1 + 1))) = some (r1, r2) := H
   have A7 := m0_ A70
   clear A70
   obtain ⟨ji8, hji8⟩ : ∃ j_ : Int, (mx x5_1 (wrap64 (t105 + 1))) = j_ := ⟨_, rfl⟩
   replace H : (impl_Ex_size.l0 k1 (wrap64 (x4_1 + t104)) ji8 l0_3 (l0_3.length : Int) (wrap64 (x13_1 + 1))) = some (r1, r2) := by first | (rw [hji8] at H;exact H) | (simp only [hji8] at H ⊢;exact H)
   (try rw [hji8] at A7)
   have hji8_ : (if x5_1 < (wrap64 (t105 + 1)) then (wrap64 (t105 + 1)) else x5_1) = ji8 := hji8
   have H' := m0_ H
   clear H
   have p102 : 0 ≤ (x13_1 : Int) := of_decide_eq_true (by first | (with_reducible assumption) | assumption)
   have q102 : x13_1 < (l0_3.length : Int) := of_decide_eq_true (by first | (with_reducible assumption) | assumption)
   obtain ⟨ad102, A102_3, c102_3, e102, hx102_0, hx102_1, hx102_2, hx102_3, hl102_3, hi102_3⟩ := at_T29 HR0_3.out x13_1 p102 q102
   cases e102
   replace hx102_0 := (HB.out.cell (World.block_lt_of_cell? w _ hx102_0)).trans hx102_0
   replace hx102_1 := (HB.out.cell (World.block_lt_of_cell? w _ hx102_1)).trans hx102_1
   replace hx102_2 := (HB.out.cell (World.block_lt_of_cell? w _ hx102_2)).trans hx102_2
   replace hx102_3 := (HB.out.cell (World.block_lt_of_cell? w _ hx102_3)).trans hx102_3
   have HR102_3 := m0_ hi102_3
   have HC102_3 := m0_ hl102_3
   clear hi102_3 hl102_3
   replace p102 := eq_true p102
   replace q102 := eq_true q102
   go_wp2_with (first | ((with_reducible refine gate_dst (N := 7) rfl ?_);refine box_event ?hg (N := 7) ?hd (cs := #[.int .i64 0, .int .i64 0, .int .i64 0, .slice none 0 0]) (t := 29) ?hr ?_;(case hd => rfl);(case hg => rfl);(case hr => first | (go_simp;done) | (go_simp;rfl));intro gb103 hg w9 hbox hb;have BK103 := m0_ (hbox);have GW103 := m0_ ((by rw [hg];exact (below_size (by repeat (first | (with_reducible first | exact HB.out | apply below_alloc | apply pw_below_drewN | apply below_drew1 | refine below_set ?_ GE101.out) | exact HB.out))) : w.heap.size ≤ gb103));have GE103 := m0_ ((by rw [hg];exact (below_size (by repeat (first | (with_reducible first | exact HB.out | apply below_alloc | apply pw_below_drewN | apply below_drew1 | refine below_set ?_ GE101.out) | exact HB.out))) : w.heap.size ≤ gb103));replace HB := m0_ (below_step (by repeat (first | (with_reducible first | exact HB.out | apply below_alloc | apply pw_below_drewN | apply below_drew1 | refine below_set ?_ GE101.out) | exact HB.out)) hb);have NB101_103 := m0_ ((by rw [hg];exact Nat.ne_of_lt (blk_lt BK101.out) : gb101 ≠ gb103));have NB103_101 := m0_ ((by rw [hg];exact Nat.ne_of_gt (blk_lt BK101.out) : gb103 ≠ gb101));replace BK101 := m0_ (blk_below BK101.out hb);clear hb hbox hg;have hnb10 := NB103_101.out;have hnc10 := NB101_103.out;obtain ⟨hcz11_0, hcz11_1, hcz11_2, hcz11_3, hfz11_0, hfz11_1, hfz11_2, hfz11_3⟩ := bx4 BK103.out) | ((with_reducible refine gate_callee (f := 37) rfl ?_);refine goesL_ (some 19) rfl rfl Tryd.func37 (by kernel_rfl) rfl #[.agg #[.int .i64 ((rd_T29 l0_3 x13_1).f0), .int .i64 ((rd_T29 l0_3 x13_1).f1), .int .i64 ((rd_T29 l0_3 x13_1).f2), .slice A102_3 ((rd_T29 l0_3 x13_1).f3).length c102_3]] rfl (by (try simp only [List.map_toArray, List.map_cons, List.map_nil]);first | done | rfl | (simp only [List.length_drop, List.length_take];rfl)) ?_;(with_reducible refine (ih k1 (by have := HK1.out;omega) ((rd_T29 l0_3 x13_1).f0) ((rd_T29 l0_3 x13_1).f1) ((rd_T29 l0_3 x13_1).f2) _ _ ((rd_T29 l0_3 x13_1).f3) t104 t105 _ ?side1 ?side2 A7.out).mono ?_);(case side1 => exact Kd.C_below HR102_3.out (by repeat (first | (with_reducible first | exact HB.out | apply below_alloc | apply pw_below_drewN | apply below_drew1 | refine below_set ?_ GE101.out | refine below_set ?_ GE103.out) | exact HB.out)));(case side2 => exact HC102_3.out);rintro e w12 ⟨rfl, hb⟩;refine ⟨_, rfl, ?_⟩;replace BK101 := m0_ (blk_below (g := gb101) (o := .cells #[.int .i64 a0_0, .int .i64 a0_1, .int .i64 a0_2, .slice (some ad102) l0_3.length c0_3] 29 (0, 0)) (by (with_reducible repeat (first | refine blk_drewN ?_ _ | refine blk_drew ?_ | refine blk_alloc ?_ _));refine blk_far ?_ NB101_103.out _;(with_reducible repeat (first | refine blk_drewN ?_ _ | refine blk_drew ?_ | refine blk_alloc ?_ _));refine blk_far ?_ NB101_103.out _;(with_reducible repeat (first | refine blk_drewN ?_ _ | refine blk_drew ?_ | refine blk_alloc ?_ _));refine blk_far ?_ NB101_103.out _;(with_reducible repeat (first | refine blk_drewN ?_ _ | refine blk_drew ?_ | refine blk_alloc ?_ _));refine blk_far ?_ NB101_103.out _;(with_reducible repeat (first | refine blk_drewN ?_ _ | refine blk_drew ?_ | refine blk_alloc ?_ _));exact BK101.out) hb);replace BK103 := m0_ (blk_below (g := gb103) (o := .cells #[.int .i64 ((rd_T29 l0_3 x13_1).f0), .int .i64 ((rd_T29 l0_3 x13_1).f1), .int .i64 ((rd_T29 l0_3 x13_1).f2), .slice A102_3 ((rd_T29 l0_3 x13_1).f3).length c102_3] 29 (0, 0)) (by (with_reducible repeat (first | refine blk_drewN ?_ _ | refine blk_drew ?_ | refine blk_alloc ?_ _));refine blk_put (cs := #[.int .i64 ((rd_T29 l0_3 x13_1).f0), .int .i64 ((rd_T29 l0_3 x13_1).f1), .int .i64 ((rd_T29 l0_3 x13_1).f2), .slice none 0 0]) ?_ 3 _ rfl;(with_reducible repeat (first | refine blk_drewN ?_ _ | refine blk_drew ?_ | refine blk_alloc ?_ _));refine blk_put (cs := #[.int .i64 ((rd_T29 l0_3 x13_1).f0), .int .i64 ((rd_T29 l0_3 x13_1).f1), .int .i64 0, .slice none 0 0]) ?_ 2 _ rfl;(with_reducible repeat (first | refine blk_drewN ?_ _ | refine blk_drew ?_ | refine blk_alloc ?_ _));refine blk_put (cs := #[.int .i64 ((rd_T29 l0_3 x13_1).f0), .int .i64 0, .int .i64 0, .slice none 0 0]) ?_ 1 _ rfl;(with_reducible repeat (first | refine blk_drewN ?_ _ | refine blk_drew ?_ | refine blk_alloc ?_ _));refine blk_put (cs := #[.int .i64 0, .int .i64 0, .int .i64 0, .slice none 0 0]) ?_ 0 _ rfl;(with_reducible repeat (first | refine blk_drewN ?_ _ | refine blk_drew ?_ | refine blk_alloc ?_ _));exact BK103.out) hb);replace HB := m0_ (below_step (by repeat (first | (with_reducible first | exact HB.out | apply below_alloc | apply pw_below_drewN | apply below_drew1 | refine below_set ?_ GE101.out | refine below_set ?_ GE103.out) | exact HB.out)) hb);(try clear hb);(try clear hb2);(try clear hk);(try clear hi)))
   go_roundg k1
   case measure => have := HK1.out;omega
   case rel => exact ⟨(wrap64 (x4_1 + t104)), (ji8), (wrap64 (x13_1 + 1)), (by first | rfl | (simp;done) | (simp [*];done)), (by first | rfl | (simp;done) | (simp only [← hji8] <;> (first | rfl | simp)) | (simp [*];done)), (by first | rfl | (simp;done) | (simp [*];done)), H', ⟨by have := HK1.out;omega⟩, ⟨by (with_reducible repeat (first | refine blk_drewN ?_ _ | refine blk_drew ?_ | refine blk_alloc ?_ _));exact BK101.out⟩, ⟨by repeat (first | (with_reducible first | exact HB.out | apply below_alloc | apply pw_below_drewN | apply below_drew1 | refine below_set ?_ GE101.out | refine below_set ?_ GE103.out) | exact HB.out)⟩⟩

def impl_isKind.f (a0 : Int) : Option (Bool) := (impl_in.f a0 1 7).bind fun t101 => (some t101)
set_option maxHeartbeats 8000000 in
set_option maxRecDepth 100000 in
theorem impl_isKind.calls (a0 : Int) (r : Bool) (w : World) (h : impl_isKind.f a0 = some r) :
  Calls Tryd.prog 59 #[.int .i64 a0] w fun e w' => e = .returned (.bool r) ∧ Drawn0 w w' := by
 have H : ((impl_in.f a0 1 7).bind fun t101 => (some t101)) = some r := h
 clear h
 replace H := Option.bind_eq_some_iff.mp H
 obtain ⟨t101, A20, H⟩ := H
 replace H : (some t101) = some r := H
 have A2 := m0_ A20
 clear A20
 obtain rfl := Option.some.inj H
 go_enter Tryd.func59, Tryd.ntmps59
 go_wp2_with (first | ((with_reducible refine gate_callee (f := 62) rfl ?_);refine goesL_ (some 4) rfl rfl Tryd.func62 (by kernel_rfl) rfl #[.int .i64 a0, .int .i64 1, .int .i64 7] rfl (by (try simp only [List.map_toArray, List.map_cons, List.map_nil]);first | done | rfl | (simp only [List.length_drop, List.length_take];rfl)) ?_;(with_reducible refine (impl_in.calls a0 1 7 t101 _ A2.out).mono ?_);rintro e w' ⟨rfl, ⟨nd, rfl⟩⟩;refine ⟨_, rfl, ?_⟩) | (go_at_call 62;(with_reducible refine (impl_in.calls a0 1 7 t101 _ A2.out).mono ?_);rintro e w' ⟨rfl, ⟨nd, rfl⟩⟩))
 go_ret
 exact ⟨by first | rfl | (simp;done) | (simp [*];done), by repeat (first | exact Drawn0.refl _ | apply Drawn0.step)⟩

def impl_kids.f (a0 : Int) : Option (Int) := (some (([0, 0, 2, 2, 2, 3, 3, 1] : List Int) : List Int)).bind fun y101 => (if 0 ≤ a0 then (if a0 < (y101.length : Int) then (some (rd y101 a0)) else (none)) else (none))
set_option maxHeartbeats 8000000 in
set_option maxRecDepth 100000 in
theorem impl_kids.calls (a0 : Int) (r : Int) (w : World) (h : impl_kids.f a0 = some r) :
  Calls Tryd.prog 60 #[.int .i64 a0] w fun e w' => e = .returned (.int .i64 r) ∧ Below w.heap.size w w' := by
 have HB := m0_ (Below.refl w.heap.size w)
 have H : ((some (([0, 0, 2, 2, 2, 3, 3, 1] : List Int) : List Int)).bind fun y101 => (if 0 ≤ a0 then (if a0 < (y101.length : Int) then (some (rd y101 a0)) else (none)) else (none))) = some r := h
 clear h
 obtain ⟨y101, hy101⟩ : ∃ y_ : List Int, y_ = (([0, 0, 2, 2, 2, 3, 3, 1] : List Int)) := ⟨_, rfl⟩
 replace H : (if 0 ≤ a0 then (if a0 < (y101.length : Int) then (some (rd y101 a0)) else (none)) else (none)) = some r := by first | (rw [hy101];with_reducible exact H) | (have H2_ := (Option.bind_some _ _).symm.trans H;rw [hy101];with_reducible exact H2_) | (have H2_ := (Option.bind_some _ _).symm.trans H;with_reducible exact H2_) | with_reducible exact H | (rw [hy101];exact H) | exact H
 have Ny101 := m0_ hy101
 clear hy101
 by_cases c2 : 0 ≤ a0
 ·rw [if_pos c2] at H
  have c2b0 : decide (0 ≤ a0) = true := decide_eq_true c2
  clear c2
  by_cases c3 : a0 < (y101.length : Int)
  ·rw [if_pos c3] at H
   have c3b0 : decide (a0 < (y101.length : Int)) = true := decide_eq_true c3
   clear c3
   obtain rfl := Option.some.inj H
   go_enter Tryd.func60, Tryd.ntmps60
   go_wp2_with (first | ((with_reducible refine gate_dst (N := 3) rfl ?_);refine Kd.R_lit (Kd.int .i64) _ 3 ?hg (N := 3) ?hd (xs := ([0, 0, 2, 2, 2, 3, 3, 1] : List Int)) (inner := [.int .i64 0, .int .i64 0, .int .i64 2, .int .i64 2, .int .i64 2, .int .i64 3, .int .i64 3, .int .i64 1]) (ok := fun _ => True) (okp := fun _ => True) ?hr ?hp (fun _ hk => hk) trivial (Below.refl _ _) (Nat.le_refl _) (by simp) ?_;(case hd => rfl);(case hg => rfl);(case hr => first | (go_simp;done) | (go_simp;rfl));(case hp => exact (Reps.one (show Kd.M (Kd.int .i64) _ _ _ 0 [.int .i64 0] from rfl) (Reps.one (show Kd.M (Kd.int .i64) _ _ _ 0 [.int .i64 0] from rfl) (Reps.one (show Kd.M (Kd.int .i64) _ _ _ 2 [.int .i64 2] from rfl) (Reps.one (show Kd.M (Kd.int .i64) _ _ _ 2 [.int .i64 2] from rfl) (Reps.one (show Kd.M (Kd.int .i64) _ _ _ 2 [.int .i64 2] from rfl) (Reps.one (show Kd.M (Kd.int .i64) _ _ _ 3 [.int .i64 3] from rfl) (Reps.one (show Kd.M (Kd.int .i64) _ _ _ 3 [.int .i64 3] from rfl) (Reps.one (show Kd.M (Kd.int .i64) _ _ _ 1 [.int .i64 1] from rfl) (Reps.none _ _))))))))));intro v102 w4 ho5 hb hg_ hnew_;clear hg_ hnew_;(first | rw [← Ny101.out] at ho5 | (simp only [Int.reduceToNat] at ho5;rw [← Ny101.out] at ho5));have HO103 := m0_ (Kd.R_lower ho5 (below_size (by exact HB.out)));replace HB := m0_ (below_step (by exact HB.out) hb);clear hb ho5;obtain ⟨Ao6, co6, eo6⟩ := Kd.R_slice HO103.out;subst eo6;have p104 : 0 ≤ (a0 : Int) := of_decide_eq_true (by first | (with_reducible assumption) | assumption);have q104 : a0 < (y101.length : Int) := of_decide_eq_true (by first | (with_reducible assumption) | assumption);obtain ⟨ad104, e104, hx104_0⟩ := Kd.at_int (Kd.R_reads' HO103.out).2.2 a0 p104 q104;cases e104;replace p104 := eq_true p104;replace q104 := eq_true q104))
   go_ret
   exact ⟨by first | rfl | (simp [errW_none, errW_some] <;> rfl) | (simp [*, errW_none, errW_some] <;> rfl), by repeat (first | (with_reducible first | exact HB.out | apply below_alloc | apply pw_below_drewN | apply below_drew1) | exact HB.out)⟩
  ·rw [if_neg c3] at H
   exact absurd H (by simp)
 ·rw [if_neg c2] at H
  exact absurd H (by simp)

mutual
def impl_Ex_formed_1.f : Nat → Int → Int → Int → List (S29) → Option (Bool)
 | 0, _, _, _, _ => none
 | k + 1, a0_0, a0_1, a0_2, l0_3 => (impl_Ex_formed.f k a0_0 a0_1 a0_2 l0_3).bind fun t102 => (some (!t102))
def impl_Ex_75.l0 : Nat → List (S29) → Int → Int → Option (Int)
 | 0, _, _, _ => none
 | k + 1, x0, x7, x8 => if x8 < x7 then (if 0 ≤ x8 then (if x8 < (x0.length : Int) then ((impl_Ex_formed_1.f k ((rd_T29 x0 x8).f0) ((rd_T29 x0 x8).f1) ((rd_T29 x0 x8).f2) ((rd_T29 x0 x8).f3)).bind fun t104 => (if t104 = true then (some x8) else (impl_Ex_75.l0 k x0 x7 (wrap64 (x8 + 1))))) else (none)) else (none)) else (some (-1))
def impl_Ex_75.f : Nat → List (S29) → Option (Int)
 | 0, _ => none
 | k + 1, l0 => impl_Ex_75.l0 k l0 (l0.length : Int) 0
def impl_Ex_63.f : Nat → List (S29) → Option (Bool)
 | 0, _ => none
 | k + 1, l0 => (impl_Ex_75.f k l0).bind fun t105 => (some (decide (t105 ≥ 0)))
def impl_Ex_formed.j0 : Nat → Bool → Int → Int → Int → List (S29) → Option (Bool)
 | 0, _, _, _, _, _ => none
 | k + 1, x15, x107000, x107001, x107002, x107003 => if x15 = true then (some false) else (if x107000 = 1 then ((impl_isSym.f x107001).bind fun t109 => (if t109 = true then (impl_Ex_formed.j1 k false x107000 x107001 x107002 x107003) else (impl_Ex_formed.j1 k true x107000 x107001 x107002 x107003))) else (impl_Ex_formed.j1 k (x107001 != 0) x107000 x107001 x107002 x107003))
def impl_Ex_formed.j1 : Nat → Bool → Int → Int → Int → List (S29) → Option (Bool)
 | 0, _, _, _, _, _ => none
 | k + 1, x34, x107000, x107001, x107002, x107003 => if x34 = true then (some false) else (if x107000 = 7 then ((impl_in.f x107002 1 20).bind fun t110 => (if t110 = true then ((impl_Ex_63.f k x107003).bind fun t111 => (some (!t111))) else (some false))) else (if x107002 = 0 then ((impl_Ex_63.f k x107003).bind fun t112 => (some (!t112))) else (some false)))
def impl_Ex_formed.f : Nat → Int → Int → Int → List (S29) → Option (Bool)
 | 0, _, _, _, _ => none
 | k + 1, a0_0, a0_1, a0_2, l0_3 => (impl_isKind.f a0_0).bind fun t107 => (if t107 = true then ((impl_kids.f a0_0).bind fun t108 => (impl_Ex_formed.j0 k ((l0_3.length : Int) != t108) a0_0 a0_1 a0_2 l0_3)) else (impl_Ex_formed.j0 k true a0_0 a0_1 a0_2 l0_3))
end
set_option maxHeartbeats 8000000 in
set_option maxRecDepth 100000 in
theorem impl_Ex_formed_1.calls_step (k : Nat) (ih_64 : ∀ k_, k_ < k → ∀ (a0_0 : Int) (a0_1 : Int) (a0_2 : Int) (A0_3 : Option Addr) (c0_3 : Nat) (l0_3 : List (S29)) (r : Bool) (w : World) (hr0_3 : Kd.C k29 w A0_3 l0_3.length l0_3) (hc0_3 : l0_3.length ≤ c0_3) (h : impl_Ex_formed_1.f k_ a0_0 a0_1 a0_2 l0_3 = some r),
  Calls Tryd.prog 64 #[.agg #[.int .i64 a0_0, .int .i64 a0_1, .int .i64 a0_2, .slice A0_3 l0_3.length c0_3]] w fun e w' => e = .returned (.bool r) ∧ Below w.heap.size w w') (ih_75 : ∀ k_, k_ < k → ∀ (A0 : Option Addr) (c0 : Nat) (l0 : List (S29))  (r : Int) (w : World) (hr0 : Kd.C k29 w A0 l0.length l0) (hc0 : l0.length ≤ c0) (h : impl_Ex_75.f k_ l0 = some r),
  Calls Tryd.prog 75 #[.slice A0 l0.length c0, .func (.func 64) #[] #[]] w fun e w' => e = .returned (.int .i64 r) ∧ Below w.heap.size w w') (ih_63 : ∀ k_, k_ < k → ∀ (A0 : Option Addr) (c0 : Nat) (l0 : List (S29))  (r : Bool) (w : World) (hr0 : Kd.C k29 w A0 l0.length l0) (hc0 : l0.length ≤ c0) (h : impl_Ex_63.f k_ l0 = some r),
  Calls Tryd.prog 63 #[.slice A0 l0.length c0, .func (.func 64) #[] #[]] w fun e w' => e = .returned (.bool r) ∧ Below w.heap.size w w') (ih_38 : ∀ k_, k_ < k → ∀ (a0_0 : Int) (a0_1 : Int) (a0_2 : Int) (A0_3 : Option Addr) (c0_3 : Nat) (l0_3 : List (S29)) (r : Bool) (w : World) (hr0_3 : Kd.C k29 w A0_3 l0_3.length l0_3) (hc0_3 : l0_3.length ≤ c0_3) (h : impl_Ex_formed.f k_ a0_0 a0_1 a0_2 l0_3 = some r),
  Calls Tryd.prog 38 #[.agg #[.int .i64 a0_0, .int .i64 a0_1, .int .i64 a0_2, .slice A0_3 l0_3.length c0_3]] w fun e w' => e = .returned (.bool r) ∧ Below w.heap.size w w') : ∀ (a0_0 : Int) (a0_1 : Int) (a0_2 : Int) (A0_3 : Option Addr) (c0_3 : Nat) (l0_3 : List (S29)) (r : Bool) (w : World) (hr0_3 : Kd.C k29 w A0_3 l0_3.length l0_3) (hc0_3 : l0_3.length ≤ c0_3) (h : impl_Ex_formed_1.f k a0_0 a0_1 a0_2 l0_3 = some r),
  Calls Tryd.prog 64 #[.agg #[.int .i64 a0_0, .int .i64 a0_1, .int .i64 a0_2, .slice A0_3 l0_3.length c0_3]] w fun e w' => e = .returned (.bool r) ∧ Below w.heap.size w w' := by
 intro a0_0 a0_1 a0_2 A0_3 c0_3 l0_3 r w hr0_3 hc0_3 h
 cases k with
 | zero => exact absurd h (by simp [impl_Ex_formed_1.f])
 | succ k =>
 simp only [impl_Ex_formed_1.f] at h
 have hu29 := Tryd.underlying29
 have HR0_3 := m0_ hr0_3
 have HC0_3 := m0_ hc0_3
 clear hr0_3 hc0_3
 have HB := m0_ (Below.refl w.heap.size w)
 have H : ((impl_Ex_formed.f k a0_0 a0_1 a0_2 l0_3).bind fun t102 => (some (!t102))) = some r := h
 clear h
 replace H := Option.bind_eq_some_iff.mp H
 obtain ⟨t102, A20, H⟩ := H
 replace H : (some (!t102)) = some r := H
 have A2 := m0_ A20
 clear A20
 obtain rfl := Option.some.inj H
 go_enter Tryd.func64, Tryd.ntmps64
 go_wp2_with (first | ((with_reducible refine gate_dst (N := 1) rfl ?_);refine box_event ?hg (N := 1) ?hd (cs := #[.int .i64 a0_0, .int .i64 a0_1, .int .i64 a0_2, .slice A0_3 l0_3.length c0_3]) (t := 29) ?hr ?_;(case hd => rfl);(case hg => rfl);(case hr => first | (go_simp;done) | (go_simp;rfl));intro gb101 hg w3 hbox hb;have n0_ := m0_ (below_step (by repeat (first | (with_reducible first | exact HB.out | apply below_alloc | apply pw_below_drewN | apply below_drew1) | exact HB.out)) hb);have n1_ := m0_ (hbox);have n2_ := m0_ ((by rw [hg];exact (below_size (by repeat (first | (with_reducible first | exact HB.out | apply below_alloc | apply pw_below_drewN | apply below_drew1) | exact HB.out))) : w.heap.size ≤ gb101));have n3_ := m0_ ((by rw [hg];exact (below_size (by repeat (first | (with_reducible first | exact HB.out | apply below_alloc | apply pw_below_drewN | apply below_drew1) | exact HB.out))) : w.heap.size ≤ gb101));clear HB;have HB := n0_;have BK101 := n1_;have GW101 := n2_;have GE101 := n3_;clear n0_ n1_ n2_ n3_;clear hb hbox hg;have hcz4_0 : w3.cell? ⟨gb101, 0, none⟩ = some (.int .i64 a0_0) := (blk_cell BK101.out 0).trans rfl;have hcz4_1 : w3.cell? ⟨gb101, 1, none⟩ = some (.int .i64 a0_1) := (blk_cell BK101.out 1).trans rfl;have hcz4_2 : w3.cell? ⟨gb101, 2, none⟩ = some (.int .i64 a0_2) := (blk_cell BK101.out 2).trans rfl;have hcz4_3 : w3.cell? ⟨gb101, 3, none⟩ = some (.slice A0_3 l0_3.length c0_3) := (blk_cell BK101.out 3).trans rfl;have hfz4_0 := blk_frozen BK101.out 0;have hfz4_1 := blk_frozen BK101.out 1;have hfz4_2 := blk_frozen BK101.out 2;have hfz4_3 := blk_frozen BK101.out 3) | ((with_reducible refine gate_callee (f := 38) rfl ?_);refine goesL_ (some 4) rfl rfl Tryd.func38 (by kernel_rfl) rfl #[.agg #[.int .i64 a0_0, .int .i64 a0_1, .int .i64 a0_2, .slice A0_3 l0_3.length c0_3]] rfl (by (try simp only [List.map_toArray, List.map_cons, List.map_nil]);first | done | rfl | (simp only [List.length_drop, List.length_take];rfl)) ?_;(with_reducible refine (ih_38 k (by omega) a0_0 a0_1 a0_2 _ _ l0_3 t102 _ ?side1 ?side2 A2.out).mono ?_);(case side1 => repeat (first | exact (Kd.C_below HR0_3.out HB.out) | (with_reducible refine Kd.C_alloc ?_ _) | (with_reducible refine Kd.C_drewN ?_ _) | (with_reducible refine Kd.C_drew ?_)));(case side2 => exact HC0_3.out);rintro e w5 ⟨rfl, hb⟩;refine ⟨_, rfl, ?_⟩;have n0_ := m0_ (blk_below (g := gb101) (o := .cells #[.int .i64 a0_0, .int .i64 a0_1, .int .i64 a0_2, .slice A0_3 l0_3.length c0_3] 29 (0, 0)) (by (with_reducible repeat (first | refine blk_drewN ?_ _ | refine blk_drew ?_ | refine blk_alloc ?_ _));exact BK101.out) hb);have n1_ := m0_ (below_step (by repeat (first | (with_reducible first | exact HB.out | apply below_alloc | apply pw_below_drewN | apply below_drew1 | refine below_set ?_ GE101.out) | exact HB.out)) hb);clear BK101;clear HB;have BK101 := n0_;have HB := n1_;clear n0_ n1_;(try clear hb);(try clear hb2);(try clear hk);(try clear hi)))
 go_ret
 exact ⟨by first | rfl | (simp [errW_none, errW_some] <;> rfl) | (simp [*, errW_none, errW_some] <;> rfl), by repeat (first | (with_reducible first | exact HB.out | apply below_alloc | apply pw_below_drewN | apply below_drew1 | refine below_set ?_ GE101.out) | exact HB.out)⟩


set_option maxHeartbeats 8000000 in
set_option maxRecDepth 100000 in
theorem impl_Ex_75.calls_step (k : Nat) (ih_64 : ∀ k_, k_ < k → ∀ (a0_0 : Int) (a0_1 : Int) (a0_2 : Int) (A0_3 : Option Addr) (c0_3 : Nat) (l0_3 : List (S29)) (r : Bool) (w : World) (hr0_3 : Kd.C k29 w A0_3 l0_3.length l0_3) (hc0_3 : l0_3.length ≤ c0_3) (h : impl_Ex_formed_1.f k_ a0_0 a0_1 a0_2 l0_3 = some r),
  Calls Tryd.prog 64 #[.agg #[.int .i64 a0_0, .int .i64 a0_1, .int .i64 a0_2, .slice A0_3 l0_3.length c0_3]] w fun e w' => e = .returned (.bool r) ∧ Below w.heap.size w w') (ih_75 : ∀ k_, k_ < k → ∀ (A0 : Option Addr) (c0 : Nat) (l0 : List (S29))  (r : Int) (w : World) (hr0 : Kd.C k29 w A0 l0.length l0) (hc0 : l0.length ≤ c0) (h : impl_Ex_75.f k_ l0 = some r),
  Calls Tryd.prog 75 #[.slice A0 l0.length c0, .func (.func 64) #[] #[]] w fun e w' => e = .returned (.int .i64 r) ∧ Below w.heap.size w w') (ih_63 : ∀ k_, k_ < k → ∀ (A0 : Option Addr) (c0 : Nat) (l0 : List (S29))  (r : Bool) (w : World) (hr0 : Kd.C k29 w A0 l0.length l0) (hc0 : l0.length ≤ c0) (h : impl_Ex_63.f k_ l0 = some r),
  Calls Tryd.prog 63 #[.slice A0 l0.length c0, .func (.func 64) #[] #[]] w fun e w' => e = .returned (.bool r) ∧ Below w.heap.size w w') (ih_38 : ∀ k_, k_ < k → ∀ (a0_0 : Int) (a0_1 : Int) (a0_2 : Int) (A0_3 : Option Addr) (c0_3 : Nat) (l0_3 : List (S29)) (r : Bool) (w : World) (hr0_3 : Kd.C k29 w A0_3 l0_3.length l0_3) (hc0_3 : l0_3.length ≤ c0_3) (h : impl_Ex_formed.f k_ a0_0 a0_1 a0_2 l0_3 = some r),
  Calls Tryd.prog 38 #[.agg #[.int .i64 a0_0, .int .i64 a0_1, .int .i64 a0_2, .slice A0_3 l0_3.length c0_3]] w fun e w' => e = .returned (.bool r) ∧ Below w.heap.size w w') : ∀ (A0 : Option Addr) (c0 : Nat) (l0 : List (S29))  (r : Int) (w : World) (hr0 : Kd.C k29 w A0 l0.length l0) (hc0 : l0.length ≤ c0) (h : impl_Ex_75.f k l0 = some r),
  Calls Tryd.prog 75 #[.slice A0 l0.length c0, .func (.func 64) #[] #[]] w fun e w' => e = .returned (.int .i64 r) ∧ Below w.heap.size w w' := by
 intro A0 c0 l0 r w hr0 hc0 h
 cases k with
 | zero => exact absurd h (by simp [impl_Ex_75.f])
 | succ k =>
 simp only [impl_Ex_75.f] at h
 have hu29 := Tryd.underlying29
 have HR0 := m0_ hr0
 have HC0 := m0_ hc0
 clear hr0 hc0
 have HB := m0_ (Below.refl w.heap.size w)
 have H : (impl_Ex_75.l0 k l0 (l0.length : Int) 0) = some r := h
 clear h
 have H' := m0_ H
 clear H
 go_enter Tryd.func75, Tryd.ntmps75
 go_wp2
 go_loopg [8] k (fun kq v8 w' => ∃ (x8_1 : Int), v8 = .int .i64 x8_1 ∧ Aside0 (impl_Ex_75.l0 kq l0 (l0.length : Int) x8_1 = some r) ∧ Aside0 (kq ≤ k) ∧ Aside0 (Below w.heap.size w w'))
 case atStart => exact ⟨(0), (by first | rfl | (simp;done) | (simp [*];done)), H', ⟨Nat.le_refl _⟩, ⟨by repeat (first | (with_reducible first | exact HB.out | apply below_alloc | apply pw_below_drewN | apply below_drew1) | exact HB.out)⟩⟩
 case round =>
  clear H'
  try clear p2
  obtain ⟨x8_1, rfl, HA, HK1, HB⟩ := hrel
  cases gk with
  | zero => exact absurd HA.out (by simp [impl_Ex_75.l0])
  | succ k1 =>
   have H := HA.out
   clear HA
   simp only [impl_Ex_75.l0] at H
   by_cases c3 : x8_1 < (l0.length : Int)
   rotate_left
   ·rw [if_neg c3] at H
    have c3b0 : decide (x8_1 < (l0.length : Int)) = false := decide_eq_false c3
    clear c3
    obtain rfl := Option.some.inj H
    go_wp2
    go_ret
    exact ⟨by first | rfl | (simp [errW_none, errW_some] <;> rfl) | (simp [*, errW_none, errW_some] <;> rfl), by repeat (first | (with_reducible first | exact HB.out | apply below_alloc | apply pw_below_drewN | apply below_drew1) | exact HB.out)⟩
   rw [if_pos c3] at H
   have c3b0 : decide (x8_1 < (l0.length : Int)) = true := decide_eq_true c3
   clear c3
   by_cases c4 : 0 ≤ x8_1
   rotate_left
   ·rw [if_neg c4] at H
    exact absurd H (by simp)
   rw [if_pos c4] at H
   have c4b0 : decide (0 ≤ x8_1) = true := decide_eq_true c4
   clear c4
   by_cases c5 : x8_1 < (l0.length : Int)
   rotate_left
   ·rw [if_neg c5] at H
    exact absurd H (by simp)
   rw [if_pos c5] at H
   have c5b0 : decide (x8_1 < (l0.length : Int)) = true := decide_eq_true c5
   clear c5
   replace H := Option.bind_eq_some_iff.mp H
   obtain ⟨t104, A60, H⟩ := H
   replace H : (if t104 = true then (some x8_1) else (impl_Ex_75.l0 k1 l0 (l0.length : Int) (wrap64 (x8_1 + 1)))) = some r := H
   have A6 := m0_ A60
   clear A60
   by_cases c7 : t104 = true
   ·subst c7
    have H1 : (some x8_1) = some r := by rw [if_pos rfl] at H;exact H
    clear H
    have H := H1
    clear H1
    obtain rfl := Option.some.inj H
    have p103 : 0 ≤ (x8_1 : Int) := of_decide_eq_true (by first | (with_reducible assumption) | assumption)
    have q103 : x8_1 < (l0.length : Int) := of_decide_eq_true (by first | (with_reducible assumption) | assumption)
    obtain ⟨ad103, A103_3, c103_3, e103, hx103_0, hx103_1, hx103_2, hx103_3, hl103_3, hi103_3⟩ := at_T29 HR0.out x8_1 p103 q103
    cases e103
    replace hx103_0 := (HB.out.cell (World.block_lt_of_cell? w _ hx103_0)).trans hx103_0
    replace hx103_1 := (HB.out.cell (World.block_lt_of_cell? w _ hx103_1)).trans hx103_1
    replace hx103_2 := (HB.out.cell (World.block_lt_of_cell? w _ hx103_2)).trans hx103_2
    replace hx103_3 := (HB.out.cell (World.block_lt_of_cell? w _ hx103_3)).trans hx103_3
    have HR103_3 := m0_ hi103_3
    have HC103_3 := m0_ hl103_3
    clear hi103_3 hl103_3
    replace p103 := eq_true p103
    replace q103 := eq_true q103
    go_wp2_with (first | (go_at_call 64;(with_reducible refine (ih_64 k1 (by have := HK1.out;omega) ((rd_T29 l0 x8_1).f0) ((rd_T29 l0 x8_1).f1) ((rd_T29 l0 x8_1).f2) _ _ ((rd_T29 l0 x8_1).f3) true _ ?side1 ?side2 A6.out).mono ?_);(case side1 => repeat (first | exact (Kd.C_below HR103_3.out HB.out) | (with_reducible refine Kd.C_alloc ?_ _) | (with_reducible refine Kd.C_drewN ?_ _) | (with_reducible refine Kd.C_drew ?_)));(case side2 => exact HC103_3.out);rintro e w8 ⟨rfl, hb⟩;have n0_ := m0_ (below_step (by repeat (first | (with_reducible first | exact HB.out | apply below_alloc | apply pw_below_drewN | apply below_drew1) | exact HB.out)) hb);clear HB;have HB := n0_;clear n0_;(try clear hb);(try clear hb2);(try clear hk);(try clear hi)))
    go_ret
    exact ⟨by first | rfl | (simp [errW_none, errW_some] <;> rfl) | (simp [*, errW_none, errW_some] <;> rfl), by repeat (first | (with_reducible first | exact HB.out | apply below_alloc | apply pw_below_drewN | apply below_drew1) | exact HB.out)⟩
   replace c7 := Bool.eq_false_iff.mpr c7
   subst c7
   have H1 : (impl_Ex_75.l0 k1 l0 (l0.length : Int) (wrap64 (x8_1 + 1))) = some r := by rw [if_neg (show ¬ (false = true) by decide)] at H;exact H
   clear H
   have H := H1
   clear H1
   have H' := m0_ H
   clear H
   have p103 : 0 ≤ (x8_1 : Int) := of_decide_eq_true (by first | (with_reducible assumption) | assumption)
   have q103 : x8_1 < (l0.length : Int) := of_decide_eq_true (by first | (with_reducible assumption) | assumption)
   obtain ⟨ad103, A103_3, c103_3, e103, hx103_0, hx103_1, hx103_2, hx103_3, hl103_3, hi103_3⟩ := at_T29 HR0.out x8_1 p103 q103
   cases e103
   replace hx103_0 := (HB.out.cell (World.block_lt_of_cell? w _ hx103_0)).trans hx103_0
   replace hx103_1 := (HB.out.cell (World.block_lt_of_cell? w _ hx103_1)).trans hx103_1
   replace hx103_2 := (HB.out.cell (World.block_lt_of_cell? w _ hx103_2)).trans hx103_2
   replace hx103_3 := (HB.out.cell (World.block_lt_of_cell? w _ hx103_3)).trans hx103_3
   have HR103_3 := m0_ hi103_3
   have HC103_3 := m0_ hl103_3
   clear hi103_3 hl103_3
   replace p103 := eq_true p103
   replace q103 := eq_true q103
   go_wp2_with (first | (go_at_call 64;(with_reducible refine (ih_64 k1 (by have := HK1.out;omega) ((rd_T29 l0 x8_1).f0) ((rd_T29 l0 x8_1).f1) ((rd_T29 l0 x8_1).f2) _ _ ((rd_T29 l0 x8_1).f3) false _ ?side1 ?side2 A6.out).mono ?_);(case side1 => repeat (first | exact (Kd.C_below HR103_3.out HB.out) | (with_reducible refine Kd.C_alloc ?_ _) | (with_reducible refine Kd.C_drewN ?_ _) | (with_reducible refine Kd.C_drew ?_)));(case side2 => exact HC103_3.out);rintro e w9 ⟨rfl, hb⟩;have n0_ := m0_ (below_step (by repeat (first | (with_reducible first | exact HB.out | apply below_alloc | apply pw_below_drewN | apply below_drew1) | exact HB.out)) hb);clear HB;have HB := n0_;clear n0_;(try clear hb);(try clear hb2);(try clear hk);(try clear hi)))
   go_roundg k1
   case measure => have := HK1.out;omega
   case rel => exact ⟨(wrap64 (x8_1 + 1)), (by first | rfl | (simp;done) | (simp [*];done)), H', ⟨by have := HK1.out;omega⟩, ⟨by repeat (first | (with_reducible first | exact HB.out | apply below_alloc | apply pw_below_drewN | apply below_drew1) | exact HB.out)⟩⟩


set_option maxHeartbeats 8000000 in
set_option maxRecDepth 100000 in
theorem impl_Ex_63.calls_step (k : Nat) (ih_64 : ∀ k_, k_ < k → ∀ (a0_0 : Int) (a0_1 : Int) (a0_2 : Int) (A0_3 : Option Addr) (c0_3 : Nat) (l0_3 : List (S29)) (r : Bool) (w : World) (hr0_3 : Kd.C k29 w A0_3 l0_3.length l0_3) (hc0_3 : l0_3.length ≤ c0_3) (h : impl_Ex_formed_1.f k_ a0_0 a0_1 a0_2 l0_3 = some r),
  Calls Tryd.prog 64 #[.agg #[.int .i64 a0_0, .int .i64 a0_1, .int .i64 a0_2, .slice A0_3 l0_3.length c0_3]] w fun e w' => e = .returned (.bool r) ∧ Below w.heap.size w w') (ih_75 : ∀ k_, k_ < k → ∀ (A0 : Option Addr) (c0 : Nat) (l0 : List (S29))  (r : Int) (w : World) (hr0 : Kd.C k29 w A0 l0.length l0) (hc0 : l0.length ≤ c0) (h : impl_Ex_75.f k_ l0 = some r),
  Calls Tryd.prog 75 #[.slice A0 l0.length c0, .func (.func 64) #[] #[]] w fun e w' => e = .returned (.int .i64 r) ∧ Below w.heap.size w w') (ih_63 : ∀ k_, k_ < k → ∀ (A0 : Option Addr) (c0 : Nat) (l0 : List (S29))  (r : Bool) (w : World) (hr0 : Kd.C k29 w A0 l0.length l0) (hc0 : l0.length ≤ c0) (h : impl_Ex_63.f k_ l0 = some r),
  Calls Tryd.prog 63 #[.slice A0 l0.length c0, .func (.func 64) #[] #[]] w fun e w' => e = .returned (.bool r) ∧ Below w.heap.size w w') (ih_38 : ∀ k_, k_ < k → ∀ (a0_0 : Int) (a0_1 : Int) (a0_2 : Int) (A0_3 : Option Addr) (c0_3 : Nat) (l0_3 : List (S29)) (r : Bool) (w : World) (hr0_3 : Kd.C k29 w A0_3 l0_3.length l0_3) (hc0_3 : l0_3.length ≤ c0_3) (h : impl_Ex_formed.f k_ a0_0 a0_1 a0_2 l0_3 = some r),
  Calls Tryd.prog 38 #[.agg #[.int .i64 a0_0, .int .i64 a0_1, .int .i64 a0_2, .slice A0_3 l0_3.length c0_3]] w fun e w' => e = .returned (.bool r) ∧ Below w.heap.size w w') : ∀ (A0 : Option Addr) (c0 : Nat) (l0 : List (S29))  (r : Bool) (w : World) (hr0 : Kd.C k29 w A0 l0.length l0) (hc0 : l0.length ≤ c0) (h : impl_Ex_63.f k l0 = some r),
  Calls Tryd.prog 63 #[.slice A0 l0.length c0, .func (.func 64) #[] #[]] w fun e w' => e = .returned (.bool r) ∧ Below w.heap.size w w' := by
 intro A0 c0 l0 r w hr0 hc0 h
 cases k with
 | zero => exact absurd h (by simp [impl_Ex_63.f])
 | succ k =>
 simp only [impl_Ex_63.f] at h
 have HR0 := m0_ hr0
 have HC0 := m0_ hc0
 clear hr0 hc0
 have HB := m0_ (Below.refl w.heap.size w)
 have H : ((impl_Ex_75.f k l0).bind fun t105 => (some (decide (t105 ≥ 0)))) = some r := h
 clear h
 replace H := Option.bind_eq_some_iff.mp H
 obtain ⟨t105, A30, H⟩ := H
 replace H : (some (decide (t105 ≥ 0))) = some r := H
 have A3 := m0_ A30
 clear A30
 obtain rfl := Option.some.inj H
 go_enter Tryd.func63, Tryd.ntmps63
 go_wp2_with (first | ((with_reducible refine gate_callee (f := 75) rfl ?_);refine goesL_ (some 7) rfl rfl Tryd.func75 (by kernel_rfl) rfl #[.slice A0 l0.length c0, .func (.func 64) #[] #[]] rfl (by (try simp only [List.map_toArray, List.map_cons, List.map_nil]);first | done | rfl | (simp only [List.length_drop, List.length_take];rfl)) ?_;(with_reducible refine (ih_75 k (by omega) _ _ l0  t105 _ ?side1 ?side2 A3.out).mono ?_);(case side1 => repeat (first | exact HR0.out | (with_reducible refine Kd.C_alloc ?_ _) | (with_reducible refine Kd.C_drewN ?_ _) | (with_reducible refine Kd.C_drew ?_)));(case side2 => exact HC0.out);rintro e w4 ⟨rfl, hb⟩;refine ⟨_, rfl, ?_⟩;have n0_ := m0_ (below_step (by repeat (first | (with_reducible first | exact HB.out | apply below_alloc | apply pw_below_drewN | apply below_drew1) | exact HB.out)) hb);clear HB;have HB := n0_;clear n0_;(try clear hb);(try clear hb2);(try clear hk);(try clear hi)))
 go_ret
 exact ⟨by first | rfl | (simp [errW_none, errW_some] <;> rfl) | (simp [*, errW_none, errW_some] <;> rfl), by repeat (first | (with_reducible first | exact HB.out | apply below_alloc | apply pw_below_drewN | apply below_drew1) | exact HB.out)⟩


def impl_Ex_formed.T1 : Bool × List (List Nat × List Nat) := (true, [([], []), ([0], [0]), ([1], [1]), ([2], [2]), ([3, 2], [3]), ([4], [4]), ([5, 4], [4, 5]), ([6, 4], [4, 6]), ([4], [4]), ([8, 4], [4, 8]), ([9, 4, 4], [4, 9]), ([7, 10, 4], [4, 7, 10]), ([4, 11], [4, 11])])
def impl_Ex_formed.B1 : List Nat := [0, 1, 3, 7, 15, 31, 63, 127, 31, 287, 799, 2047, 4095]
theorem impl_Ex_formed.tab1 : rtab .any (opsOf Tryd.f38 1) = impl_Ex_formed.T1 := by kernel_rfl
theorem impl_Ex_formed.bits1 : waitsOk impl_Ex_formed.T1.2 impl_Ex_formed.B1 = true := by kernel_rfl
set_option maxHeartbeats 8000000 in
set_option maxRecDepth 100000 in
theorem impl_Ex_formed.calls_step (k : Nat) (ih_64 : ∀ k_, k_ < k → ∀ (a0_0 : Int) (a0_1 : Int) (a0_2 : Int) (A0_3 : Option Addr) (c0_3 : Nat) (l0_3 : List (S29)) (r : Bool) (w : World) (hr0_3 : Kd.C k29 w A0_3 l0_3.length l0_3) (hc0_3 : l0_3.length ≤ c0_3) (h : impl_Ex_formed_1.f k_ a0_0 a0_1 a0_2 l0_3 = some r),
  Calls Tryd.prog 64 #[.agg #[.int .i64 a0_0, .int .i64 a0_1, .int .i64 a0_2, .slice A0_3 l0_3.length c0_3]] w fun e w' => e = .returned (.bool r) ∧ Below w.heap.size w w') (ih_75 : ∀ k_, k_ < k → ∀ (A0 : Option Addr) (c0 : Nat) (l0 : List (S29))  (r : Int) (w : World) (hr0 : Kd.C k29 w A0 l0.length l0) (hc0 : l0.length ≤ c0) (h : impl_Ex_75.f k_ l0 = some r),
  Calls Tryd.prog 75 #[.slice A0 l0.length c0, .func (.func 64) #[] #[]] w fun e w' => e = .returned (.int .i64 r) ∧ Below w.heap.size w w') (ih_63 : ∀ k_, k_ < k → ∀ (A0 : Option Addr) (c0 : Nat) (l0 : List (S29))  (r : Bool) (w : World) (hr0 : Kd.C k29 w A0 l0.length l0) (hc0 : l0.length ≤ c0) (h : impl_Ex_63.f k_ l0 = some r),
  Calls Tryd.prog 63 #[.slice A0 l0.length c0, .func (.func 64) #[] #[]] w fun e w' => e = .returned (.bool r) ∧ Below w.heap.size w w') (ih_38 : ∀ k_, k_ < k → ∀ (a0_0 : Int) (a0_1 : Int) (a0_2 : Int) (A0_3 : Option Addr) (c0_3 : Nat) (l0_3 : List (S29)) (r : Bool) (w : World) (hr0_3 : Kd.C k29 w A0_3 l0_3.length l0_3) (hc0_3 : l0_3.length ≤ c0_3) (h : impl_Ex_formed.f k_ a0_0 a0_1 a0_2 l0_3 = some r),
  Calls Tryd.prog 38 #[.agg #[.int .i64 a0_0, .int .i64 a0_1, .int .i64 a0_2, .slice A0_3 l0_3.length c0_3]] w fun e w' => e = .returned (.bool r) ∧ Below w.heap.size w w') : ∀ (a0_0 : Int) (a0_1 : Int) (a0_2 : Int) (A0_3 : Option Addr) (c0_3 : Nat) (l0_3 : List (S29)) (r : Bool) (w : World) (hr0_3 : Kd.C k29 w A0_3 l0_3.length l0_3) (hc0_3 : l0_3.length ≤ c0_3) (h : impl_Ex_formed.f k a0_0 a0_1 a0_2 l0_3 = some r),
  Calls Tryd.prog 38 #[.agg #[.int .i64 a0_0, .int .i64 a0_1, .int .i64 a0_2, .slice A0_3 l0_3.length c0_3]] w fun e w' => e = .returned (.bool r) ∧ Below w.heap.size w w' := by
 intro a0_0 a0_1 a0_2 A0_3 c0_3 l0_3 r w hr0_3 hc0_3 h
 cases k with
 | zero => exact absurd h (by simp [impl_Ex_formed.f])
 | succ k =>
 simp only [impl_Ex_formed.f] at h
 have hu29 := Tryd.underlying29
 have HR0_3 := m0_ hr0_3
 have HC0_3 := m0_ hc0_3
 clear hr0_3 hc0_3
 have HB := m0_ (Below.refl w.heap.size w)
 have H : ((impl_isKind.f a0_0).bind fun t107 => (if t107 = true then ((impl_kids.f a0_0).bind fun t108 => (impl_Ex_formed.j0 k ((l0_3.length : Int) != t108) a0_0 a0_1 a0_2 l0_3)) else (impl_Ex_formed.j0 k true a0_0 a0_1 a0_2 l0_3))) = some r := h
 clear h
 have HC2 := m0_ H
 clear H
 go_enter Tryd.func38, Tryd.ntmps38
 go_upto_region 1 with (first | ((with_reducible refine gate_dst (N := 1) rfl ?_);(try (refine gate_guard (by rfl) ?_;dsimp only));refine box_event ?hg (N := 1) ?hd (cs := #[.int .i64 a0_0, .int .i64 a0_1, .int .i64 a0_2, .slice A0_3 l0_3.length c0_3]) (t := 29) ?hr ?_;(case hd => rfl);(case hg => rfl);(case hr => first | (go_simp;done) | (go_simp;rfl));intro gb106 hg w3 hbox hb;have n0_ := m0_ (below_step (by repeat (first | (with_reducible first | exact HB.out | apply below_alloc | apply pw_below_drewN | apply below_drew1) | exact HB.out)) hb);have n1_ := m0_ (hbox);have n2_ := m0_ ((by rw [hg];exact (below_size (by repeat (first | (with_reducible first | exact HB.out | apply below_alloc | apply pw_below_drewN | apply below_drew1) | exact HB.out))) : w.heap.size ≤ gb106));have n3_ := m0_ ((by rw [hg];exact (below_size (by repeat (first | (with_reducible first | exact HB.out | apply below_alloc | apply pw_below_drewN | apply below_drew1) | exact HB.out))) : w.heap.size ≤ gb106));clear HB;have HB := n0_;have BK106 := n1_;have GW106 := n2_;have GE106 := n3_;clear n0_ n1_ n2_ n3_;clear hb hbox hg))
 (try simp only [Act.put, List.setIfInBounds_toArray, List.set_cons_zero, List.set_cons_succ])
 go_cut [15] (fun v15 wc => ∃ (kq : Nat) (x15_1 : Bool), v15 = .bool x15_1 ∧ Aside0 (impl_Ex_formed.j0 kq x15_1 a0_0 a0_1 a0_2 l0_3 = some r) ∧ Aside0 (kq ≤ k) ∧ Aside0 (wc.heap[gb106]? = some (.cells #[.int .i64 a0_0, .int .i64 a0_1, .int .i64 a0_2, (.slice A0_3 l0_3.length c0_3)] 29 (0, 0))) ∧ Aside0 (Below w.heap.size w wc))
 case first =>
  have H := HC2.out
  clear HC2
  replace H := Option.bind_eq_some_iff.mp H
  obtain ⟨t107, A40, H⟩ := H
  replace H : (if t107 = true then ((impl_kids.f a0_0).bind fun t108 => (impl_Ex_formed.j0 k ((l0_3.length : Int) != t108) a0_0 a0_1 a0_2 l0_3)) else (impl_Ex_formed.j0 k true a0_0 a0_1 a0_2 l0_3)) = some r := H
  have A4 := m0_ A40
  clear A40
  by_cases c5 : t107 = true
  rotate_left
  ·replace c5 := Bool.eq_false_iff.mpr c5
   subst c5
   have H1 : (impl_Ex_formed.j0 k true a0_0 a0_1 a0_2 l0_3) = some r := by rw [if_neg (show ¬ (false = true) by decide)] at H;exact H
   clear H
   have H := H1
   clear H1
   have H' := m0_ H
   clear H
   try go_wp2
   have n0_ := m0_ (blk_drew BK106.out)
   have n1_ := m0_ (below_drew1 HB.out)
   clear BK106
   clear HB
   have BK106 := n0_
   have HB := n1_
   clear n0_ n1_
   refine start_ (n := 13) (S := fun w' => w'.cell? ⟨gb106, 0, none⟩ = some (.int .i64 a0_0) ∧ w'.cell? ⟨gb106, 1, none⟩ = some (.int .i64 a0_1) ∧ w'.cell? ⟨gb106, 2, none⟩ = some (.int .i64 a0_2) ∧ w'.cell? ⟨gb106, 3, none⟩ = some (.slice A0_3 l0_3.length c0_3)) (ds := []) #[false, false, false, false, false, false, false, false, false, false, false, false, false] (by kernel_rfl) rfl rfl ⟨(blk_cell BK106.out 0).trans rfl, (blk_cell BK106.out 1).trans rfl, (blk_cell BK106.out 2).trans rfl, (blk_cell BK106.out 3).trans rfl⟩ (fun hHeld => ?_);refine with_tabW impl_Ex_formed.tab1 impl_Ex_formed.bits1 (fun HT_ HW_ => ?_)
   generalize w3.drew = w9 at BK106 HB hHeld ⊢
   refine pure_ (i := 0) (N := some 3) (v := ?_) (a' := ?_) #[true, false, false, false, false, false, false, false, false, false, false, false, false] rfl rfl (any_of HT_.out (by kernel_rfl)) (fun _ _ _ h => h) (Or.inl ⟨by rfl, ?_⟩) ?_ ?_
   rotate_left
   ·intro w'
    go_simp
    with_reducible rfl
   rotate_left
   ·simp only [Act.put, List.setIfInBounds_toArray, List.set_cons_zero, List.set_cons_succ, i64_w, i32_w]
    rfl
   refine take_ (i := 1) (N := some 4) (v := ?_) (a' := ?_) #[true, true, false, false, false, false, false, false, false, false, false, false, false] rfl rfl (take_ofW HT_.out HW_.out (by kernel_rfl)) (fun _ _ _ h => h) (Or.inl ⟨by rfl, ?_⟩) hHeld ?_ ?_
   rotate_left
   ·rintro w' ⟨s0, s1, s2, s3⟩
    go_simp
    with_reducible rfl
   rotate_left
   ·simp only [Act.put, List.setIfInBounds_toArray, List.set_cons_zero, List.set_cons_succ, i64_w, i32_w]
    rfl
   refine one_ (i := 2) (N := some 5) #[true, true, true, false, false, false, false, false, false, false, false, false, false] rfl rfl (one_of HT_.out (by kernel_rfl)) (by decide) (fun K hK => ?_)
   refine goes_ Tryd.func59 (by kernel_rfl) rfl #[.int .i64 a0_0] (by rfl) rfl rfl (by (try simp only [List.map_toArray, List.map_cons, List.map_nil]);first | done | rfl | (simp only [List.length_drop, List.length_take];rfl)) ?_
   with_reducible refine (impl_isKind.calls a0_0 false _ A4.out).mono ?_
   rintro e w' ⟨rfl, ⟨nd, rfl⟩⟩
   refine ⟨_, rfl, ?_⟩
   refine hK.out _ _ ⟨(blk_cell BK106.out 0).trans rfl, (blk_cell BK106.out 1).trans rfl, (blk_cell BK106.out 2).trans rfl, (blk_cell BK106.out 3).trans rfl⟩ (fun hHeld => ?_)
   clear hK K
   refine norm_ (a' := ?_) ?_ ?_
   rotate_left
   ·show Act.put _ (some 5) _ = _
    simp only [Act.put, List.setIfInBounds_toArray, List.set_cons_zero, List.set_cons_succ, i64_w, i32_w]
    rfl
   refine pure_ (i := 3) (N := some 6) (v := ?_) (a' := ?_) #[true, true, true, true, false, false, false, false, false, false, false, false, false] rfl rfl (any_of HT_.out (by kernel_rfl)) (fun _ _ _ h => h) (Or.inl ⟨by rfl, ?_⟩) ?_ ?_
   rotate_left
   ·intro w'
    go_simp
    with_reducible rfl
   rotate_left
   ·simp only [Act.put, List.setIfInBounds_toArray, List.set_cons_zero, List.set_cons_succ, i64_w, i32_w]
    rfl
   refine pure_ (i := 4) (N := some 7) (v := ?_) (a' := ?_) #[true, true, true, true, true, false, false, false, false, false, false, false, false] rfl rfl (any_of HT_.out (by kernel_rfl)) (fun _ _ _ h => h) (Or.inl ⟨by rfl, ?_⟩) ?_ ?_
   rotate_left
   ·intro w'
    go_simp
    with_reducible rfl
   rotate_left
   ·simp only [Act.put, List.setIfInBounds_toArray, List.set_cons_zero, List.set_cons_succ, i64_w, i32_w]
    rfl
   refine pure_ (i := 5) (N := some 8) (v := undef) (a' := ?_) #[true, true, true, true, true, true, false, false, false, false, false, false, false] rfl rfl (any_of HT_.out (by kernel_rfl)) (fun _ _ _ h => h) (Or.inr ⟨by rfl, rfl⟩) ?_ ?_
   rotate_left
   ·simp only [Act.put, List.setIfInBounds_toArray, List.set_cons_zero, List.set_cons_succ, i64_w, i32_w]
    rfl
   refine pure_ (i := 6) (N := some 9) (v := undef) (a' := ?_) #[true, true, true, true, true, true, true, false, false, false, false, false, false] rfl rfl (any_of HT_.out (by kernel_rfl)) (fun _ _ _ h => h) (Or.inr ⟨by rfl, rfl⟩) ?_ ?_
   rotate_left
   ·simp only [Act.put, List.setIfInBounds_toArray, List.set_cons_zero, List.set_cons_succ, i64_w, i32_w]
    rfl
   refine pure_ (i := 7) (N := some 10) (v := undef) (a' := ?_) #[true, true, true, true, true, true, true, true, false, false, false, false, false] rfl rfl (any_of HT_.out (by kernel_rfl)) (fun _ _ _ h => h) (Or.inr ⟨by rfl, rfl⟩) ?_ ?_
   rotate_left
   ·simp only [Act.put, List.setIfInBounds_toArray, List.set_cons_zero, List.set_cons_succ, i64_w, i32_w]
    rfl
   refine pure_ (i := 8) (N := some 11) (v := undef) (a' := ?_) #[true, true, true, true, true, true, true, true, true, false, false, false, false] rfl rfl (any_of HT_.out (by kernel_rfl)) (fun _ _ _ h => h) (Or.inr ⟨by rfl, rfl⟩) ?_ ?_
   rotate_left
   ·simp only [Act.put, List.setIfInBounds_toArray, List.set_cons_zero, List.set_cons_succ, i64_w, i32_w]
    rfl
   refine pure_ (i := 9) (N := some 12) (v := undef) (a' := ?_) #[true, true, true, true, true, true, true, true, true, true, false, false, false] rfl rfl (any_of HT_.out (by kernel_rfl)) (fun _ _ _ h => h) (Or.inr ⟨by rfl, rfl⟩) ?_ ?_
   rotate_left
   ·simp only [Act.put, List.setIfInBounds_toArray, List.set_cons_zero, List.set_cons_succ, i64_w, i32_w]
    rfl
   refine pure_ (i := 10) (N := some 13) (v := undef) (a' := ?_) #[true, true, true, true, true, true, true, true, true, true, true, false, false] rfl rfl (any_of HT_.out (by kernel_rfl)) (fun _ _ _ h => h) (Or.inr ⟨by rfl, rfl⟩) ?_ ?_
   rotate_left
   ·simp only [Act.put, List.setIfInBounds_toArray, List.set_cons_zero, List.set_cons_succ, i64_w, i32_w]
    rfl
   refine pure_ (i := 11) (N := some 14) (v := undef) (a' := ?_) #[true, true, true, true, true, true, true, true, true, true, true, true, false] rfl rfl (any_of HT_.out (by kernel_rfl)) (fun _ _ _ h => h) (Or.inr ⟨by rfl, rfl⟩) ?_ ?_
   rotate_left
   ·simp only [Act.put, List.setIfInBounds_toArray, List.set_cons_zero, List.set_cons_succ, i64_w, i32_w]
    rfl
   refine pure_ (i := 12) (N := some 15) (v := ?_) (a' := ?_) #[true, true, true, true, true, true, true, true, true, true, true, true, true] rfl rfl (any_of HT_.out (by kernel_rfl)) (fun _ _ _ h => h) (Or.inl ⟨by rfl, ?_⟩) ?_ ?_
   rotate_left
   ·intro w'
    go_simp
    with_reducible rfl
   rotate_left
   ·simp only [Act.put, List.setIfInBounds_toArray, List.set_cons_zero, List.set_cons_succ, i64_w, i32_w]
    rfl
   refine done_ (done_of HT_.out (by kernel_rfl)) ?_
   try go_wp2
   go_meet
   case rel => exact ⟨_, (true), (by first | rfl | (simp;done) | (simp [*];done)), H', ⟨by first | omega | exact Nat.le_refl _⟩, ⟨by (with_reducible repeat (first | refine blk_drewN ?_ _ | refine blk_drew ?_ | refine blk_alloc ?_ _));exact BK106.out⟩, ⟨by repeat (first | (with_reducible first | exact HB.out | apply below_alloc | apply pw_below_drewN | apply below_drew1 | refine below_set ?_ GE106.out) | exact HB.out)⟩⟩
  subst c5
  have H1 : ((impl_kids.f a0_0).bind fun t108 => (impl_Ex_formed.j0 k ((l0_3.length : Int) != t108) a0_0 a0_1 a0_2 l0_3)) = some r := by rw [if_pos rfl] at H;exact H
  clear H
  have H := H1
  clear H1
  replace H := Option.bind_eq_some_iff.mp H
  obtain ⟨t108, A60, H⟩ := H
  replace H : (impl_Ex_formed.j0 k ((l0_3.length : Int) != t108) a0_0 a0_1 a0_2 l0_3) = some r := H
  have A6 := m0_ A60
  clear A60
  have H' := m0_ H
  clear H
  try go_wp2
  have n0_ := m0_ (blk_drew BK106.out)
  have n1_ := m0_ (below_drew1 HB.out)
  clear BK106
  clear HB
  have BK106 := n0_
  have HB := n1_
  clear n0_ n1_
  refine start_ (n := 13) (S := fun w' => w'.cell? ⟨gb106, 0, none⟩ = some (.int .i64 a0_0) ∧ w'.cell? ⟨gb106, 1, none⟩ = some (.int .i64 a0_1) ∧ w'.cell? ⟨gb106, 2, none⟩ = some (.int .i64 a0_2) ∧ w'.cell? ⟨gb106, 3, none⟩ = some (.slice A0_3 l0_3.length c0_3)) (ds := []) #[false, false, false, false, false, false, false, false, false, false, false, false, false] (by kernel_rfl) rfl rfl ⟨(blk_cell BK106.out 0).trans rfl, (blk_cell BK106.out 1).trans rfl, (blk_cell BK106.out 2).trans rfl, (blk_cell BK106.out 3).trans rfl⟩ (fun hHeld => ?_);refine with_tabW impl_Ex_formed.tab1 impl_Ex_formed.bits1 (fun HT_ HW_ => ?_)
  generalize w3.drew = w7 at BK106 HB hHeld ⊢
  refine pure_ (i := 0) (N := some 3) (v := ?_) (a' := ?_) #[true, false, false, false, false, false, false, false, false, false, false, false, false] rfl rfl (any_of HT_.out (by kernel_rfl)) (fun _ _ _ h => h) (Or.inl ⟨by rfl, ?_⟩) ?_ ?_
  rotate_left
  ·intro w'
   go_simp
   with_reducible rfl
  rotate_left
  ·simp only [Act.put, List.setIfInBounds_toArray, List.set_cons_zero, List.set_cons_succ, i64_w, i32_w]
   rfl
  refine take_ (i := 1) (N := some 4) (v := ?_) (a' := ?_) #[true, true, false, false, false, false, false, false, false, false, false, false, false] rfl rfl (take_ofW HT_.out HW_.out (by kernel_rfl)) (fun _ _ _ h => h) (Or.inl ⟨by rfl, ?_⟩) hHeld ?_ ?_
  rotate_left
  ·rintro w' ⟨s0, s1, s2, s3⟩
   go_simp
   with_reducible rfl
  rotate_left
  ·simp only [Act.put, List.setIfInBounds_toArray, List.set_cons_zero, List.set_cons_succ, i64_w, i32_w]
   rfl
  refine one_ (i := 2) (N := some 5) #[true, true, true, false, false, false, false, false, false, false, false, false, false] rfl rfl (one_of HT_.out (by kernel_rfl)) (by decide) (fun K hK => ?_)
  refine goes_ Tryd.func59 (by kernel_rfl) rfl #[.int .i64 a0_0] (by rfl) rfl rfl (by (try simp only [List.map_toArray, List.map_cons, List.map_nil]);first | done | rfl | (simp only [List.length_drop, List.length_take];rfl)) ?_
  with_reducible refine (impl_isKind.calls a0_0 true _ A4.out).mono ?_
  rintro e w' ⟨rfl, ⟨nd, rfl⟩⟩
  refine ⟨_, rfl, ?_⟩
  refine hK.out _ _ ⟨(blk_cell BK106.out 0).trans rfl, (blk_cell BK106.out 1).trans rfl, (blk_cell BK106.out 2).trans rfl, (blk_cell BK106.out 3).trans rfl⟩ (fun hHeld => ?_)
  clear hK K
  refine norm_ (a' := ?_) ?_ ?_
  rotate_left
  ·show Act.put _ (some 5) _ = _
   simp only [Act.put, List.setIfInBounds_toArray, List.set_cons_zero, List.set_cons_succ, i64_w, i32_w]
   rfl
  refine pure_ (i := 3) (N := some 6) (v := ?_) (a' := ?_) #[true, true, true, true, false, false, false, false, false, false, false, false, false] rfl rfl (any_of HT_.out (by kernel_rfl)) (fun _ _ _ h => h) (Or.inl ⟨by rfl, ?_⟩) ?_ ?_
  rotate_left
  ·intro w'
   go_simp
   with_reducible rfl
  rotate_left
  ·simp only [Act.put, List.setIfInBounds_toArray, List.set_cons_zero, List.set_cons_succ, i64_w, i32_w]
   rfl
  refine pure_ (i := 4) (N := some 7) (v := ?_) (a' := ?_) #[true, true, true, true, true, false, false, false, false, false, false, false, false] rfl rfl (any_of HT_.out (by kernel_rfl)) (fun _ _ _ h => h) (Or.inl ⟨by rfl, ?_⟩) ?_ ?_
  rotate_left
  ·intro w'
   go_simp
   with_reducible rfl
  rotate_left
  ·simp only [Act.put, List.setIfInBounds_toArray, List.set_cons_zero, List.set_cons_succ, i64_w, i32_w]
   rfl
  refine pure_ (i := 5) (N := some 8) (v := ?_) (a' := ?_) #[true, true, true, true, true, true, false, false, false, false, false, false, false] rfl rfl (any_of HT_.out (by kernel_rfl)) (fun _ _ _ h => h) (Or.inl ⟨by rfl, ?_⟩) ?_ ?_
  rotate_left
  ·intro w'
   go_simp
   with_reducible rfl
  rotate_left
  ·simp only [Act.put, List.setIfInBounds_toArray, List.set_cons_zero, List.set_cons_succ, i64_w, i32_w]
   rfl
  refine pure_ (i := 8) (N := some 11) (v := ?_) (a' := ?_) #[true, true, true, true, true, true, false, false, true, false, false, false, false] rfl rfl (any_of HT_.out (by kernel_rfl)) (fun _ _ _ h => h) (Or.inl ⟨by rfl, ?_⟩) ?_ ?_
  rotate_left
  ·intro w'
   go_simp
   with_reducible rfl
  rotate_left
  ·simp only [Act.put, List.setIfInBounds_toArray, List.set_cons_zero, List.set_cons_succ, i64_w, i32_w]
   rfl
  refine take_ (i := 6) (N := some 9) (v := ?_) (a' := ?_) #[true, true, true, true, true, true, true, false, true, false, false, false, false] rfl rfl (take_ofW HT_.out HW_.out (by kernel_rfl)) (fun _ _ _ h => h) (Or.inl ⟨by rfl, ?_⟩) hHeld ?_ ?_
  rotate_left
  ·rintro w' ⟨s0, s1, s2, s3⟩
   go_simp
   with_reducible rfl
  rotate_left
  ·simp only [Act.put, List.setIfInBounds_toArray, List.set_cons_zero, List.set_cons_succ, i64_w, i32_w]
   rfl
  refine pure_ (i := 7) (N := some 10) (v := ?_) (a' := ?_) #[true, true, true, true, true, true, true, true, true, false, false, false, false] rfl rfl (any_of HT_.out (by kernel_rfl)) (fun _ _ _ h => h) (Or.inl ⟨by rfl, ?_⟩) ?_ ?_
  rotate_left
  ·intro w'
   go_simp
   with_reducible rfl
  rotate_left
  ·simp only [Act.put, List.setIfInBounds_toArray, List.set_cons_zero, List.set_cons_succ, i64_w, i32_w]
   rfl
  refine take_ (i := 9) (N := some 12) (v := ?_) (a' := ?_) #[true, true, true, true, true, true, true, true, true, true, false, false, false] rfl rfl (take_ofW HT_.out HW_.out (by kernel_rfl)) (fun _ _ _ h => h) (Or.inl ⟨by rfl, ?_⟩) hHeld ?_ ?_
  rotate_left
  ·rintro w' ⟨s0, s1, s2, s3⟩
   go_simp
   with_reducible rfl
  rotate_left
  ·simp only [Act.put, List.setIfInBounds_toArray, List.set_cons_zero, List.set_cons_succ, i64_w, i32_w]
   rfl
  refine one_ (i := 10) (N := some 13) #[true, true, true, true, true, true, true, true, true, true, true, false, false] rfl rfl (one_of HT_.out (by kernel_rfl)) (by decide) (fun K hK => ?_)
  refine goes_ Tryd.func60 (by kernel_rfl) rfl #[.int .i64 a0_0] (by rfl) rfl rfl (by (try simp only [List.map_toArray, List.map_cons, List.map_nil]);first | done | rfl | (simp only [List.length_drop, List.length_take];rfl)) ?_
  with_reducible refine (impl_kids.calls a0_0 t108 _ A6.out).mono ?_
  rintro e w8 ⟨rfl, hb⟩
  refine ⟨_, rfl, ?_⟩
  have n0_ := m0_ (blk_below (g := gb106) (o := .cells #[.int .i64 a0_0, .int .i64 a0_1, .int .i64 a0_2, .slice A0_3 l0_3.length c0_3] 29 (0, 0)) (by (with_reducible repeat (first | refine blk_drewN ?_ _ | refine blk_drew ?_ | refine blk_alloc ?_ _));exact BK106.out) hb)
  have n1_ := m0_ (below_step (by repeat (first | (with_reducible first | exact HB.out | apply below_alloc | apply pw_below_drewN | apply below_drew1 | refine below_set ?_ GE106.out) | exact HB.out)) hb)
  clear BK106
  clear HB
  have BK106 := n0_
  have HB := n1_
  clear n0_ n1_
  (try clear hb)
  (try clear hb2)
  (try clear hk)
  (try clear hi)
  refine hK.out _ _ ⟨(blk_cell BK106.out 0).trans rfl, (blk_cell BK106.out 1).trans rfl, (blk_cell BK106.out 2).trans rfl, (blk_cell BK106.out 3).trans rfl⟩ (fun hHeld => ?_)
  clear hK K
  refine norm_ (a' := ?_) ?_ ?_
  rotate_left
  ·show Act.put _ (some 13) _ = _
   simp only [Act.put, List.setIfInBounds_toArray, List.set_cons_zero, List.set_cons_succ, i64_w, i32_w]
   rfl
  refine pure_ (i := 11) (N := some 14) (v := ?_) (a' := ?_) #[true, true, true, true, true, true, true, true, true, true, true, true, false] rfl rfl (any_of HT_.out (by kernel_rfl)) (fun _ _ _ h => h) (Or.inl ⟨by rfl, ?_⟩) ?_ ?_
  rotate_left
  ·intro w'
   go_simp
   with_reducible rfl
  rotate_left
  ·simp only [Act.put, List.setIfInBounds_toArray, List.set_cons_zero, List.set_cons_succ, i64_w, i32_w]
   rfl
  refine pure_ (i := 12) (N := some 15) (v := ?_) (a' := ?_) #[true, true, true, true, true, true, true, true, true, true, true, true, true] rfl rfl (any_of HT_.out (by kernel_rfl)) (fun _ _ _ h => h) (Or.inl ⟨by rfl, ?_⟩) ?_ ?_
  rotate_left
  ·intro w'
   go_simp
   with_reducible rfl
  rotate_left
  ·simp only [Act.put, List.setIfInBounds_toArray, List.set_cons_zero, List.set_cons_succ, i64_w, i32_w]
   rfl
  refine done_ (done_of HT_.out (by kernel_rfl)) ?_
  try go_wp2
  go_meet
  case rel => exact ⟨_, (((l0_3.length : Int) != t108)), (by first | rfl | (simp;done) | (simp [*];done)), H', ⟨by first | omega | exact Nat.le_refl _⟩, ⟨by (with_reducible repeat (first | refine blk_drewN ?_ _ | refine blk_drew ?_ | refine blk_alloc ?_ _));exact BK106.out⟩, ⟨by repeat (first | (with_reducible first | exact HB.out | apply below_alloc | apply pw_below_drewN | apply below_drew1 | refine below_set ?_ GE106.out) | exact HB.out)⟩⟩
 case rest =>
  clear HC2
  try clear p2
  try clear c3
  try clear c5
  try clear c6
  obtain ⟨kq, x15_1, rfl, HA, HJ1, BK106, HB⟩ := hcut
  cases kq with
  | zero => exact absurd HA.out (by simp [impl_Ex_formed.j0])
  | succ kj1 =>
   have H := HA.out
   clear HA
   simp only [impl_Ex_formed.j0] at H
   by_cases c10 : x15_1 = true
   ·subst c10
    have H1 : (some false) = some r := by rw [if_pos rfl] at H;exact H
    clear H
    have H := H1
    clear H1
    obtain rfl := Option.some.inj H
    go_wp2
    go_ret
    exact ⟨by first | rfl | (simp [errW_none, errW_some] <;> rfl) | (simp [*, errW_none, errW_some] <;> rfl), by repeat (first | (with_reducible first | exact HB.out | apply below_alloc | apply pw_below_drewN | apply below_drew1 | refine below_set ?_ GE106.out) | exact HB.out)⟩
   replace c10 := Bool.eq_false_iff.mpr c10
   subst c10
   have H1 : (if a0_0 = 1 then ((impl_isSym.f a0_1).bind fun t109 => (if t109 = true then (impl_Ex_formed.j1 kj1 false a0_0 a0_1 a0_2 l0_3) else (impl_Ex_formed.j1 kj1 true a0_0 a0_1 a0_2 l0_3))) else (impl_Ex_formed.j1 kj1 (a0_1 != 0) a0_0 a0_1 a0_2 l0_3)) = some r := by rw [if_neg (show ¬ (false = true) by decide)] at H;exact H
   clear H
   have H := H1
   clear H1
   have HC11 := m0_ H
   clear H
   go_upto_region 3 with (fail)
   go_cut [34] (fun v34 wc => ∃ (kq : Nat) (x34_10 : Bool), v34 = .bool x34_10 ∧ Aside0 (impl_Ex_formed.j1 kq x34_10 a0_0 a0_1 a0_2 l0_3 = some r) ∧ Aside0 (kq ≤ kj1) ∧ Aside0 (wc.heap[gb106]? = some (.cells #[.int .i64 a0_0, .int .i64 a0_1, .int .i64 a0_2, (.slice A0_3 l0_3.length c0_3)] 29 (0, 0))) ∧ Aside0 (Below w.heap.size w wc))
   case first =>
    have H := HC11.out
    clear HC11
    by_cases c12 : a0_0 = 1
    rotate_left
    ·rw [if_neg c12] at H
     have c12b0 : (a0_0 == 1) = false := beq_eq_false_iff_ne.mpr c12
     have c12b1 : (a0_0 != 1) = true := bne_iff_ne.mpr c12
     (first | rw [c12b0] | (simp only [i64_w, i32_w];rw [c12b0]) | skip)
     have H' := m0_ H
     clear H
     have hcz17_0 : wc.cell? ⟨gb106, 0, none⟩ = some (.int .i64 a0_0) := (blk_cell BK106.out 0).trans rfl
     have hcz17_1 : wc.cell? ⟨gb106, 1, none⟩ = some (.int .i64 a0_1) := (blk_cell BK106.out 1).trans rfl
     have hcz17_2 : wc.cell? ⟨gb106, 2, none⟩ = some (.int .i64 a0_2) := (blk_cell BK106.out 2).trans rfl
     have hcz17_3 : wc.cell? ⟨gb106, 3, none⟩ = some (.slice A0_3 l0_3.length c0_3) := (blk_cell BK106.out 3).trans rfl
     have hfz17_0 := blk_frozen BK106.out 0
     have hfz17_1 := blk_frozen BK106.out 1
     have hfz17_2 := blk_frozen BK106.out 2
     have hfz17_3 := blk_frozen BK106.out 3
     go_wp2
     go_meet
     case rel => exact ⟨_, ((a0_1 != 0)), (by first | rfl | (simp;done) | (simp [*];done)), H', ⟨by have := HJ1.out;first | omega | exact Nat.le_refl _⟩, ⟨by (with_reducible repeat (first | refine blk_drewN ?_ _ | refine blk_drew ?_ | refine blk_alloc ?_ _));exact BK106.out⟩, ⟨by repeat (first | (with_reducible first | exact HB.out | apply below_alloc | apply pw_below_drewN | apply below_drew1 | refine below_set ?_ GE106.out) | exact HB.out)⟩⟩
    rw [if_pos c12] at H
    have c12b0 : (a0_0 == 1) = true := beq_iff_eq.mpr c12
    have c12b1 : (a0_0 != 1) = false := bne_eq_false_iff_eq.mpr c12
    clear c12
    (first | rw [c12b0] | (simp only [i64_w, i32_w];rw [c12b0]) | skip)
    replace H := Option.bind_eq_some_iff.mp H
    obtain ⟨t109, A130, H⟩ := H
    replace H : (if t109 = true then (impl_Ex_formed.j1 kj1 false a0_0 a0_1 a0_2 l0_3) else (impl_Ex_formed.j1 kj1 true a0_0 a0_1 a0_2 l0_3)) = some r := H
    have A13 := m0_ A130
    clear A130
    by_cases c14 : t109 = true
    ·subst c14
     have H1 : (impl_Ex_formed.j1 kj1 false a0_0 a0_1 a0_2 l0_3) = some r := by rw [if_pos rfl] at H;exact H
     clear H
     have H := H1
     clear H1
     have H' := m0_ H
     clear H
     have hcz15_0 : wc.cell? ⟨gb106, 0, none⟩ = some (.int .i64 a0_0) := (blk_cell BK106.out 0).trans rfl
     have hcz15_1 : wc.cell? ⟨gb106, 1, none⟩ = some (.int .i64 a0_1) := (blk_cell BK106.out 1).trans rfl
     have hcz15_2 : wc.cell? ⟨gb106, 2, none⟩ = some (.int .i64 a0_2) := (blk_cell BK106.out 2).trans rfl
     have hcz15_3 : wc.cell? ⟨gb106, 3, none⟩ = some (.slice A0_3 l0_3.length c0_3) := (blk_cell BK106.out 3).trans rfl
     have hfz15_0 := blk_frozen BK106.out 0
     have hfz15_1 := blk_frozen BK106.out 1
     have hfz15_2 := blk_frozen BK106.out 2
     have hfz15_3 := blk_frozen BK106.out 3
     go_wp2_with (first | (go_at_call 61;(with_reducible refine (impl_isSym.calls a0_1 true _ A13.out).mono ?_);rintro e w' ⟨rfl, ⟨nd, rfl⟩⟩))
     go_meet
     case rel => exact ⟨_, (false), (by first | rfl | (simp;done) | (simp [*];done)), H', ⟨by have := HJ1.out;first | omega | exact Nat.le_refl _⟩, ⟨by (with_reducible repeat (first | refine blk_drewN ?_ _ | refine blk_drew ?_ | refine blk_alloc ?_ _));exact BK106.out⟩, ⟨by repeat (first | (with_reducible first | exact HB.out | apply below_alloc | apply pw_below_drewN | apply below_drew1 | refine below_set ?_ GE106.out) | exact HB.out)⟩⟩
    replace c14 := Bool.eq_false_iff.mpr c14
    subst c14
    have H1 : (impl_Ex_formed.j1 kj1 true a0_0 a0_1 a0_2 l0_3) = some r := by rw [if_neg (show ¬ (false = true) by decide)] at H;exact H
    clear H
    have H := H1
    clear H1
    have H' := m0_ H
    clear H
    have hcz16_0 : wc.cell? ⟨gb106, 0, none⟩ = some (.int .i64 a0_0) := (blk_cell BK106.out 0).trans rfl
    have hcz16_1 : wc.cell? ⟨gb106, 1, none⟩ = some (.int .i64 a0_1) := (blk_cell BK106.out 1).trans rfl
    have hcz16_2 : wc.cell? ⟨gb106, 2, none⟩ = some (.int .i64 a0_2) := (blk_cell BK106.out 2).trans rfl
    have hcz16_3 : wc.cell? ⟨gb106, 3, none⟩ = some (.slice A0_3 l0_3.length c0_3) := (blk_cell BK106.out 3).trans rfl
    have hfz16_0 := blk_frozen BK106.out 0
    have hfz16_1 := blk_frozen BK106.out 1
    have hfz16_2 := blk_frozen BK106.out 2
    have hfz16_3 := blk_frozen BK106.out 3
    go_wp2_with (first | (go_at_call 61;(with_reducible refine (impl_isSym.calls a0_1 false _ A13.out).mono ?_);rintro e w' ⟨rfl, ⟨nd, rfl⟩⟩))
    go_meet
    case rel => exact ⟨_, (true), (by first | rfl | (simp;done) | (simp [*];done)), H', ⟨by have := HJ1.out;first | omega | exact Nat.le_refl _⟩, ⟨by (with_reducible repeat (first | refine blk_drewN ?_ _ | refine blk_drew ?_ | refine blk_alloc ?_ _));exact BK106.out⟩, ⟨by repeat (first | (with_reducible first | exact HB.out | apply below_alloc | apply pw_below_drewN | apply below_drew1 | refine below_set ?_ GE106.out) | exact HB.out)⟩⟩
   case rest =>
    clear HC11
    try clear c1
    try clear p2
    try clear c3
    try clear c5
    try clear c6
    try clear c10
    try clear c12
    try clear c12b0
    try clear c12b1
    try clear c14
    try clear hcz15_0
    try clear hcz15_1
    try clear hcz15_2
    try clear hcz15_3
    try clear hcz16_0
    try clear hcz16_1
    try clear hcz16_2
    try clear hcz16_3
    try clear hcz17_0
    try clear hcz17_1
    try clear hcz17_2
    try clear hcz17_3
    try clear hfz15_0
    try clear hfz15_1
    try clear hfz15_2
    try clear hfz15_3
    try clear hfz16_0
    try clear hfz16_1
    try clear hfz16_2
    try clear hfz16_3
    try clear hfz17_0
    try clear hfz17_1
    try clear hfz17_2
    try clear hfz17_3
    try clear p2
    obtain ⟨kq, x34_10, rfl, HA, HJ10, BK106, HB⟩ := hcut
    cases kq with
    | zero => exact absurd HA.out (by simp [impl_Ex_formed.j1])
    | succ kj10 =>
     have H := HA.out
     clear HA
     simp only [impl_Ex_formed.j1] at H
     by_cases c18 : x34_10 = true
     ·subst c18
      have H1 : (some false) = some r := by rw [if_pos rfl] at H;exact H
      clear H
      have H := H1
      clear H1
      obtain rfl := Option.some.inj H
      go_wp2
      go_ret
      exact ⟨by first | rfl | (simp [errW_none, errW_some] <;> rfl) | (simp [*, errW_none, errW_some] <;> rfl), by repeat (first | (with_reducible first | exact HB.out | apply below_alloc | apply pw_below_drewN | apply below_drew1 | refine below_set ?_ GE106.out) | exact HB.out)⟩
     replace c18 := Bool.eq_false_iff.mpr c18
     subst c18
     have H1 : (if a0_0 = 7 then ((impl_in.f a0_2 1 20).bind fun t110 => (if t110 = true then ((impl_Ex_63.f kj10 l0_3).bind fun t111 => (some (!t111))) else (some false))) else (if a0_2 = 0 then ((impl_Ex_63.f kj10 l0_3).bind fun t112 => (some (!t112))) else (some false))) = some r := by rw [if_neg (show ¬ (false = true) by decide)] at H;exact H
     clear H
     have H := H1
     clear H1
     by_cases c19 : a0_0 = 7
     rotate_left
     ·rw [if_neg c19] at H
      have c19b0 : (a0_0 == 7) = false := beq_eq_false_iff_ne.mpr c19
      have c19b1 : (a0_0 != 7) = true := bne_iff_ne.mpr c19
      by_cases c26 : a0_2 = 0
      ·rw [if_pos c26] at H
       have c26b0 : (a0_2 == 0) = true := beq_iff_eq.mpr c26
       have c26b1 : (a0_2 != 0) = false := bne_eq_false_iff_eq.mpr c26
       clear c26
       replace H := Option.bind_eq_some_iff.mp H
       obtain ⟨t112, A270, H⟩ := H
       replace H : (some (!t112)) = some r := H
       have A27 := m0_ A270
       clear A270
       obtain rfl := Option.some.inj H
       have hcz28_0 : wc.cell? ⟨gb106, 0, none⟩ = some (.int .i64 a0_0) := (blk_cell BK106.out 0).trans rfl
       have hcz28_1 : wc.cell? ⟨gb106, 1, none⟩ = some (.int .i64 a0_1) := (blk_cell BK106.out 1).trans rfl
       have hcz28_2 : wc.cell? ⟨gb106, 2, none⟩ = some (.int .i64 a0_2) := (blk_cell BK106.out 2).trans rfl
       have hcz28_3 : wc.cell? ⟨gb106, 3, none⟩ = some (.slice A0_3 l0_3.length c0_3) := (blk_cell BK106.out 3).trans rfl
       have hfz28_0 := blk_frozen BK106.out 0
       have hfz28_1 := blk_frozen BK106.out 1
       have hfz28_2 := blk_frozen BK106.out 2
       have hfz28_3 := blk_frozen BK106.out 3
       go_wp2_with (first | ((with_reducible refine gate_callee (f := 63) rfl ?_);refine goesL_ (some 56) rfl rfl Tryd.func63 (by kernel_rfl) rfl #[.slice A0_3 l0_3.length c0_3, .func (.func 64) #[] #[]] rfl (by (try simp only [List.map_toArray, List.map_cons, List.map_nil]);first | done | rfl | (simp only [List.length_drop, List.length_take];rfl)) ?_;(with_reducible refine (ih_63 kj10 (by have := HJ1.out;have := HJ10.out;omega) _ _ l0_3  t112 _ ?side1 ?side2 A27.out).mono ?_);(case side1 => repeat (first | exact (Kd.C_below HR0_3.out HB.out) | (with_reducible refine Kd.C_alloc ?_ _) | (with_reducible refine Kd.C_drewN ?_ _) | (with_reducible refine Kd.C_drew ?_)));(case side2 => exact HC0_3.out);rintro e w29 ⟨rfl, hb⟩;refine ⟨_, rfl, ?_⟩;have n0_ := m0_ (blk_below (g := gb106) (o := .cells #[.int .i64 a0_0, .int .i64 a0_1, .int .i64 a0_2, .slice A0_3 l0_3.length c0_3] 29 (0, 0)) (by (with_reducible repeat (first | refine blk_drewN ?_ _ | refine blk_drew ?_ | refine blk_alloc ?_ _));exact BK106.out) hb);have n1_ := m0_ (below_step (by repeat (first | (with_reducible first | exact HB.out | apply below_alloc | apply pw_below_drewN | apply below_drew1 | refine below_set ?_ GE106.out) | exact HB.out)) hb);clear BK106;clear HB;have BK106 := n0_;have HB := n1_;clear n0_ n1_;(try clear hb);(try clear hb2);(try clear hk);(try clear hi)))
       go_ret
       exact ⟨by first | rfl | (simp [errW_none, errW_some] <;> rfl) | (simp [*, errW_none, errW_some] <;> rfl), by repeat (first | (with_reducible first | exact HB.out | apply below_alloc | apply pw_below_drewN | apply below_drew1 | refine below_set ?_ GE106.out) | exact HB.out)⟩
      ·rw [if_neg c26] at H
       have c26b0 : (a0_2 == 0) = false := beq_eq_false_iff_ne.mpr c26
       have c26b1 : (a0_2 != 0) = true := bne_iff_ne.mpr c26
       obtain rfl := Option.some.inj H
       have hcz30_0 : wc.cell? ⟨gb106, 0, none⟩ = some (.int .i64 a0_0) := (blk_cell BK106.out 0).trans rfl
       have hcz30_1 : wc.cell? ⟨gb106, 1, none⟩ = some (.int .i64 a0_1) := (blk_cell BK106.out 1).trans rfl
       have hcz30_2 : wc.cell? ⟨gb106, 2, none⟩ = some (.int .i64 a0_2) := (blk_cell BK106.out 2).trans rfl
       have hcz30_3 : wc.cell? ⟨gb106, 3, none⟩ = some (.slice A0_3 l0_3.length c0_3) := (blk_cell BK106.out 3).trans rfl
       have hfz30_0 := blk_frozen BK106.out 0
       have hfz30_1 := blk_frozen BK106.out 1
       have hfz30_2 := blk_frozen BK106.out 2
       have hfz30_3 := blk_frozen BK106.out 3
       go_wp2
       go_ret
       exact ⟨by first | rfl | (simp [errW_none, errW_some] <;> rfl) | (simp [*, errW_none, errW_some] <;> rfl), by repeat (first | (with_reducible first | exact HB.out | apply below_alloc | apply pw_below_drewN | apply below_drew1 | refine below_set ?_ GE106.out) | exact HB.out)⟩
     rw [if_pos c19] at H
     have c19b0 : (a0_0 == 7) = true := beq_iff_eq.mpr c19
     have c19b1 : (a0_0 != 7) = false := bne_eq_false_iff_eq.mpr c19
     clear c19
     replace H := Option.bind_eq_some_iff.mp H
     obtain ⟨t110, A200, H⟩ := H
     replace H : (if t110 = true then ((impl_Ex_63.f kj10 l0_3).bind fun t111 => (some (!t111))) else (some false)) = some r := H
     have A20 := m0_ A200
     clear A200
     by_cases c21 : t110 = true
     rotate_left
     ·replace c21 := Bool.eq_false_iff.mpr c21
      subst c21
      have H1 : (some false) = some r := by rw [if_neg (show ¬ (false = true) by decide)] at H;exact H
      clear H
      have H := H1
      clear H1
      obtain rfl := Option.some.inj H
      have hcz25_0 : wc.cell? ⟨gb106, 0, none⟩ = some (.int .i64 a0_0) := (blk_cell BK106.out 0).trans rfl
      have hcz25_1 : wc.cell? ⟨gb106, 1, none⟩ = some (.int .i64 a0_1) := (blk_cell BK106.out 1).trans rfl
      have hcz25_2 : wc.cell? ⟨gb106, 2, none⟩ = some (.int .i64 a0_2) := (blk_cell BK106.out 2).trans rfl
      have hcz25_3 : wc.cell? ⟨gb106, 3, none⟩ = some (.slice A0_3 l0_3.length c0_3) := (blk_cell BK106.out 3).trans rfl
      have hfz25_0 := blk_frozen BK106.out 0
      have hfz25_1 := blk_frozen BK106.out 1
      have hfz25_2 := blk_frozen BK106.out 2
      have hfz25_3 := blk_frozen BK106.out 3
      go_wp2_with (first | (go_at_call 62;(with_reducible refine (impl_in.calls a0_2 1 20 false _ A20.out).mono ?_);rintro e w' ⟨rfl, ⟨nd, rfl⟩⟩))
      go_ret
      exact ⟨by first | rfl | (simp [errW_none, errW_some] <;> rfl) | (simp [*, errW_none, errW_some] <;> rfl), by repeat (first | (with_reducible first | exact HB.out | apply below_alloc | apply pw_below_drewN | apply below_drew1 | refine below_set ?_ GE106.out) | exact HB.out)⟩
     subst c21
     have H1 : ((impl_Ex_63.f kj10 l0_3).bind fun t111 => (some (!t111))) = some r := by rw [if_pos rfl] at H;exact H
     clear H
     have H := H1
     clear H1
     replace H := Option.bind_eq_some_iff.mp H
     obtain ⟨t111, A220, H⟩ := H
     replace H : (some (!t111)) = some r := H
     have A22 := m0_ A220
     clear A220
     obtain rfl := Option.some.inj H
     have hcz23_0 : wc.cell? ⟨gb106, 0, none⟩ = some (.int .i64 a0_0) := (blk_cell BK106.out 0).trans rfl
     have hcz23_1 : wc.cell? ⟨gb106, 1, none⟩ = some (.int .i64 a0_1) := (blk_cell BK106.out 1).trans rfl
     have hcz23_2 : wc.cell? ⟨gb106, 2, none⟩ = some (.int .i64 a0_2) := (blk_cell BK106.out 2).trans rfl
     have hcz23_3 : wc.cell? ⟨gb106, 3, none⟩ = some (.slice A0_3 l0_3.length c0_3) := (blk_cell BK106.out 3).trans rfl
     have hfz23_0 := blk_frozen BK106.out 0
     have hfz23_1 := blk_frozen BK106.out 1
     have hfz23_2 := blk_frozen BK106.out 2
     have hfz23_3 := blk_frozen BK106.out 3
     go_wp2_with (first | (go_at_call 62;(with_reducible refine (impl_in.calls a0_2 1 20 true _ A20.out).mono ?_);rintro e w' ⟨rfl, ⟨nd, rfl⟩⟩) | ((with_reducible refine gate_callee (f := 63) rfl ?_);refine goesL_ (some 56) rfl rfl Tryd.func63 (by kernel_rfl) rfl #[.slice A0_3 l0_3.length c0_3, .func (.func 64) #[] #[]] rfl (by (try simp only [List.map_toArray, List.map_cons, List.map_nil]);first | done | rfl | (simp only [List.length_drop, List.length_take];rfl)) ?_;(with_reducible refine (ih_63 kj10 (by have := HJ1.out;have := HJ10.out;omega) _ _ l0_3  t111 _ ?side1 ?side2 A22.out).mono ?_);(case side1 => repeat (first | exact (Kd.C_below HR0_3.out (by repeat (first | (with_reducible first | exact HB.out | apply below_alloc | apply pw_below_drewN | apply below_drew1 | refine below_set ?_ GE106.out) | exact HB.out))) | (with_reducible refine Kd.C_alloc ?_ _) | (with_reducible refine Kd.C_drewN ?_ _) | (with_reducible refine Kd.C_drew ?_)));(case side2 => exact HC0_3.out);rintro e w24 ⟨rfl, hb⟩;refine ⟨_, rfl, ?_⟩;have n0_ := m0_ (blk_below (g := gb106) (o := .cells #[.int .i64 a0_0, .int .i64 a0_1, .int .i64 a0_2, .slice A0_3 l0_3.length c0_3] 29 (0, 0)) (by (with_reducible repeat (first | refine blk_drewN ?_ _ | refine blk_drew ?_ | refine blk_alloc ?_ _));exact BK106.out) hb);have n1_ := m0_ (below_step (by repeat (first | (with_reducible first | exact HB.out | apply below_alloc | apply pw_below_drewN | apply below_drew1 | refine below_set ?_ GE106.out) | exact HB.out)) hb);clear BK106;clear HB;have BK106 := n0_;have HB := n1_;clear n0_ n1_;(try clear hb);(try clear hb2);(try clear hk);(try clear hi)))
     go_ret
     exact ⟨by first | rfl | (simp [errW_none, errW_some] <;> rfl) | (simp [*, errW_none, errW_some] <;> rfl), by repeat (first | (with_reducible first | exact HB.out | apply below_alloc | apply pw_below_drewN | apply below_drew1 | refine below_set ?_ GE106.out) | exact HB.out)⟩

theorem impl_Ex_formed_1.calls_all (k : Nat) : (∀ (a0_0 : Int) (a0_1 : Int) (a0_2 : Int) (A0_3 : Option Addr) (c0_3 : Nat) (l0_3 : List (S29)) (r : Bool) (w : World) (hr0_3 : Kd.C k29 w A0_3 l0_3.length l0_3) (hc0_3 : l0_3.length ≤ c0_3) (h : impl_Ex_formed_1.f k a0_0 a0_1 a0_2 l0_3 = some r),
  Calls Tryd.prog 64 #[.agg #[.int .i64 a0_0, .int .i64 a0_1, .int .i64 a0_2, .slice A0_3 l0_3.length c0_3]] w fun e w' => e = .returned (.bool r) ∧ Below w.heap.size w w') ∧ (∀ (A0 : Option Addr) (c0 : Nat) (l0 : List (S29))  (r : Int) (w : World) (hr0 : Kd.C k29 w A0 l0.length l0) (hc0 : l0.length ≤ c0) (h : impl_Ex_75.f k l0 = some r),
  Calls Tryd.prog 75 #[.slice A0 l0.length c0, .func (.func 64) #[] #[]] w fun e w' => e = .returned (.int .i64 r) ∧ Below w.heap.size w w') ∧ (∀ (A0 : Option Addr) (c0 : Nat) (l0 : List (S29))  (r : Bool) (w : World) (hr0 : Kd.C k29 w A0 l0.length l0) (hc0 : l0.length ≤ c0) (h : impl_Ex_63.f k l0 = some r),
  Calls Tryd.prog 63 #[.slice A0 l0.length c0, .func (.func 64) #[] #[]] w fun e w' => e = .returned (.bool r) ∧ Below w.heap.size w w') ∧ (∀ (a0_0 : Int) (a0_1 : Int) (a0_2 : Int) (A0_3 : Option Addr) (c0_3 : Nat) (l0_3 : List (S29)) (r : Bool) (w : World) (hr0_3 : Kd.C k29 w A0_3 l0_3.length l0_3) (hc0_3 : l0_3.length ≤ c0_3) (h : impl_Ex_formed.f k a0_0 a0_1 a0_2 l0_3 = some r),
  Calls Tryd.prog 38 #[.agg #[.int .i64 a0_0, .int .i64 a0_1, .int .i64 a0_2, .slice A0_3 l0_3.length c0_3]] w fun e w' => e = .returned (.bool r) ∧ Below w.heap.size w w') := by
 induction k using Nat.strongRecOn with
 | _ k ih =>
 exact ⟨impl_Ex_formed_1.calls_step k (fun k_ h_ => (ih k_ h_).1) (fun k_ h_ => (ih k_ h_).2.1) (fun k_ h_ => (ih k_ h_).2.2.1) (fun k_ h_ => (ih k_ h_).2.2.2), impl_Ex_75.calls_step k (fun k_ h_ => (ih k_ h_).1) (fun k_ h_ => (ih k_ h_).2.1) (fun k_ h_ => (ih k_ h_).2.2.1) (fun k_ h_ => (ih k_ h_).2.2.2), impl_Ex_63.calls_step k (fun k_ h_ => (ih k_ h_).1) (fun k_ h_ => (ih k_ h_).2.1) (fun k_ h_ => (ih k_ h_).2.2.1) (fun k_ h_ => (ih k_ h_).2.2.2), impl_Ex_formed.calls_step k (fun k_ h_ => (ih k_ h_).1) (fun k_ h_ => (ih k_ h_).2.1) (fun k_ h_ => (ih k_ h_).2.2.1) (fun k_ h_ => (ih k_ h_).2.2.2)⟩
theorem impl_Ex_formed.calls (k : Nat) : ∀ (a0_0 : Int) (a0_1 : Int) (a0_2 : Int) (A0_3 : Option Addr) (c0_3 : Nat) (l0_3 : List (S29)) (r : Bool) (w : World) (hr0_3 : Kd.C k29 w A0_3 l0_3.length l0_3) (hc0_3 : l0_3.length ≤ c0_3) (h : impl_Ex_formed.f k a0_0 a0_1 a0_2 l0_3 = some r),
  Calls Tryd.prog 38 #[.agg #[.int .i64 a0_0, .int .i64 a0_1, .int .i64 a0_2, .slice A0_3 l0_3.length c0_3]] w fun e w' => e = .returned (.bool r) ∧ Below w.heap.size w w' := (impl_Ex_formed_1.calls_all k).2.2.2

def impl_ExOk.f (k : Nat) (a0_0 : Int) (a0_1 : Int) (a0_2 : Int) (l0_3 : List (S29)) : Option (Bool) := (impl_Ex_size.f k a0_0 a0_1 a0_2 l0_3).bind fun bt102 => (if bt102.1 ≤ 12 then (if bt102.2 ≤ 5 then ((impl_Ex_formed.f k a0_0 a0_1 a0_2 l0_3).bind fun t104 => (some t104)) else (some false)) else (some false))
set_option maxHeartbeats 8000000 in
set_option maxRecDepth 100000 in
theorem impl_ExOk.calls (k : Nat) (a0_0 : Int) (a0_1 : Int) (a0_2 : Int) (A0_3 : Option Addr) (c0_3 : Nat) (l0_3 : List (S29)) (r : Bool) (w : World) (hr0_3 : Kd.C k29 w A0_3 l0_3.length l0_3) (hc0_3 : l0_3.length ≤ c0_3) (h : impl_ExOk.f k a0_0 a0_1 a0_2 l0_3 = some r) :
  Calls Tryd.prog 19 #[.agg #[.int .i64 a0_0, .int .i64 a0_1, .int .i64 a0_2, .slice A0_3 l0_3.length c0_3]] w fun e w' => e = .returned (.bool r) ∧ Below w.heap.size w w' := by
 have hu29 := Tryd.underlying29
 have HR0_3 := m0_ hr0_3
 have HC0_3 := m0_ hc0_3
 clear hr0_3 hc0_3
 have HB := m0_ (Below.refl w.heap.size w)
 have H : ((impl_Ex_size.f k a0_0 a0_1 a0_2 l0_3).bind fun bt102 => (if bt102.1 ≤ 12 then (if bt102.2 ≤ 5 then ((impl_Ex_formed.f k a0_0 a0_1 a0_2 l0_3).bind fun t104 => (some t104)) else (some false)) else (some false))) = some r := h
 clear h
 replace H := Option.bind_eq_some_iff.mp H
 obtain ⟨⟨t102, t103⟩, A20, H⟩ := H
 replace H : (if t102 ≤ 12 then (if t103 ≤ 5 then ((impl_Ex_formed.f k a0_0 a0_1 a0_2 l0_3).bind fun t104 => (some t104)) else (some false)) else (some false)) = some r := H
 have A2 := m0_ A20
 clear A20
 by_cases c3 : t102 ≤ 12
 rotate_left
 ·rw [if_neg c3] at H
  have c3b0 : decide (t102 ≤ 12) = false := decide_eq_false c3
  clear c3
  obtain rfl := Option.some.inj H
  go_enter Tryd.func19, Tryd.ntmps19
  go_wp2_with (first | ((with_reducible refine gate_dst (N := 1) rfl ?_);refine box_event ?hg (N := 1) ?hd (cs := #[.int .i64 a0_0, .int .i64 a0_1, .int .i64 a0_2, .slice A0_3 l0_3.length c0_3]) (t := 29) ?hr ?_;(case hd => rfl);(case hg => rfl);(case hr => first | (go_simp;done) | (go_simp;rfl));intro gb101 hg w14 hbox hb;have BK101 := m0_ (hbox);have GW101 := m0_ ((by rw [hg];exact (below_size (by exact HB.out)) : w.heap.size ≤ gb101));have GE101 := m0_ ((by rw [hg];exact (below_size (by exact HB.out)) : w.heap.size ≤ gb101));replace HB := m0_ (below_step (by exact HB.out) hb);clear hb hbox hg;obtain ⟨hcz15_0, hcz15_1, hcz15_2, hcz15_3, hfz15_0, hfz15_1, hfz15_2, hfz15_3⟩ := bx4 BK101.out) | ((with_reducible refine gate_callee (f := 37) rfl ?_);refine goesL_ (some 7) rfl rfl Tryd.func37 (by kernel_rfl) rfl #[.agg #[.int .i64 a0_0, .int .i64 a0_1, .int .i64 a0_2, .slice A0_3 l0_3.length c0_3]] rfl (by (try simp only [List.map_toArray, List.map_cons, List.map_nil]);first | done | rfl | (simp only [List.length_drop, List.length_take];rfl)) ?_;(with_reducible refine (impl_Ex_size.calls k a0_0 a0_1 a0_2 _ _ l0_3 t102 t103 _ ?side1 ?side2 A2.out).mono ?_);(case side1 => repeat (first | exact (Kd.C_below HR0_3.out HB.out) | (with_reducible refine Kd.C_alloc ?_ _) | (with_reducible refine Kd.C_drewN ?_ _) | (with_reducible refine Kd.C_drew ?_)));(case side2 => exact HC0_3.out);rintro e w16 ⟨rfl, hb⟩;refine ⟨_, rfl, ?_⟩;replace BK101 := m0_ (blk_below BK101.out hb);replace HB := m0_ (below_step (by exact HB.out) hb);(try clear hb);(try clear hb2);(try clear hk);(try clear hi)))
  go_ret
  exact ⟨by first | rfl | (simp [errW_none, errW_some] <;> rfl) | (simp [*, errW_none, errW_some] <;> rfl), by repeat (first | (with_reducible first | exact HB.out | apply below_alloc | apply pw_below_drewN | apply below_drew1 | refine below_set ?_ GE101.out) | exact HB.out)⟩
 rw [if_pos c3] at H
 have c3b0 : decide (t102 ≤ 12) = true := decide_eq_true c3
 clear c3
 by_cases c4 : t103 ≤ 5
 ·rw [if_pos c4] at H
  have c4b0 : decide (t103 ≤ 5) = true := decide_eq_true c4
  clear c4
  replace H := Option.bind_eq_some_iff.mp H
  obtain ⟨t104, A50, H⟩ := H
  replace H : (some t104) = some r := H
  have A5 := m0_ A50
  clear A50
  obtain rfl := Option.some.inj H
  go_enter Tryd.func19, Tryd.ntmps19
  go_wp2_with (first | ((with_reducible refine gate_dst (N := 1) rfl ?_);refine box_event ?hg (N := 1) ?hd (cs := #[.int .i64 a0_0, .int .i64 a0_1, .int .i64 a0_2, .slice A0_3 l0_3.length c0_3]) (t := 29) ?hr ?_;(case hd => rfl);(case hg => rfl);(case hr => first | (go_simp;done) | (go_simp;rfl));intro gb101 hg w6 hbox hb;have BK101 := m0_ (hbox);have GW101 := m0_ ((by rw [hg];exact (below_size (by exact HB.out)) : w.heap.size ≤ gb101));have GE101 := m0_ ((by rw [hg];exact (below_size (by exact HB.out)) : w.heap.size ≤ gb101));replace HB := m0_ (below_step (by exact HB.out) hb);clear hb hbox hg;obtain ⟨hcz7_0, hcz7_1, hcz7_2, hcz7_3, hfz7_0, hfz7_1, hfz7_2, hfz7_3⟩ := bx4 BK101.out) | ((with_reducible refine gate_callee (f := 37) rfl ?_);refine goesL_ (some 7) rfl rfl Tryd.func37 (by kernel_rfl) rfl #[.agg #[.int .i64 a0_0, .int .i64 a0_1, .int .i64 a0_2, .slice A0_3 l0_3.length c0_3]] rfl (by (try simp only [List.map_toArray, List.map_cons, List.map_nil]);first | done | rfl | (simp only [List.length_drop, List.length_take];rfl)) ?_;(with_reducible refine (impl_Ex_size.calls k a0_0 a0_1 a0_2 _ _ l0_3 t102 t103 _ ?side1 ?side2 A2.out).mono ?_);(case side1 => repeat (first | exact (Kd.C_below HR0_3.out HB.out) | (with_reducible refine Kd.C_alloc ?_ _) | (with_reducible refine Kd.C_drewN ?_ _) | (with_reducible refine Kd.C_drew ?_)));(case side2 => exact HC0_3.out);rintro e w8 ⟨rfl, hb⟩;refine ⟨_, rfl, ?_⟩;replace BK101 := m0_ (blk_below BK101.out hb);replace HB := m0_ (below_step (by exact HB.out) hb);(try clear hb);(try clear hb2);(try clear hk);(try clear hi);obtain ⟨hcz9_0, hcz9_1, hcz9_2, hcz9_3, hfz9_0, hfz9_1, hfz9_2, hfz9_3⟩ := bx4 BK101.out) | (go_at_call 38;(with_reducible refine (impl_Ex_formed.calls k a0_0 a0_1 a0_2 _ _ l0_3 t104 _ ?side1 ?side2 A5.out).mono ?_);(case side1 => repeat (first | exact (Kd.C_below HR0_3.out HB.out) | (with_reducible refine Kd.C_alloc ?_ _) | (with_reducible refine Kd.C_drewN ?_ _) | (with_reducible refine Kd.C_drew ?_)));(case side2 => exact HC0_3.out);rintro e w10 ⟨rfl, hb⟩;replace BK101 := m0_ (blk_below BK101.out hb);replace HB := m0_ (below_step (by exact HB.out) hb);(try clear hb);(try clear hb2);(try clear hk);(try clear hi)))
  go_ret
  exact ⟨by first | rfl | (simp [errW_none, errW_some] <;> rfl) | (simp [*, errW_none, errW_some] <;> rfl), by repeat (first | (with_reducible first | exact HB.out | apply below_alloc | apply pw_below_drewN | apply below_drew1 | refine below_set ?_ GE101.out) | exact HB.out)⟩
 ·rw [if_neg c4] at H
  have c4b0 : decide (t103 ≤ 5) = false := decide_eq_false c4
  clear c4
  obtain rfl := Option.some.inj H
  go_enter Tryd.func19, Tryd.ntmps19
  go_wp2_with (first | ((with_reducible refine gate_dst (N := 1) rfl ?_);refine box_event ?hg (N := 1) ?hd (cs := #[.int .i64 a0_0, .int .i64 a0_1, .int .i64 a0_2, .slice A0_3 l0_3.length c0_3]) (t := 29) ?hr ?_;(case hd => rfl);(case hg => rfl);(case hr => first | (go_simp;done) | (go_simp;rfl));intro gb101 hg w11 hbox hb;have BK101 := m0_ (hbox);have GW101 := m0_ ((by rw [hg];exact (below_size (by exact HB.out)) : w.heap.size ≤ gb101));have GE101 := m0_ ((by rw [hg];exact (below_size (by exact HB.out)) : w.heap.size ≤ gb101));replace HB := m0_ (below_step (by exact HB.out) hb);clear hb hbox hg;obtain ⟨hcz12_0, hcz12_1, hcz12_2, hcz12_3, hfz12_0, hfz12_1, hfz12_2, hfz12_3⟩ := bx4 BK101.out) | ((with_reducible refine gate_callee (f := 37) rfl ?_);refine goesL_ (some 7) rfl rfl Tryd.func37 (by kernel_rfl) rfl #[.agg #[.int .i64 a0_0, .int .i64 a0_1, .int .i64 a0_2, .slice A0_3 l0_3.length c0_3]] rfl (by (try simp only [List.map_toArray, List.map_cons, List.map_nil]);first | done | rfl | (simp only [List.length_drop, List.length_take];rfl)) ?_;(with_reducible refine (impl_Ex_size.calls k a0_0 a0_1 a0_2 _ _ l0_3 t102 t103 _ ?side1 ?side2 A2.out).mono ?_);(case side1 => repeat (first | exact (Kd.C_below HR0_3.out HB.out) | (with_reducible refine Kd.C_alloc ?_ _) | (with_reducible refine Kd.C_drewN ?_ _) | (with_reducible refine Kd.C_drew ?_)));(case side2 => exact HC0_3.out);rintro e w13 ⟨rfl, hb⟩;refine ⟨_, rfl, ?_⟩;replace BK101 := m0_ (blk_below BK101.out hb);replace HB := m0_ (below_step (by exact HB.out) hb);(try clear hb);(try clear hb2);(try clear hk);(try clear hi)))
  go_ret
  exact ⟨by first | rfl | (simp [errW_none, errW_some] <;> rfl) | (simp [*, errW_none, errW_some] <;> rfl), by repeat (first | (with_reducible first | exact HB.out | apply below_alloc | apply pw_below_drewN | apply below_drew1 | refine below_set ?_ GE101.out) | exact HB.out)⟩

end Go.Proofs.YtbcdfbiggjfmlaaDoor.M
namespace Go.Proofs.YtbcdfbiggjfmlaaDoor.M
set_option linter.unusedVariables false
set_option linter.unusedSimpArgs false
open Go Go.RowKit Go.Proofs.YtbcdfbiggjfmlaaDoorW.PrintWords Go.Proofs.YtbcdfbiggjfmlaaDoorW.PrintLast Go.Proofs.YtbcdfbiggjfmlaaDoorW.PrintMore

theorem indT {P : S29 → Prop} (h : ∀ x, (∀ y ∈ x.f3, P y) → P x) : ∀ x, P x := by
  have key : ∀ n, ∀ x : S29, SizeOf.sizeOf x ≤ n → P x := by
    intro n
    induction n with
    | zero => intro x hx; cases x; simp at hx
    | succ n ih =>
      intro x hx
      refine h x (fun y hy => ih y ?_)
      have := List.sizeOf_lt_of_mem hy
      cases x
      simp at *
      omega
  exact fun x => key _ x (Nat.le_refl _)
def exW : List ByteArray := [⟨#[]⟩, ⟨#[]⟩, ⟨#[111, 114]⟩, ⟨#[97, 110, 100]⟩, ⟨#[115, 101, 113]⟩, ⟨#[110, 111, 116]⟩, ⟨#[101, 97, 99, 104]⟩, ⟨#[112, 108, 117, 115]⟩]
def letB (a : Int) : ByteArray := (⟨#[97, 98, 99, 100, 101]⟩ : ByteArray).extract a.toNat (wrap64 (a + 1)).toNat
def decB (a : Int) : ByteArray := ⟨(Lib.decDigits a.toNat).toArray⟩
mutual
def textP : S29 → ByteArray
  | ⟨a, b, n, l⟩ => if a = 1 then letB b else (if a = 7 then rdOf ByteArray.empty exW a ++ ((⟨#[32]⟩ : ByteArray) ++ decB n) else rdOf ByteArray.empty exW a) ++ textsP l
def textsP : List S29 → ByteArray
  | [] => ByteArray.empty
  | x :: xs => ((⟨#[32]⟩ : ByteArray) ++ textP x) ++ textsP xs
end
theorem textP_is (x : S29) : textP x = if x.f0 = 1 then letB x.f1 else (if x.f0 = 7 then rdOf ByteArray.empty exW x.f0 ++ ((⟨#[32]⟩ : ByteArray) ++ decB x.f2) else rdOf ByteArray.empty exW x.f0) ++ textsP x.f3 := by cases x; simp only [textP]
theorem textsP_nil : textsP [] = ByteArray.empty := by simp only [textsP]
theorem textsP_cons (x : S29) (l : List S29) : textsP (x :: l) = ((⟨#[32]⟩ : ByteArray) ++ textP x) ++ textsP l := by simp only [textsP]
theorem textsP_drop (l : List S29) (n : Nat) (h : n < l.length) : textsP (l.drop n) = ((⟨#[32]⟩ : ByteArray) ++ textP (l.getD n z29)) ++ textsP (l.drop (n + 1)) := by
  rw [List.drop_eq_getElem_cons h, textsP_cons, List.getD_eq_getElem?_getD, List.getElem?_eq_getElem h]
  rfl
inductive TFm : S29 → Prop
  | mk (x : S29) (h1 : x.f0 = 1 → 0 ≤ x.f1 ∧ x.f1 ≤ 4) (h0 : 0 ≤ x.f0) (h8 : x.f0 < 8) (h7 : x.f0 = 7 → 0 ≤ x.f2 ∧ x.f2 < 100) (hk : ∀ y ∈ x.f3, TFm y) : TFm x
def TabX (w : World) : Prop := ∃ A c, 8 ≤ c ∧ w.cell? ⟨0, 0, none⟩ = some (.slice A 8 c) ∧ Kd.C Kd.string w A 8 exW
theorem TabX.below {w w' : World} (h : TabX w) (hb : Below w.heap.size w w') : TabX w' := by
  obtain ⟨A, c, h0, h1, h2⟩ := h
  exact ⟨A, c, h0, (hb.cell (World.block_lt_of_cell? _ _ h1)).trans h1, Kd.C_below h2 hb⟩
theorem TabX.at {w : World} (h : TabX w) (i : Int) (h0 : 0 ≤ i) (h1 : i < 8) : ∃ ad c, w.cell? ⟨0, 0, none⟩ = some (.slice (some ad) 8 c) ∧ w.cell? (ad.add i.toNat) = some (.string (rdOf ByteArray.empty exW i)) := by
  obtain ⟨A, c, _, h2, h3⟩ := h
  obtain ⟨ad, rfl, hx⟩ := Kd.at_string h3 i h0 h1
  exact ⟨ad, c, h2, hx⟩
theorem itoa_calls (a : Int) (h0 : 0 ≤ a) (h1 : a < 100) (w : World) : Calls Tryd.prog 54 #[.int .i64 a] w fun e w' => e = .returned (.string (decB a)) ∧ w' = w := by
  obtain ⟨m, rfl⟩ := Int.eq_ofNat_of_zero_le h0
  exact Tryd.strconv_Itoa_small m (by omega) w
theorem letter_is (a : Int) (h0 : 0 ≤ a) (h1 : a ≤ 4) : impl_letter.f a = some (letB a) := by
  have hw : wrap64 (a + 1) = a + 1 := w_small (by omega) (by omega)
  unfold impl_letter.f impl_isSym.f impl_in.f letB
  rw [hw, if_pos h0]
  simp [h0, h1, show a + 1 ≤ 5 by omega, show a ≤ a + 1 by omega]
def headP (x : S29) : ByteArray := if x.f0 = 7 then rdOf ByteArray.empty exW x.f0 ++ ((⟨#[32]⟩ : ByteArray) ++ decB x.f2) else rdOf ByteArray.empty exW x.f0
set_option maxHeartbeats 4000000 in
set_option maxRecDepth 100000 in
theorem text_walk : ∀ (x : S29) (A : Option Addr) (c : Nat) (w0 : World), x.f3.length ≤ c → Kd.C k29 w0 A x.f3.length x.f3 → TFm x → (textP x).size ≤ 1000000 → TabX w0 →
    Calls Tryd.prog 30 #[.agg #[.int .i64 x.f0, .int .i64 x.f1, .int .i64 x.f2, .slice A x.f3.length c]] w0 fun e w' => e = .returned (.string (textP x)) ∧ Below w0.heap.size w0 w' := by
  refine indT ?_
  intro x ih A c w0 hc hC hf hs ht
  have HI := m0_ ih
  have HC := m0_ hc
  have HK := m0_ hC
  have HT := m0_ ht
  have HB := m0_ (Below.refl w0.heap.size w0)
  have HKL := m0_ hC.2.1
  have hu1_ := Tryd.underlying29
  obtain ⟨_, f1, f0, f8, f7, fk⟩ := hf
  have HFK := m0_ fk
  have HF7 := m0_ f7
  clear ih hc hC ht fk f7
  go_enter Tryd.func30, Tryd.ntmps30
  by_cases hk : x.f0 = 1
  · rw [show textP x = letB x.f1 from by rw [textP_is, if_pos hk]]
    have HLT := m0_ (letter_is x.f1 (f1 hk).1 (f1 hk).2)
    have kb : (x.f0 == 1) = true := beq_iff_eq.2 hk
    have kd : decide (x.f0 = 1) = true := decide_eq_true hk
    clear f1 f0 f8 hs
    go_wp2_with (first | ((with_reducible refine gate_dst (N := 1) rfl ?_); refine box_event ?hg (N := 1) ?hd (cs := #[.int .i64 x.f0, .int .i64 x.f1, .int .i64 x.f2, .slice A x.f3.length c]) (t := 29) ?hr ?_; (case hd => rfl); (case hg => rfl); (case hr => first | (go_simp; done) | (go_simp; rfl)); intro g1 hg wg1 hbox hb; have Gg1 := m0_ (show w0.heap.size ≤ g1 from by rw [hg]; exact below_size HB.out); have n0_ := m0_ (below_step HB.out hb); have n1_ := m0_ (hbox); clear HB; have HB := n0_; have BKg1 := n1_; clear n0_ n1_; clear hb hbox hg; have hz0_ := (blk_cell BKg1.out 0).trans (show _ = some (Value.int .i64 x.f0) from rfl); have hz1_ := (blk_cell BKg1.out 1).trans (show _ = some (Value.int .i64 x.f1) from rfl); have hz2_ := (blk_cell BKg1.out 2).trans (show _ = some (Value.int .i64 x.f2) from rfl); have hz3_ := (blk_cell BKg1.out 3).trans (show _ = some (Value.slice A x.f3.length c) from rfl)))
    (with_reducible refine (impl_letter.calls x.f1 _ _ HLT.out).mono ?_)
    rintro e w' ⟨rfl, hd⟩
    have n0_ := m0_ (below_step HB.out hd.below)
    go_wp2
    go_ret
    exact ⟨rfl, n0_.out⟩
  have e0 : textP x = headP x ++ textsP x.f3 := by rw [textP_is, if_neg hk]; rfl
  rw [e0] at hs
  rw [e0]
  clear e0
  have HS := m0_ hs
  have HR0 := m0_ f0
  have HR1 := m0_ f8
  have kb : (x.f0 == 1) = false := beq_eq_false_iff_ne.2 hk
  have kd : decide (x.f0 = 1) = false := decide_eq_false hk
  have kp : decide (0 ≤ x.f0) = true := decide_eq_true f0
  have kq : decide (x.f0 < 8) = true := decide_eq_true f8
  clear f1 hs
  go_upto_if 19 with (first | ((with_reducible refine gate_dst (N := 1) rfl ?_); refine box_event ?hg (N := 1) ?hd (cs := #[.int .i64 x.f0, .int .i64 x.f1, .int .i64 x.f2, .slice A x.f3.length c]) (t := 29) ?hr ?_; (case hd => rfl); (case hg => rfl); (case hr => first | (go_simp; done) | (go_simp; rfl)); intro g1 hg wg1 hbox hb; have Gg1 := m0_ (show w0.heap.size ≤ g1 from by rw [hg]; exact below_size HB.out); have n0_ := m0_ (below_step HB.out hb); have n1_ := m0_ (hbox); clear HB; have HB := n0_; have BKg1 := n1_; clear n0_ n1_; clear hb hbox hg; have hz0_ := (blk_cell BKg1.out 0).trans (show _ = some (Value.int .i64 x.f0) from rfl); have hz1_ := (blk_cell BKg1.out 1).trans (show _ = some (Value.int .i64 x.f1) from rfl); have hz2_ := (blk_cell BKg1.out 2).trans (show _ = some (Value.int .i64 x.f2) from rfl); have hz3_ := (blk_cell BKg1.out 3).trans (show _ = some (Value.slice A x.f3.length c) from rfl); obtain ⟨ad, c8, hg0_, hx_⟩ := TabX.at (TabX.below HT.out HB.out) x.f0 HR0.out HR1.out; have hx0_ := hx_))
  go_cut [3] (fun v3 wc => v3 = .string (headP x) ∧ Aside0 (wc.heap[g1]? = some (.cells #[.int .i64 x.f0, .int .i64 x.f1, .int .i64 x.f2, .slice A x.f3.length c] 29 (0, 0))) ∧ Aside0 (Below w0.heap.size w0 wc))
  case first =>
    by_cases h7 : x.f0 = 7
    rotate_left
    · have k7 : (x.f0 == 7) = false := beq_eq_false_iff_ne.2 h7
      have k7d : decide (x.f0 = 7) = false := decide_eq_false h7
      have HH := m0_ (show headP x = rdOf ByteArray.empty exW x.f0 from if_neg h7)
      (first | rw [k7] | skip)
      go_wp2
      go_meet
      case rel => exact ⟨by rw [HH.out], BKg1, HB⟩
    have HN := m0_ (HF7.out h7)
    have k7 : (x.f0 == 7) = true := beq_iff_eq.2 h7
    have hh : headP x = rdOf ByteArray.empty exW x.f0 ++ ((⟨#[32]⟩ : ByteArray) ++ decB x.f2) := by unfold headP; rw [if_pos h7]
    have hsz := HS.out
    rw [hh, ByteArray.size_append, ByteArray.size_append] at hsz
    have hs1 : (⟨#[32]⟩ : ByteArray).size + (decB x.f2).size ≤ 9223372036854775807 := by rw [ByteArray.size_append] at hsz; omega
    have hs2 : (rdOf ByteArray.empty exW x.f0).size + ((⟨#[32]⟩ : ByteArray) ++ decB x.f2).size ≤ 9223372036854775807 := by omega
    have HH := m0_ hh
    clear hsz hh h7
    have hs3 : 1 + (decB x.f2).size ≤ 9223372036854775807 := hs1
    have s10_ := eq_true hs3; have s11_ := decide_eq_true hs3; have s12_ : (9223372036854775807 < 1 + (decB x.f2).size) = False := eq_false (Nat.not_lt.2 hs3)
    have s20_ := eq_true hs2; have s21_ := decide_eq_true hs2; have s22_ : (9223372036854775807 < (rdOf ByteArray.empty exW x.f0).size + ((⟨#[32]⟩ : ByteArray) ++ decB x.f2).size) = False := eq_false (Nat.not_lt.2 hs2)
    (first | rw [k7] | skip)
    go_wp2_with (first | ((with_reducible refine gate_callee (f := 54) rfl ?_); refine goesL_ (some 23) rfl rfl Tryd.func54 (by kernel_rfl) rfl #[.int .i64 x.f2] rfl (by (try simp only [List.map_toArray, List.map_cons, List.map_nil]); first | done | rfl) ?_; (with_reducible refine (itoa_calls x.f2 HN.out.1 HN.out.2 _).mono ?_); rintro e w' ⟨rfl, rfl⟩; refine ⟨_, rfl, ?_⟩))
    go_meet
    case rel => exact ⟨by rw [HH.out], BKg1, HB⟩
  case rest =>
    clear BKg1 HB hz0_ hz1_ hz2_ hz3_ hg0_ hx_ hx0_ HR0 HR1 f0 f8 kp kq kb kd hk Gg1
    obtain ⟨rfl, BKg1, HB⟩ := hcut
    have hz3_ := (blk_cell BKg1.out 3).trans (show _ = some (Value.slice A x.f3.length c) from rfl)
    go_wp2
    clear hz3_
    go_loopw [3, 29] (fun v3 v29 w' => ∃ n : Nat, n ≤ x.f3.length ∧ v29 = .int .i64 n ∧ ∃ t' : ByteArray, v3 = .string t' ∧ Aside0 (t' ++ textsP (x.f3.drop n) = headP x ++ textsP x.f3) ∧ Aside0 (w'.heap[g1]? = some (.cells #[.int .i64 x.f0, .int .i64 x.f1, .int .i64 x.f2, .slice A x.f3.length c] 29 (0, 0))) ∧ Aside0 (Below w0.heap.size w0 w')) (fun _ v29 _ => x.f3.length - (intOf v29).toNat)
    case atStart => exact ⟨0, Nat.zero_le _, rfl, headP x, rfl, ⟨by rw [List.drop_zero]⟩, BKg1, HB⟩
    case round =>
      rename_i wr
      clear BKg1 HB
      obtain ⟨n, hn, rfl, t', rfl, HE2, BKg1, HB⟩ := hrel
      have hkl := HKL.out
      by_cases hlt : n < x.f3.length
      rotate_left
      · obtain rfl : n = x.f3.length := by omega
        have l1 : decide (((x.f3.length : Nat) : Int) < (x.f3.length : Int)) = false := decide_eq_false (by omega)
        have HF := m0_ (show t' = headP x ++ textsP x.f3 from by have q := HE2.out; rw [List.drop_length, textsP_nil, ByteArray.append_empty] at q; exact q)
        go_wp2
        go_ret
        exact ⟨by rw [HF.out]; rfl, HB.out⟩
      obtain ⟨ad, A3, c3, e, k0, k1, k2, k3, hx6, hx7⟩ := at_T29 HK.out (n : Int) (by omega) (by omega)
      have h0 := (HB.out.cell (World.block_lt_of_cell? _ _ k0)).trans k0
      have h1 := (HB.out.cell (World.block_lt_of_cell? _ _ k1)).trans k1
      have h2 := (HB.out.cell (World.block_lt_of_cell? _ _ k2)).trans k2
      have h3 := (HB.out.cell (World.block_lt_of_cell? _ _ k3)).trans k3
      have HRD := m0_ (show rd_T29 x.f3 (n : Int) = x.f3.getD n z29 from rfl)
      have HMEM := m0_ (show rd_T29 x.f3 (n : Int) ∈ x.f3 from by rw [HRD.out, List.getD_eq_getElem?_getD, List.getElem?_eq_getElem hlt]; exact List.getElem_mem _)
      have hdr := textsP_drop x.f3 n hlt
      rw [← HRD.out] at hdr
      have HDR := m0_ hdr
      have HX6 := m0_ hx6
      have HKX := m0_ hx7
      have HFY := m0_ (HFK.out _ HMEM.out)
      clear hx6 hx7 hdr k0 k1 k2 k3
      generalize rd_T29 x.f3 (n : Int) = y at *
      simp only [Int.toNat_natCast] at h0 h1 h2 h3
      subst e
      have hsum : t'.size + (1 + (textP y).size) + (textsP (x.f3.drop (n + 1))).size ≤ 1000000 := by
        have q := congrArg ByteArray.size HE2.out
        have q2 := HS.out
        rw [HDR.out, ByteArray.size_append, ByteArray.size_append, ByteArray.size_append, show (⟨#[32]⟩ : ByteArray).size = 1 from rfl] at q
        rw [← q] at q2
        omega
      have HSY := m0_ (show (textP y).size ≤ 1000000 by omega)
      have hs1 : 1 + (textP y).size ≤ 9223372036854775807 := by omega
      have hs2 : t'.size + ((⟨#[32]⟩ : ByteArray) ++ textP y).size ≤ 9223372036854775807 := by rw [ByteArray.size_append, show (⟨#[32]⟩ : ByteArray).size = 1 from rfl]; omega
      have s10_ := eq_true hs1; have s11_ := decide_eq_true hs1; have s12_ : (9223372036854775807 < 1 + (textP y).size) = False := eq_false (Nat.not_lt.2 hs1)
      have s20_ := eq_true hs2; have s21_ := decide_eq_true hs2; have s22_ : (9223372036854775807 < t'.size + ((⟨#[32]⟩ : ByteArray) ++ textP y).size) = False := eq_false (Nat.not_lt.2 hs2)
      have l1 : decide ((n : Int) < (x.f3.length : Int)) = true := decide_eq_true (by omega)
      have l2 : (n : Int) < (x.f3.length : Int) := by omega
      have l3 : (0 : Int) ≤ (n : Int) := by omega
      go_wp2_with (first | ((with_reducible refine gate_dst (N := 5) rfl ?_); refine box_event ?hg (N := 5) ?hd (cs := #[.int .i64 0, .int .i64 0, .int .i64 0, .slice none 0 0]) (t := 29) ?hr ?_; (case hd => rfl); (case hg => rfl); (case hr => first | (go_simp; done) | (go_simp; rfl)); intro g5 hg wg5 hbox hb; have Gg5 := m0_ (show w0.heap.size ≤ g5 from by rw [hg]; exact below_size HB.out); have Ng1 := m0_ (show g1 ≠ g5 from by rw [hg]; exact Nat.ne_of_lt (blk_lt BKg1.out)); have n0_ := m0_ (blk_below BKg1.out hb); have n1_ := m0_ (below_step HB.out hb); have n2_ := m0_ (hbox); clear BKg1 HB; have BKg1 := n0_; have HB := n1_; have BKg5 := n2_; clear n0_ n1_ n2_; clear hb hbox hg) | ((with_reducible refine gate_store (t := 29) (p := 5) (v := .tmp 32) rfl ?_); refine store_blk (w0 := w0) (base := w0.heap.size) (e := 29) (g := g5) (off := 0) (cur := #[.int .i64 0, .int .i64 0, .int .i64 0, .slice none 0 0]) (cur' := #[.int .i64 y.f0, .int .i64 y.f1, .int .i64 y.f2, .slice A3 y.f3.length c3]) (u := .agg #[.int .i64 y.f0, .int .i64 y.f1, .int .i64 y.f2, .slice A3 y.f3.length c3]) (seg := [.int .i64 y.f0, .int .i64 y.f1, .int .i64 y.f2, .slice A3 y.f3.length c3]) rfl rfl rfl rfl rfl BKg5.out rfl ?ht ?h1 (by simp) rfl HB.out Gg5.out ?_; (case ht => kernel_rfl); (case h1 => intro q hq; simp only [List.mem_cons, List.not_mem_nil, or_false] at hq; rcases hq with rfl | rfl | rfl | rfl <;> rfl); intro w15 hs_ hk_ hB_; have n0_ := m0_ (blk_keep BKg1.out hk_ Ng1.out); have n1_ := m0_ (hs_); have n2_ := m0_ (hB_); clear BKg1 BKg5 HB; have BKg1 := n0_; have BKg5 := n1_; have HB := n2_; clear n0_ n1_ n2_; clear hs_ hk_ hB_; have hy0_ := (blk_cell BKg5.out 0).trans (show _ = some (Value.int .i64 y.f0) from rfl); have hy1_ := (blk_cell BKg5.out 1).trans (show _ = some (Value.int .i64 y.f1) from rfl); have hy2_ := (blk_cell BKg5.out 2).trans (show _ = some (Value.int .i64 y.f2) from rfl); have hy3_ := (blk_cell BKg5.out 3).trans (show _ = some (Value.slice A3 y.f3.length c3) from rfl)))
      (with_reducible refine (HI.out y HMEM.out A3 c3 _ HX6.out (Kd.C_below HKX.out HB.out) HFY.out HSY.out (TabX.below HT.out HB.out)).mono ?_)
      rintro e w16 ⟨rfl, hb⟩
      have n0_ := m0_ (blk_below BKg1.out hb)
      have n1_ := m0_ (below_step HB.out hb)
      go_wp2
      go_roundw
      case rel => exact ⟨n + 1, by omega, by go_num, t' ++ ((⟨#[32]⟩ : ByteArray) ++ textP y), rfl, ⟨by rw [ByteArray.append_assoc, ← HDR.out]; exact HE2.out⟩, n0_, n1_⟩
      case measure => simp [intOf]; omega
end Go.Proofs.YtbcdfbiggjfmlaaDoor.M
namespace Go.Proofs.YtbcdfbiggjfmlaaDoor.M
set_option linter.unusedVariables false
set_option linter.unusedSimpArgs false
open Go Go.RowKit Go.Proofs.YtbcdfbiggjfmlaaDoorW.PrintWords Go.Proofs.YtbcdfbiggjfmlaaDoorW.PrintLast

def strD : DataW Unit → List UInt8
  | .lit (.string l) => l
  | _ => []
theorem TabX_of_laid {W : World} {l : List (String × DataW Unit)} (h : laidMetH Tryd.prog l W) (hl : (l.filter fun x => x.1 == "loop.example/bellman/impl.exWords") = [("loop.example/bellman/impl.exWords", Rows.laid_loop_example_bellman_impl_exWords)]) : TabX W := by
  have h1 := h.filter (fun x => x.1 == "loop.example/bellman/impl.exWords")
  rw [hl, MakeChecks.laidMetH_plain _ _ _ (by kernel_rfl)] at h1
  obtain ⟨ps, ⟨g, t, cs, fuel, p, q, hg, ht, hv, hd, _, _⟩, _, _⟩ := h1
  obtain rfl := Option.some.inj ((show Tryd.prog.globalNamed "loop.example/bellman/impl.exWords" = some 0 by kernel_rfl).symm.trans hg)
  obtain rfl := Option.some.inj ((show (Tryd.prog.globals[0]?).map (·.type) = some 62 by kernel_rfl).symm.trans ht)
  have c9 : Tryd.prog.cellsOf 9 = 1 := by kernel_rfl
  rcases DataW.trod_slice Tryd.underlying62 hd with ⟨_, hx⟩ | ⟨a, len, cap, elems, rest, m, rfl, hcs, hx, _, hb, hm, hlen, hel, _, _⟩
  · exact absurd (Prod.mk.inj hx).1 (by intro e; cases e)
  have he := (DataW.slice.inj (Prod.mk.inj hx).1).1
  have hn : len = 8 := by
    rw [← hlen, ← List.length_map (f := (·.1)), ← he]
    rfl
  have hm' : 8 ≤ cap := by omega
  subst hn
  have hc : W.cell? ⟨0, 0, none⟩ = some (.slice (some a) 8 cap) := by
    have := World.var?_cell hg hv 0
    rw [Array.eq_one_of_toList hcs] at this
    simpa using this
  refine ⟨some a, cap, hm', hc, rfl, by decide, fun _ => ⟨a, rfl, fun i p hp => ?_⟩⟩
  have hi : i < 8 := (List.getElem?_eq_some_iff.1 hp).1
  have h0 := hel i hi
  rw [List.getElem?_eq_getElem (by omega)] at h0
  obtain ⟨cs', h1, h2⟩ := Option.bind_eq_some_iff.1 h0
  obtain ⟨s, rfl, h3, _⟩ := DataW.trod_string Tryd.underlying9 h2
  obtain ⟨_, hcl, hcc⟩ := World.cells?_some h1
  have hq := hcc 0 (by rw [c9]; decide)
  have hs : p = s := by
    have e1 : (elems.map (·.1))[i]? = some (DataW.lit (.string s.data.toList)) := by
      rw [List.getElem?_map, List.getElem?_eq_getElem (by omega), h3]
      rfl
    have e0 : elems.map (·.1) = exW.map (fun b => DataW.lit (.string b.data.toList)) := by rw [← he]; rfl
    rw [e0, List.getElem?_map, hp] at e1
    have e2 : DataW.lit (H := Unit) (.string p.data.toList) = DataW.lit (.string s.data.toList) := Option.some.inj e1
    have e2 : p.data.toList = s.data.toList := congrArg strD e2
    cases p
    cases s
    simp only [Array.toList_inj] at e2
    rw [e2]
  subst hs
  refine ⟨[.string p], rfl, rfl, fun j u hu => ?_⟩
  have hj : j = 0 := by
    have := (List.getElem?_eq_some_iff.1 hu).1
    simp at this
    exact this
  subst hj
  rw [add_add] at hq
  simp only [Nat.add_zero] at hq ⊢
  rw [c9] at hq
  rw [show i * Kd.string.sz = i * 1 from rfl, hq]
  exact hu
end Go.Proofs.YtbcdfbiggjfmlaaDoor.M
namespace Go.Proofs.YtbcdfbiggjfmlaaDoor.M
set_option linter.unusedVariables false
set_option linter.unusedSimpArgs false
open Go Go.RowKit Go.Proofs.YtbcdfbiggjfmlaaDoorW.PrintWords Go.Proofs.YtbcdfbiggjfmlaaDoorW.PrintLast Go.Proofs.YtbcdfbiggjfmlaaDoorW.PrintMore

def sliceS {α : Type} (e : Nat) (d : Kd α) : Kd (List α) where
  sz := 1
  E := e :: d.E
  K := (Kd.slice e d).K
  M := fun w base ok xs cs => ∃ v, cs = [v] ∧ Kd.S d e w base ok v xs
  K_len := (Kd.slice e d).K_len
  K_one := (Kd.slice e d).K_one
  K_below := (Kd.slice e d).K_below
  K_of_M := fun ⟨v, hc, h⟩ => (Kd.slice e d).K_of_M ⟨v, hc, Kd.S_R h⟩
  M_mono := fun hok ⟨v, hc, f, h⟩ => ⟨v, hc, f, Kd.R_mono h hok⟩
  M_bound := fun ⟨v, hc, f, h⟩ => ⟨v, hc, f, Kd.R_bound h⟩
  M_move := fun hm ⟨v, hc, f, h⟩ => ⟨v, hc, f, Kd.R_move h hm⟩
  M_lower := fun hb ⟨v, hc, f, h⟩ => ⟨v, hc, f, Kd.R_lower h hb⟩
theorem S_imp {α : Type} {d d' : Kd α} (hs : d.sz = d'.sz) (h : ∀ w base ok x cs, d.M w base ok x cs → d'.M w base ok x cs) {e : Nat} {w : World} {base : Nat} {ok : Nat → Prop} {v : Value} {xs : List α} (hr : Kd.S d e w base ok v xs) : Kd.S d' e w base ok v xs := by
  obtain ⟨f, hr⟩ := hr
  exact ⟨f, Kd.R_imp (d := Kd.tag f d) (d' := Kd.tag f d') hs (fun w base ok x cs hx => h _ _ _ _ _ hx) hr⟩
theorem mono_sliceS {α β : Type} (e : Nat) {G : Kd α → Kd β} (hG : Kd.Mono G) : Kd.Mono (fun d => sliceS e (G d)) := by
  refine ⟨fun _ _ _ => rfl, (Kd.mono_slice e hG).K, ?_⟩
  rintro d d' hs h w base ok x cs ⟨v, rfl, hr⟩
  exact ⟨v, rfl, S_imp (hG.sz d d' hs) (hG.M d d' hs h) hr⟩
theorem sub_sliceS {α β : Type} {E : List Nat} (e : Nat) {G : Kd α → Kd β} (he : e ∈ E) (hG : Kd.Sub G E) : Kd.Sub (fun d => sliceS e (G d)) E := fun d h q hq => by
  rcases List.mem_cons.1 hq with rfl | hq
  · exact he
  · exact hG d h q hq
def FT (d : Kd S29) : Kd S29 := Kd.iso (Kd.pair (Kd.int .i64) (Kd.pair (Kd.int .i64) (Kd.pair (Kd.int .i64) (sliceS 29 d)))) (fun x : S29 => (x.f0, x.f1, x.f2, x.f3))
theorem monoT : Kd.Mono FT := Kd.mono_iso _ (Kd.mono_pair (Kd.mono_const _) (Kd.mono_pair (Kd.mono_const _) (Kd.mono_pair (Kd.mono_const _) (mono_sliceS 29 Kd.mono_id))))
theorem subT : Kd.Sub FT [29] := Kd.sub_iso _ (Kd.sub_pair (Kd.sub_const _ (by decide)) (Kd.sub_pair (Kd.sub_const _ (by decide)) (Kd.sub_pair (Kd.sub_const _ (by decide)) (sub_sliceS 29 (by decide) Kd.sub_id))))
theorem szT : ∀ n, (Kd.upto FT 4 [29] n).sz = 4 := Kd.upto_sz (fun _ => rfl)
def kT : Kd S29 := Kd.fix FT 4 [29] szT (Kd.upto_E subT)
theorem upto_M_eq : ∀ n w base ok (x : S29) cs, (Kd.upto FT 4 [29] n).M w base ok x cs → (Kd.upto F29 4 [29] n).M w base ok x cs
  | 0, _, _, _, _, _, h => h.elim
  | n + 1, w, base, ok, x, cs, h => by
    obtain ⟨c0, c1, rfl, h0, c2, c3, rfl, h2, c4, c5, rfl, h4, v, rfl, hS⟩ := h
    exact ⟨c0, _, rfl, h0, c2, _, rfl, h2, c4, _, rfl, h4, v, rfl, Kd.R_imp (by rw [szT n, sz29 n]) (upto_M_eq n) (Kd.S_R hS)⟩
theorem kT_M {w : World} {base : Nat} {ok : Nat → Prop} {x : S29} {cs : List Value} (h : kT.M w base ok x cs) : k29.M w base ok x cs := by
  obtain ⟨n, h⟩ := h
  exact ⟨n, upto_M_eq n _ _ _ _ _ h⟩
def SR (w : World) (base : Nat) (ok : Nat → Prop) (v : Value) (xs : List S29) : Prop := Kd.S kT 29 w base ok v xs
section
variable {w w1 : World} {base : Nat} {ok ok' : Nat → Prop} {v : Value} {xs : List S29} {x : S29} {cs : List Value}
theorem SR.R (h : SR w base ok v xs) : Kd.R k29 29 w base ok v xs := Kd.R_imp (d := kT) (d' := k29) rfl (fun _ _ _ _ _ hx => kT_M hx) (Kd.S_R (d := kT) h)
theorem SR.mono (h : SR w base ok v xs) (hok : ∀ k, ok k → ok' k) : SR w base ok' v xs := by obtain ⟨f, h⟩ := h; exact ⟨f, Kd.R_mono h hok⟩
theorem SR.step (h : SR w base ok v xs) (hm : ∀ k, ok k → k < w.heap.size → w1.heap[k]? = w.heap[k]?) : SR w1 base ok v xs := by obtain ⟨f, h⟩ := h; exact ⟨f, Kd.R_step h hm⟩
theorem SR.bound (h : SR w base ok v xs) : SR w base (fun k => ok k ∧ base ≤ k ∧ k < w.heap.size) v xs := by obtain ⟨f, h⟩ := h; exact ⟨f, Kd.R_mono (Kd.R_bound h) (fun k hk => ⟨hk.1, hk.2.1, hk.2.2.1⟩)⟩
theorem SR.lower {base' : Nat} (h : SR w base ok v xs) (hb : base' ≤ base) : SR w base' ok v xs := by obtain ⟨f, h⟩ := h; exact ⟨f, Kd.R_lower h hb⟩
theorem SR.nil (w : World) (base : Nat) (ok : Nat → Prop) : SR w base ok (.slice none 0 0) [] := ⟨fun _ => 0, Kd.R_nil _ _ _ _ _⟩
theorem SR.slice (h : SR w base ok v xs) : ∃ A c, v = .slice A xs.length c := by
  obtain ⟨f, h⟩ := h
  obtain ⟨A, c, e⟩ := Kd.R_slice h
  rw [List.length_zipIdx] at e
  exact ⟨A, c, e⟩
theorem kT_mkM (g3 : SR w base ok v x.f3) : kT.M w base ok x [.int .i64 x.f0, .int .i64 x.f1, .int .i64 x.f2, v] := by
  have key : ∃ n, Kd.S (Kd.upto FT 4 [29] n) 29 w base ok v x.f3 := by
    obtain ⟨f, h0, inner, ho, hl, hr⟩ := g3
    have all : ∀ (l : List (S29 × Nat)) (Q : Nat → S29 × Nat → Nat → Prop), (∀ j p, l[j]? = some p → ∃ n, Q j p n) → (∀ j p n m, n ≤ m → Q j p n → Q j p m) → ∃ n, ∀ j p, l[j]? = some p → Q j p n := by
      intro l
      induction l with
      | nil => intro Q _ _; exact ⟨0, fun j p h => by simp at h⟩
      | cons y l ih =>
        intro Q h1 h2
        obtain ⟨n, hn⟩ := h1 0 y rfl
        obtain ⟨m, hm⟩ := ih (fun j p k => Q (j + 1) p k) (fun j p h => h1 (j + 1) p h) (fun j p n m hnm h => h2 (j + 1) p n m hnm h)
        refine ⟨max n m, fun j p h => ?_⟩
        cases j with
        | zero => obtain rfl : y = p := by simpa using h
                  exact h2 0 y n _ (Nat.le_max_left _ _) hn
        | succ j => exact h2 (j + 1) p m _ (Nat.le_max_right _ _) (hm j p h)
    obtain ⟨n, hn⟩ := all x.f3.zipIdx _ (fun j p hj => (hr j p hj : ∃ n, _)) (fun j p n m hnm h => by
      induction hnm with
      | refl => exact h
      | step _ ih => exact Kd.upto_M monoT szT _ ih)
    exact ⟨n, f, h0, inner, by rw [show (Kd.tag f (Kd.upto FT 4 [29] n)).sz = 4 from szT n]; exact ho, by rw [show (Kd.tag f (Kd.upto FT 4 [29] n)).sz = 4 from szT n]; exact hl, fun j p hj => by
      have := hn j p hj
      rw [show (Kd.tag f (Kd.upto FT 4 [29] n)).sz = 4 from szT n]
      exact this⟩
  obtain ⟨n, h⟩ := key
  exact ⟨n + 1, [_], _, rfl, rfl, [_], _, rfl, rfl, [_], _, rfl, rfl, v, rfl, h⟩
theorem kT_openM (h : kT.M w base ok x cs) : ∃ v3, cs = [.int .i64 x.f0, .int .i64 x.f1, .int .i64 x.f2, v3] ∧ SR w base ok v3 x.f3 := by
  obtain ⟨n, h⟩ := h
  cases n with
  | zero => exact h.elim
  | succ n =>
    obtain ⟨c0, c1, rfl, h0, c2, c3, rfl, h2, c4, c5, rfl, h4, v, rfl, hS⟩ := h
    obtain rfl : c0 = [.int .i64 x.f0] := h0
    obtain rfl : c2 = [.int .i64 x.f1] := h2
    obtain rfl : c4 = [.int .i64 x.f2] := h4
    exact ⟨v, rfl, S_imp (d := Kd.upto FT 4 [29] n) (d' := kT) (szT n) (fun w base ok x cs hx => (show ∃ m, (Kd.upto FT 4 [29] m).M w base ok x cs from ⟨n, hx⟩)) hS⟩
end
section
variable {P : Program} {ops : Array Oper} {o : Oper} {a : Act} {Q : Exit → Act → World → Prop} {Kc : Act → World → Prop}
theorem SR_append_step {W : World} (base s0 : Nat) (hw : Region.wanted o (yielded ops a.tmps) = true) (s x : Operand) (t : TypeId)
    (ho : o.op = .call { callee := .builtin .append, args := #[s, x], argTypes := #[t, t] })
    (ht : P.underlying t = some (.slice 29)) (hinfo : (P.info? 29).map (fun i => (i.zero, i.size, i.bytes)) = some (some (.agg #[(.int .i64 0), (.int .i64 0), (.int .i64 0), (.slice none 0 0)]), 4, 48))
    (v : Value) (xs : List S29) (p : S29) (cs : List Value) (ok okv okp : Nat → Prop) (hs : a.eval s = v) (hx : a.eval x = .slice (some ⟨W.heap.size, 0, none⟩) 1 1) (hp : kT.M W base okp p cs)
    (hokv : ∀ k, okv k → ok k ∧ k < s0) (hokp : ∀ k, okp k → ok k ∧ s0 ≤ k) (hfresh : ∀ k, W.heap.size ≤ k → ok k)
    (HO : SR W base okv v xs) (hbase : base ≤ W.heap.size) (hl : (xs.length + 1) * 48 ≤ 140737488355328)
    (h : ∀ v1 w1, SR w1 base ok v1 (xs ++ [p]) → Below base W w1 → W.grownBy w1 v.ownBlock → Kc (a.put o.dst v1) w1) :
    if Region.wanted o (yielded ops a.tmps) = true then Oper.wp P o a (W.alloc (.cells cs.toArray 29)) Kc Q else Kc (a.put o.dst undef) (W.alloc (.cells cs.toArray 29)) := by
  obtain ⟨f, h0, inner, hown, hr⟩ := HO
  have hv : ∀ k, v.ownBlock = some k → k < s0 := fun k hk => (hokv k (h0 k hk)).2
  refine Kd.R_append_step (Kd.tag (fun k => if k < s0 then f k else xs.length) kT) (w0 := W) base hw s x t 29 _ 48 ho ht hinfo rfl (Nat.succ_pos 3) (by omega) v xs.zipIdx (p, xs.length) cs ok (fun k => okp k) hs hx ?hp ?hokp hfresh ?HO (Below.refl _ _) hbase (by rw [List.length_zipIdx]; exact hl) ?_
  case hp => exact kT.M_mono (fun k hk => ⟨hk, show (if k < s0 then f k else xs.length) = xs.length by rw [if_neg (by have := (hokp k hk).2; omega)]⟩) hp
  case hokp => exact fun k hk => ⟨(hokp k hk).1, fun e => by have := hv k e.symm; have := (hokp k hk).2; omega⟩
  case HO => exact ⟨fun k hk => (hokv k (h0 k hk)).1, inner, hown, hr.imp_ (fun y c hm => kT.M_mono (fun k hk => ⟨⟨(hokv k hk.1.1).1, hk.1.2⟩, show (if k < s0 then f k else xs.length) = y.2 by rw [if_pos (hokv k hk.1.1).2]; exact hk.2⟩) hm)⟩
  intro v1 w1 ho1 hb1 hg1 _
  refine h v1 w1 ⟨fun k => if k < s0 then f k else xs.length, ?_⟩ hb1 hg1
  have e : (xs ++ [p]).zipIdx = xs.zipIdx ++ [(p, xs.length)] := by simp [List.zipIdx_append]
  rw [e]
  exact ho1
theorem SR.own {w : World} {base : Nat} {ok : Nat → Prop} {v : Value} {xs : List S29} (h : SR w base ok v xs) : ∀ k, v.ownBlock = some k → ok k := by
  obtain ⟨f, h0, _⟩ := h
  exact h0
end
def wordsC (all : List ByteArray) : Array Value := (all.map Value.string).toArray
def readC (hw q m : Nat) : Array Value := #[.slice (some ⟨hw, q, none⟩) m m]
def RdAt (w : World) (g hw : Nat) (all : List ByteArray) (off : Nat) : Prop := ∃ q, w.heap[g]? = some (.cells (readC hw q (all.length - off)) 69 (0, 0)) ∧ (off < all.length → q = off)
def nextO (all : List ByteArray) (off : Nat) : Nat := if off < all.length then off + 1 else off
set_option maxHeartbeats 4000000 in
set_option maxRecDepth 100000 in
theorem next_walk (all : List ByteArray) (hw g off : Nat) (w0 w : World) (hB : Below w0.heap.size w0 w) (hg0 : w0.heap.size ≤ g) (hne : g ≠ hw) (hl : all.length ≤ 1000000)
    (hW : w.heap[hw]? = some (.cells (wordsC all) 9 (0, 0))) (hR : RdAt w g hw all off) :
    Calls Tryd.prog 69 #[.pointer (some ⟨g, 0, none⟩)] w fun e w' => e = .returned (.string (all.getD off ByteArray.empty)) ∧ RdAt w' g hw all (nextO all off) ∧ Below w0.heap.size w0 w' ∧ KeepBut w w' g none := by
  have HB := m0_ hB
  have BKW := m0_ hW
  obtain ⟨q, hR, hq⟩ := hR
  have BKR := m0_ hR
  have hu1_ := Tryd.underlying69
  have hz0_ := (blk_cell BKR.out 0).trans (show _ = some (Value.slice (some ⟨hw, q, none⟩) (all.length - off) (all.length - off)) from rfl)
  have hf0_ := blk_frozen BKR.out 0
  clear hB hW hR
  go_enter Tryd.func69, Tryd.ntmps69
  by_cases hlt : off < all.length
  rotate_left
  · have e0 : all.length - off = 0 := by omega
    have e1 : nextO all off = off := if_neg hlt
    rw [e1, show all.getD off ByteArray.empty = ByteArray.empty by simp [List.getD_eq_getElem?_getD, List.getElem?_eq_none (Nat.not_lt.1 hlt)]]
    rw [e0] at hz0_
    go_wp2
    go_ret
    exact ⟨rfl, ⟨q, BKR.out, hq⟩, HB.out, KeepBut.refl _ _ _⟩
  obtain rfl := hq hlt
  have hw0_ : w.cell? ⟨hw, q, none⟩ = some (.string (all.getD q ByteArray.empty)) := (blk_cell BKW.out q).trans (by simp [wordsC, List.getD_eq_getElem?_getD, List.getElem?_eq_getElem hlt])
  have e0 : nextO all q = q + 1 := if_pos hlt
  rw [e0]
  generalize all.getD q ByteArray.empty = s at *
  by_cases h1 : all.length - q = 1
  · have e1 : all.length - (q + 1) = 0 := by omega
    have HE := m0_ e1
    rw [h1] at hz0_ BKR
    clear hlt hl e0 e1
    go_wp2
    go_ret
    refine ⟨rfl, ⟨q, ?_, fun h => ?_⟩, below_set HB.out hg0, KeepBut.set_ (KeepBut.refl _ _ _) 0 _⟩
    · rw [HE.out]
      exact blk_put (cs := readC hw q 1) BKR.out 0 _ rfl
    · exact absurd h (by have := HE.out; omega)
  obtain ⟨m, hm⟩ : ∃ m, all.length - q = m + 2 := ⟨all.length - q - 2, by omega⟩
  have HE := m0_ (show all.length - (q + 1) = m + 1 by omega)
  rw [hm] at hz0_ BKR
  have hm2 : m + 2 ≤ 1000000 := by omega
  clear hlt hl e0 h1 hm hq
  have c1 : ((m : Int) + 2 == 0) = false := beq_eq_false_iff_ne.2 (by omega)
  go_wp2
  go_ret
  refine ⟨rfl, ⟨q + 1, ?_, fun _ => rfl⟩, below_set HB.out hg0, KeepBut.set_ (KeepBut.refl _ _ _) 0 _⟩
  rw [HE.out]
  exact blk_put (cs := readC hw q (m + 2)) BKR.out 0 _ rfl
section
variable {P : Program} {ops : Array Oper} {o : Oper} {a : Act} {Q : Exit → Act → World → Prop} {Kc : Act → World → Prop} {W : World}
theorem store_step (hw : Region.wanted o (yielded ops a.tmps) = true) (hN : o.dst = none) {t e : TypeId} {p : Tmp} {v : Operand} (ho : o.op = .store t (.tmp p) v) {w0 : World} {base g off : Nat} {cur cur' : Array Value} {u : Value} {seg : List Value}
    (hp : a.eval (.tmp p) = .pointer (some ⟨g, off, none⟩)) (hx : a.eval v = u) (hg : W.heap[g]? = some (.cells cur e (0, 0))) (hu : u.cells.toList = seg) (ht : (P.info? t).map (·.size) = some seg.length) (h1 : ∀ q ∈ seg, q.oneCell' = true) (hfit : off + seg.length ≤ cur.size) (hcur : (cur.toList.take off ++ seg ++ cur.toList.drop (off + seg.length)).toArray = cur')
    (hB : Below base w0 W) (hbg : base ≤ g) (h : ∀ w', w'.heap[g]? = some (.cells cur' e (0, 0)) → KeepBut W w' g none → Below base w0 w' → Kc a w') :
    if Region.wanted o (yielded ops a.tmps) = true then Oper.wp P o a W Kc Q else Kc (a.put o.dst undef) W := by
  obtain ⟨i, hi, hsz⟩ := Option.map_eq_some_iff.1 ht
  have hc : u.cells.size = i.size := by rw [hsz, ← hu, Array.length_toList]
  have hst := run_storeCells_at P g off e seg 0 cur W hg (by simpa using hfit) h1
  have hrun : (execOp a.eval o).run P W = .ok .skip (W.setRow g (cur.toList.take off ++ seg ++ cur.toList.drop (off + seg.length)).toArray) := by
    rw [Nat.add_zero] at hst
    simp [execOp, ho, hp, hx, Instr.storeAt, Instr.sureAddr, storeVar, sizeOf, typeInfo, hi, hc, hu, hst, Result.andThen]
  have e0 : a.put o.dst undef = a.put none undef := by rw [hN]
  rw [e0]
  refine skip_ hw hN hrun (h _ ?_ (keep_setRow _) (below_setRow hB hbg _))
  rw [setRow_heap W g cur _ e _ hg, hcur]
end
end Go.Proofs.YtbcdfbiggjfmlaaDoor.M
namespace Go.Proofs.YtbcdfbiggjfmlaaDoor.M
open Go.RowKit Go.Proofs.YtbcdfbiggjfmlaaDoorW.PrintWords Go.Proofs.YtbcdfbiggjfmlaaDoorW.PrintLast Go.Proofs.YtbcdfbiggjfmlaaDoorW.PrintMore
attribute [local go_sem] max2_int min2_int max_two min_two max_three min_three max_four min_four
set_option linter.unusedVariables false
set_option linter.unusedSimpArgs false

def slices_Index_string_string.l0 : Nat → List ByteArray → ByteArray → Int → Int → Option (Int)
 | 0, _, _, _, _ => none
 | k + 1, x0, x1, x7, x8 => if x8 < x7 then (if 0 ≤ x8 then (if x8 < (x0.length : Int) then (if x1.toList = (rdOf ByteArray.empty x0 x8).toList then (some x8) else (slices_Index_string_string.l0 k x0 x1 x7 (wrap64 (x8 + 1)))) else (none)) else (none)) else (some (-1))
def slices_Index_string_string.f (k : Nat) (l0 : List ByteArray) (a1 : ByteArray) : Option (Int) := slices_Index_string_string.l0 k l0 a1 (l0.length : Int) 0
set_option maxHeartbeats 8000000 in
set_option maxRecDepth 100000 in
theorem slices_Index_string_string.calls (k : Nat) (A0 : Option Addr) (c0 : Nat) (l0 : List ByteArray) (a1 : ByteArray) (r : Int) (w : World) (hr0 : Kd.C Kd.string w A0 l0.length l0) (hc0 : l0.length ≤ c0) (h : slices_Index_string_string.f k l0 a1 = some r) :
  Calls Tryd.prog 71 #[.slice A0 l0.length c0, .string a1] w fun e w' => e = .returned (.int .i64 r) ∧ Drawn0 w w' := by
 have HR0 := m0_ hr0
 have HC0 := m0_ hc0
 clear hr0 hc0
 have H : (slices_Index_string_string.l0 k l0 a1 (l0.length : Int) 0) = some r := h
 clear h
 have H' := m0_ H
 clear H
 go_enter Tryd.func71, Tryd.ntmps71
 go_wp2
 go_loopg [8] k (fun kq v8 w' => ∃ (x8_1 : Int), v8 = .int .i64 x8_1 ∧ Aside0 (slices_Index_string_string.l0 kq l0 a1 (l0.length : Int) x8_1 = some r) ∧ Aside0 (kq ≤ k) ∧ Drawn0 w w')
 case atStart => exact ⟨(0), (by first | rfl | (simp;done) | (simp [*];done)), H', ⟨Nat.le_refl _⟩, by repeat (first | exact Drawn0.refl _ | apply Drawn0.step)⟩
 case round =>
  clear H'
  try clear p2
  obtain ⟨x8_1, rfl, HA, HK1, ⟨m1, rfl⟩⟩ := hrel
  cases gk with
  | zero => exact absurd HA.out (by simp [slices_Index_string_string.l0])
  | succ k1 =>
   have H := HA.out
   clear HA
   simp only [slices_Index_string_string.l0] at H
   by_cases c3 : x8_1 < (l0.length : Int)
   rotate_left
   ·rw [if_neg c3] at H
    have c3b0 : decide (x8_1 < (l0.length : Int)) = false := decide_eq_false c3
    clear c3
    obtain rfl := Option.some.inj H
    go_wp2
    go_ret
    exact ⟨by first | rfl | (simp;done) | (simp [*];done), by repeat (first | exact Drawn0.refl _ | apply Drawn0.step)⟩
   rw [if_pos c3] at H
   have c3b0 : decide (x8_1 < (l0.length : Int)) = true := decide_eq_true c3
   clear c3
   by_cases c4 : 0 ≤ x8_1
   rotate_left
   ·rw [if_neg c4] at H
    exact absurd H (by simp)
   rw [if_pos c4] at H
   have c4b0 : decide (0 ≤ x8_1) = true := decide_eq_true c4
   clear c4
   by_cases c5 : x8_1 < (l0.length : Int)
   rotate_left
   ·rw [if_neg c5] at H
    exact absurd H (by simp)
   rw [if_pos c5] at H
   have c5b0 : decide (x8_1 < (l0.length : Int)) = true := decide_eq_true c5
   clear c5
   by_cases c6 : a1.toList = (rdOf ByteArray.empty l0 x8_1).toList
   ·rw [if_pos c6] at H
    have c6b0 : (a1.toList == (rdOf ByteArray.empty l0 x8_1).toList) = true := beq_iff_eq.mpr c6
    have c6b1 : (a1.toList != (rdOf ByteArray.empty l0 x8_1).toList) = false := bne_eq_false_iff_eq.mpr c6
    clear c6
    obtain rfl := Option.some.inj H
    have p101 : 0 ≤ (x8_1 : Int) := of_decide_eq_true (by first | (with_reducible assumption) | assumption)
    have q101 : x8_1 < (l0.length : Int) := of_decide_eq_true (by first | (with_reducible assumption) | assumption)
    obtain ⟨ad101, e101, hx101_0⟩ := Kd.at_string HR0.out x8_1 p101 q101
    cases e101
    replace p101 := eq_true p101
    replace q101 := eq_true q101
    go_wp2
    go_ret
    exact ⟨by first | rfl | (simp;done) | (simp [*];done), by repeat (first | exact Drawn0.refl _ | apply Drawn0.step)⟩
   rw [if_neg c6] at H
   have c6b0 : (a1.toList == (rdOf ByteArray.empty l0 x8_1).toList) = false := beq_eq_false_iff_ne.mpr c6
   have c6b1 : (a1.toList != (rdOf ByteArray.empty l0 x8_1).toList) = true := bne_iff_ne.mpr c6
   have H' := m0_ H
   clear H
   have p101 : 0 ≤ (x8_1 : Int) := of_decide_eq_true (by first | (with_reducible assumption) | assumption)
   have q101 : x8_1 < (l0.length : Int) := of_decide_eq_true (by first | (with_reducible assumption) | assumption)
   obtain ⟨ad101, e101, hx101_0⟩ := Kd.at_string HR0.out x8_1 p101 q101
   cases e101
   replace p101 := eq_true p101
   replace q101 := eq_true q101
   go_wp2
   go_roundg k1
   case measure => have := HK1.out;omega
   case rel => exact ⟨(wrap64 (x8_1 + 1)), (by first | rfl | (simp;done) | (simp [*];done)), H', ⟨by have := HK1.out;omega⟩, by repeat (first | exact Drawn0.refl _ | apply Drawn0.step)⟩

end Go.Proofs.YtbcdfbiggjfmlaaDoor.M
namespace Go.Proofs.YtbcdfbiggjfmlaaDoor.M
set_option linter.unusedVariables false
set_option linter.unusedSimpArgs false
open Go Go.RowKit Go.Proofs.YtbcdfbiggjfmlaaDoorW.PrintWords Go.Proofs.YtbcdfbiggjfmlaaDoorW.PrintLast Go.Proofs.YtbcdfbiggjfmlaaDoorW.PrintMore

def kdW (s : ByteArray) : Int := if s.toList = (⟨#[]⟩ : ByteArray).toList then 0 else if s.toList = (⟨#[111, 114]⟩ : ByteArray).toList then 2 else if s.toList = (⟨#[97, 110, 100]⟩ : ByteArray).toList then 3 else if s.toList = (⟨#[115, 101, 113]⟩ : ByteArray).toList then 4 else if s.toList = (⟨#[110, 111, 116]⟩ : ByteArray).toList then 5 else if s.toList = (⟨#[101, 97, 99, 104]⟩ : ByteArray).toList then 6 else if s.toList = (⟨#[112, 108, 117, 115]⟩ : ByteArray).toList then 7 else -1
theorem kdW_is (s : ByteArray) : slices_Index_string_string.f 9 exW s = some (kdW s) := by
  have st : ∀ (k n : Nat), n < 8 → slices_Index_string_string.l0 (k + 1) exW s 8 (n : Int) = if s.toList = (exW.getD n ByteArray.empty).toList then some (n : Int) else slices_Index_string_string.l0 k exW s 8 ((n + 1 : Nat) : Int) := by
    intro k n hn
    simp only [slices_Index_string_string.l0]
    rw [if_pos (by omega), if_pos (by omega), if_pos (show (n : Int) < (exW.length : Int) by show (n : Int) < 8; omega), w_succ (by omega)]
    rfl
  have e : slices_Index_string_string.l0 1 exW s 8 ((8 : Nat) : Int) = some (-1) := by
    simp only [slices_Index_string_string.l0]
    rw [if_neg (by omega)]
  show slices_Index_string_string.l0 9 exW s 8 ((0 : Nat) : Int) = _
  rw [st 8 0 (by omega), st 7 1 (by omega), st 6 2 (by omega), st 5 3 (by omega), st 4 4 (by omega), st 3 5 (by omega), st 2 6 (by omega), st 1 7 (by omega), e]
  show (if s.toList = (⟨#[]⟩ : ByteArray).toList then some (0 : Int) else if s.toList = (⟨#[]⟩ : ByteArray).toList then some 1 else if s.toList = (⟨#[111, 114]⟩ : ByteArray).toList then some 2 else if s.toList = (⟨#[97, 110, 100]⟩ : ByteArray).toList then some 3 else if s.toList = (⟨#[115, 101, 113]⟩ : ByteArray).toList then some 4 else if s.toList = (⟨#[110, 111, 116]⟩ : ByteArray).toList then some 5 else if s.toList = (⟨#[101, 97, 99, 104]⟩ : ByteArray).toList then some 6 else if s.toList = (⟨#[112, 108, 117, 115]⟩ : ByteArray).toList then some 7 else some (-1)) = _
  unfold kdW
  by_cases h0 : s.toList = (⟨#[]⟩ : ByteArray).toList
  · rw [if_pos h0, if_pos h0]
  rw [if_neg h0, if_neg h0, if_neg h0]
  by_cases h2 : s.toList = (⟨#[111, 114]⟩ : ByteArray).toList
  · rw [if_pos h2, if_pos h2]
  rw [if_neg h2, if_neg h2]
  by_cases h3 : s.toList = (⟨#[97, 110, 100]⟩ : ByteArray).toList
  · rw [if_pos h3, if_pos h3]
  rw [if_neg h3, if_neg h3]
  by_cases h4 : s.toList = (⟨#[115, 101, 113]⟩ : ByteArray).toList
  · rw [if_pos h4, if_pos h4]
  rw [if_neg h4, if_neg h4]
  by_cases h5 : s.toList = (⟨#[110, 111, 116]⟩ : ByteArray).toList
  · rw [if_pos h5, if_pos h5]
  rw [if_neg h5, if_neg h5]
  by_cases h6 : s.toList = (⟨#[101, 97, 99, 104]⟩ : ByteArray).toList
  · rw [if_pos h6, if_pos h6]
  rw [if_neg h6, if_neg h6]
  by_cases h7 : s.toList = (⟨#[112, 108, 117, 115]⟩ : ByteArray).toList
  · rw [if_pos h7, if_pos h7]
  rw [if_neg h7, if_neg h7]
def letV (s : ByteArray) : Int := Lib.indexByte (⟨#[97, 98, 99, 100, 101]⟩ : ByteArray).data.toList (s.data.toList.headD 0)
def atV (s : ByteArray) : Int := match Lib.atoiAll s.data.toList with
  | .ok v => v
  | .range => Lib.atoiSat s.data.toList
  | _ => 0
def kidN (k : Int) : Nat := if k = 7 then 1 else if k = 5 ∨ k = 6 then 3 else 2
def kidsG (f : Nat → S29 × Nat) : Nat → Nat → List S29 → List S29 × Nat
  | 0, o, acc => (acc, o)
  | c + 1, o, acc => kidsG f c (f o).2 (acc ++ [(f o).1])
def exP (all : List ByteArray) : Nat → Nat → S29 × Nat
  | 0, o => (⟨0, 0, 0, []⟩, o)
  | d + 1, o =>
    if (all.getD o ByteArray.empty).size = 1 then (⟨1, letV (all.getD o ByteArray.empty), 0, []⟩, nextO all o)
    else if 2 ≤ kdW (all.getD o ByteArray.empty) ∧ kdW (all.getD o ByteArray.empty) ≤ 7 then
      let o1 := nextO all o
      let o2 := if kdW (all.getD o ByteArray.empty) = 7 then nextO all o1 else o1
      let ks := kidsG (exP all d) (kidN (kdW (all.getD o ByteArray.empty))) o2 []
      (⟨kdW (all.getD o ByteArray.empty), 0, if kdW (all.getD o ByteArray.empty) = 7 then atV (all.getD o1 ByteArray.empty) else 0, ks.1⟩, ks.2)
    else (⟨0, 0, 0, []⟩, nextO all o)
theorem exP_is (all : List ByteArray) (d o : Nat) : exP all (d + 1) o = if (all.getD o ByteArray.empty).size = 1 then (⟨1, letV (all.getD o ByteArray.empty), 0, []⟩, nextO all o)
    else if 2 ≤ kdW (all.getD o ByteArray.empty) ∧ kdW (all.getD o ByteArray.empty) ≤ 7 then
      (⟨kdW (all.getD o ByteArray.empty), 0, if kdW (all.getD o ByteArray.empty) = 7 then atV (all.getD (nextO all o) ByteArray.empty) else 0, (kidsG (exP all d) (kidN (kdW (all.getD o ByteArray.empty))) (if kdW (all.getD o ByteArray.empty) = 7 then nextO all (nextO all o) else nextO all o) []).1⟩, (kidsG (exP all d) (kidN (kdW (all.getD o ByteArray.empty))) (if kdW (all.getD o ByteArray.empty) = 7 then nextO all (nextO all o) else nextO all o) []).2)
    else (⟨0, 0, 0, []⟩, nextO all o) := rfl
theorem one_byte {s : ByteArray} (h : s.size = 1) : ∃ c, s = ⟨#[c]⟩ := by
  obtain ⟨⟨l⟩⟩ := s
  match l, h with
  | [c], _ => exact ⟨c, rfl⟩
theorem nextO_le {all : List ByteArray} {o : Nat} (h : o ≤ all.length) : nextO all o ≤ all.length := by
  unfold nextO
  by_cases q : o < all.length
  · rw [if_pos q]; omega
  · rw [if_neg q]; exact h

theorem RdAt.below {w w1 : World} {g hw off : Nat} {all : List ByteArray} (h : RdAt w g hw all off) (hb : Below w.heap.size w w1) : RdAt w1 g hw all off := by
  obtain ⟨q, h1, h2⟩ := h
  exact ⟨q, blk_below h1 hb, h2⟩
theorem RdAt.keep {w w1 : World} {g hw off b : Nat} {all : List ByteArray} (h : RdAt w g hw all off) (hk : KeepBut w w1 b none) (hne : g ≠ b) : RdAt w1 g hw all off := by
  obtain ⟨q, h1, h2⟩ := h
  exact ⟨q, blk_keep h1 hk hne, h2⟩
theorem RdAt.drew {w : World} {g hw off : Nat} {all : List ByteArray} (h : RdAt w g hw all off) : RdAt w.drew g hw all off := by
  obtain ⟨q, h1, h2⟩ := h
  exact ⟨q, blk_drew h1, h2⟩
theorem measure_lt (K n : Nat) (v : Int) (hv : v = ((n + 1 : Nat) : Int)) (h : n < K) : K - (intOf (.int .i64 v)).toNat < K - (intOf (.int .i64 (n : Int))).toNat := by
  subst hv
  have e : ∀ m : Nat, (intOf (.int .i64 (m : Int))).toNat = m := fun m => rfl
  rw [e, e]
  omega
theorem kp_below {w w1 w2 : World} {g : Nat} (h : KeepBut w w1 g none) (hb : Below w1.heap.size w1 w2) : KeepBut w w2 g none :=
  ⟨Nat.le_trans h.1 hb.size, fun k hk hne hr => (hb.block k (Nat.lt_of_lt_of_le hk h.1)).trans (h.2 k hk hne hr)⟩
theorem kp_own {w w1 w2 : World} {g b : Nat} (h : KeepBut w w1 g none) (hk : KeepBut w1 w2 b none) (hb : w.heap.size ≤ b) : KeepBut w w2 g none :=
  ⟨Nat.le_trans h.1 hk.1, fun k hl hne hr => (hk.2 k (Nat.lt_of_lt_of_le hl h.1) (by omega) (by simp)).trans (h.2 k hl hne hr)⟩
theorem kp_keep {w w1 w2 : World} {g : Nat} (h : KeepBut w w1 g none) (hk : KeepBut w1 w2 g none) : KeepBut w w2 g none :=
  ⟨Nat.le_trans h.1 hk.1, fun k hl hne hr => (hk.2 k (Nat.lt_of_lt_of_le hl h.1) hne (by simp)).trans (h.2 k hl hne hr)⟩
theorem SR.below {w w1 : World} {base : Nat} {ok : Nat → Prop} {v : Value} {xs : List S29} (h : SR w base ok v xs) (hb : Below w.heap.size w w1) : SR w1 base ok v xs := h.step (fun k _ hl => hb.block k hl)
theorem SR.keep {w w1 : World} {base b : Nat} {ok : Nat → Prop} {v : Value} {xs : List S29} (h : SR w base ok v xs) (hk : KeepBut w w1 b none) (hok : ∀ k, ok k → k ≠ b) : SR w1 base ok v xs := h.step (fun k ho hl => hk.2 k hl (hok k ho) (by simp))

def ErrAt (w : World) (p : Nat) : Prop := ∃ ev, w.cell? ⟨p, 0, none⟩ = some ev ∧ (ev = .nilIface ∨ ∃ te pe, ev = .iface te pe)
theorem ErrAt.below {w w1 : World} {p : Nat} (h : ErrAt w p) (hb : Below w.heap.size w w1) : ErrAt w1 p := by
  obtain ⟨ev, h1, h2⟩ := h
  exact ⟨ev, (hb.cell (World.block_lt_of_cell? _ _ h1)).trans h1, h2⟩
def TabR (w : World) : Prop := ErrAt w 2 ∧ ErrAt w 3 ∧ ∃ m, w.cell? ⟨1, 0, none⟩ = some (.int .i64 m)
theorem TabR.below {w w1 : World} (h : TabR w) (hb : Below w.heap.size w w1) : TabR w1 := by
  obtain ⟨h1, h2, m, h3⟩ := h
  exact ⟨h1.below hb, h2.below hb, m, (hb.cell (World.block_lt_of_cell? _ _ h3)).trans h3⟩
theorem kp_grown {w w1 w2 : World} {g : Nat} {row : Option Nat} (h : KeepBut w w1 g none) (hg : w1.grownBy w2 row) (hr : ∀ k, row = some k → w.heap.size ≤ k) : KeepBut w w2 g none :=
  ⟨Nat.le_trans h.1 hg.size, fun k hl hne hn => (hg.block k (Nat.lt_of_lt_of_le hl h.1) (fun e => by have := hr k e.symm; omega)).trans (h.2 k hl hne hn)⟩
theorem RdAt.grown {w w1 : World} {g hw off : Nat} {all : List ByteArray} {row : Option Nat} (h : RdAt w g hw all off) (hg : w.grownBy w1 row) (hne : some g ≠ row) : RdAt w1 g hw all off := by
  obtain ⟨q, h1, h2⟩ := h
  exact ⟨q, blk_grown h1 hg hne, h2⟩
def splitW (a : ByteArray) : List ByteArray := Lib.splitB (⟨#[32]⟩ : ByteArray) 0 (Lib.countB a ⟨#[32]⟩) a
theorem splitW_len (a : ByteArray) : (splitW a).length ≤ a.size + 1 := by
  unfold splitW
  rw [Lib.splitB_all _ (by decide) 0 _ a rfl]
  have := Lib.countB_le (⟨#[32]⟩ : ByteArray) (by decide) a.size a (Nat.le_refl _)
  omega
theorem splitB_size (sep : ByteArray) (save : Nat) : ∀ (k : Nat) (s : ByteArray), ∀ x ∈ Lib.splitB sep save k s, x.size ≤ s.size
  | 0, s, x, hx => by
    rw [Lib.splitB_zero, List.mem_singleton] at hx
    rw [hx]
    exact Nat.le_refl _
  | k + 1, s, x, hx => by
    unfold Lib.splitB at hx
    by_cases c : (Lib.indexB s sep == -1) = true
    · rw [if_pos c, List.mem_singleton] at hx
      rw [hx]
      exact Nat.le_refl _
    rw [if_neg c] at hx
    rcases List.mem_cons.1 hx with rfl | hx
    · rw [ByteArray.size_extract]; omega
    · have := splitB_size sep save k _ x hx
      rw [ByteArray.size_extract] at this
      omega
theorem splitW_size (a : ByteArray) : ∀ x ∈ splitW a, x.size ≤ a.size := splitB_size _ _ _ a
theorem split_calls (a : ByteArray) (ha : a.size ≤ 300) (m : Int) (w : World) (hm : w.cell? ⟨1, 0, none⟩ = some (.int .i64 m)) : Calls Tryd.prog 44 #[.string a, .string ⟨#[32]⟩] w fun e w' => ∃ g, g = w.heap.size ∧ e = .returned (.slice (some ⟨g, 0, none⟩) (splitW a).length (splitW a).length) ∧ w'.heap[g]? = some (.cells (wordsC (splitW a)) 9 (0, 0)) ∧ Below w.heap.size w w' := by
  refine (Tryd.strings_Split a ⟨#[32]⟩ m w (by omega) hm (by decide)).mono ?_
  rintro e w' ⟨rfl, rfl⟩
  refine ⟨_, rfl, ?_, blk_new w _, below_alloc (Below.refl _ _) _⟩
  rw [show (splitW a).length = Lib.countB a ⟨#[32]⟩ + 1 from Lib.splitB_all _ (by decide) 0 _ a rfl]
def exQ (a : ByteArray) : S29 × Nat := exP (splitW a) ((splitW a).length + 1) 0
def exT (a : ByteArray) : S29 := (exQ a).1
theorem atoi_calls (s : ByteArray) (hs : s.size ≤ 1000000) (w : World) (h2 : ErrAt w 2) (h3 : ErrAt w 3) : Calls Tryd.prog 72 #[.string s] w fun e w' => ∃ ev, e = .returned (.tuple #[.int .i64 (atV s), ev]) ∧ Below w.heap.size w w' := by
  unfold atV
  cases h : Lib.atoiAll s.data.toList with
  | ok v =>
    refine (Tryd.strconv_Atoi_ok s (by omega) v h w).mono ?_
    rintro e w' ⟨rfl, hw⟩
    refine ⟨_, rfl, ?_⟩
    rcases hw with rfl | ⟨t, rfl⟩
    · exact Below.refl _ _
    · exact Lib.bytesWorld_below w _ t
  | range =>
    obtain ⟨ev, e1, e2⟩ := h3
    refine (Tryd.strconv_Atoi_range s (by omega) h ev w e1 e2).mono ?_
    rintro e w' ⟨n, rfl, _, _, hb⟩
    exact ⟨_, rfl, hb⟩
  | _ =>
    obtain ⟨ev, e1, e2⟩ := h2
    refine (Tryd.strconv_Atoi_syntax s (by omega) h ev w e1 e2).mono ?_
    rintro e w' ⟨n, rfl, _, _, hb⟩
    exact ⟨_, rfl, hb⟩
theorem inR_is (a b c : Int) : impl_in.f a b c = some (decide (b ≤ a ∧ a ≤ c)) := by
  unfold impl_in.f
  by_cases h : b ≤ a
  · rw [if_pos h]; simp [h]
  · rw [if_neg h]; simp [h]
theorem kidsR_is (a : Int) (h1 : 2 ≤ a) (h7 : a ≤ 7) : impl_kids.f a = some (kidN a : Int) := by
  have : a = 2 ∨ a = 3 ∨ a = 4 ∨ a = 5 ∨ a = 6 ∨ a = 7 := by omega
  rcases this with rfl | rfl | rfl | rfl | rfl | rfl <;> rfl
theorem kidN_le (k : Int) : kidN k ≤ 3 := by
  unfold kidN
  (repeat' split) <;> omega
theorem kdW_ne {all : List ByteArray} {o : Nat} (h : 2 ≤ kdW (all.getD o ByteArray.empty)) : o < all.length := by
  refine Decidable.byContradiction (fun q => ?_)
  rw [show all.getD o ByteArray.empty = ByteArray.empty by simp [List.getD_eq_getElem?_getD, List.getElem?_eq_none (Nat.not_lt.1 q)]] at h
  have : kdW ByteArray.empty = 0 := if_pos rfl
  omega
theorem kidsG_le {all : List ByteArray} {f : Nat → S29 × Nat} (hf : ∀ o, o ≤ all.length → o ≤ (f o).2 ∧ (f o).2 ≤ all.length) : ∀ (c o : Nat) (acc : List S29), o ≤ all.length → o ≤ (kidsG f c o acc).2 ∧ (kidsG f c o acc).2 ≤ all.length
  | 0, o, acc, h => ⟨Nat.le_refl _, h⟩
  | c + 1, o, acc, h => by
    have h1 := hf o h
    have h2 := kidsG_le hf c (f o).2 (acc ++ [(f o).1]) h1.2
    exact ⟨Nat.le_trans h1.1 h2.1, h2.2⟩
theorem nextO_ge (all : List ByteArray) (o : Nat) : o ≤ nextO all o := by
  unfold nextO
  by_cases q : o < all.length
  · rw [if_pos q]; omega
  · rw [if_neg q]; exact Nat.le_refl _
theorem exP_le (all : List ByteArray) : ∀ (d o : Nat), o ≤ all.length → o ≤ (exP all d o).2 ∧ (exP all d o).2 ≤ all.length
  | 0, o, h => ⟨Nat.le_refl _, h⟩
  | d + 1, o, h => by
    have n1 := nextO_ge all o
    have n2 := nextO_le h
    have n3 := nextO_ge all (nextO all o)
    have n4 := nextO_le n2
    rw [exP_is]
    by_cases c1 : (all.getD o ByteArray.empty).size = 1
    · rw [if_pos c1]; exact ⟨n1, n2⟩
    rw [if_neg c1]
    by_cases c2 : 2 ≤ kdW (all.getD o ByteArray.empty) ∧ kdW (all.getD o ByteArray.empty) ≤ 7
    · rw [if_pos c2]
      by_cases c7 : kdW (all.getD o ByteArray.empty) = 7
      · have := kidsG_le (all := all) (f := exP all d) (fun o h => exP_le all d o h) (kidN (kdW (all.getD o ByteArray.empty))) (nextO all (nextO all o)) [] n4
        simp only [if_pos c7]
        exact ⟨by omega, this.2⟩
      · have := kidsG_le (all := all) (f := exP all d) (fun o h => exP_le all d o h) (kidN (kdW (all.getD o ByteArray.empty))) (nextO all o) [] n2
        simp only [if_neg c7]
        exact ⟨by omega, this.2⟩
    · rw [if_neg c2]; exact ⟨n1, n2⟩

set_option maxHeartbeats 4000000 in
set_option maxRecDepth 100000 in
theorem ex_walk (all : List ByteArray) (hw g : Nat) (hne : hw ≠ g) (hl : all.length ≤ 1000000) (hz : ∀ s ∈ all, s.size ≤ 1000000) (w0 : World) (ht : TabX w0) (h2 : ErrAt w0 2) (h3 : ErrAt w0 3) (hg0 : w0.heap.size ≤ g) : ∀ (d off : Nat) (w : World), all.length - off < d → off ≤ all.length → Below w0.heap.size w0 w →
    w.heap[hw]? = some (.cells (wordsC all) 9 (0, 0)) → RdAt w g hw all off →
    Calls Tryd.prog 45 #[.pointer (some ⟨g, 0, none⟩)] w fun e w' => ∃ v, e = .returned (.agg #[.int .i64 (exP all d off).1.f0, .int .i64 (exP all d off).1.f1, .int .i64 (exP all d off).1.f2, v]) ∧ SR w' w.heap.size (fun k => w.heap.size ≤ k) v (exP all d off).1.f3 ∧ RdAt w' g hw all (exP all d off).2 ∧ Below w0.heap.size w0 w' ∧ KeepBut w w' g none := by
  intro d
  induction d with
  | zero => intro off w hd; omega
  | succ d ih =>
  intro off w hd ho hB hW hR
  have HI := m0_ ih
  have HD := m0_ hd
  have HO := m0_ ho
  have HT := m0_ ht
  have HE2 := m0_ h2
  have HE3 := m0_ h3
  have HG0 := m0_ hg0
  have HNE := m0_ hne
  have HLEN := m0_ hl
  have HZ := m0_ hz
  have HW0 := m0_ hB.size
  have HWL := m0_ (blk_lt hW)
  have HGL := m0_ (show g < w.heap.size from by obtain ⟨q, h1, _⟩ := hR; exact blk_lt h1)
  have HB := m0_ hB
  have BKW := m0_ hW
  have RD := m0_ hR
  have KP := m0_ (KeepBut.refl w g none)
  have hu1_ := Tryd.underlying29
  clear ih hd ho ht h2 h3 hg0 hne hl hz hB hW hR
  obtain ⟨wd, hwd⟩ : ∃ wd, all.getD off ByteArray.empty = wd := ⟨_, rfl⟩
  obtain ⟨⟨X, OF⟩, hX⟩ : ∃ r, exP all (d + 1) off = r := ⟨_, rfl⟩
  rw [hX]
  rw [exP_is all d off, hwd] at hX
  have HX := m0_ hX
  have HWD := m0_ hwd
  clear hX hwd
  go_enter Tryd.func45, Tryd.ntmps45
  go_wp2_with (first | ((with_reducible refine gate_dst (N := 2) rfl ?_); refine box_event ?hg (N := 2) ?hd (cs := #[.int .i64 0, .int .i64 0, .int .i64 0, .slice none 0 0]) (t := 29) ?hr ?_; (case hd => rfl); (case hg => rfl); (case hr => first | (go_simp; done) | (go_simp; rfl)); intro gb2 hg wb2 hbox hb; have GW2 := m0_ (show w.heap.size ≤ gb2 from by rw [hg]; exact KP.out.1); have n0_ := m0_ (blk_below BKW.out hb); have n1_ := m0_ (RdAt.below RD.out hb); have n2_ := m0_ (kp_below KP.out hb); have n3_ := m0_ (below_step HB.out hb); have n4_ := m0_ (hbox); clear BKW RD KP HB; have BKW := n0_; have RD := n1_; have KP := n2_; have HB := n3_; have BK2 := n4_; clear n0_ n1_ n2_ n3_ n4_; clear hb hbox hg) | (go_at_call 69; fail))
  refine (next_walk all hw g off w0 _ HB.out HG0.out (Ne.symm HNE.out) HLEN.out BKW.out RD.out).mono ?_
  rintro e w1 ⟨he_, hr, hb, hk⟩
  rw [HWD.out] at he_
  subst he_
  have n0_ := m0_ (blk_keep BKW.out hk HNE.out); have n1_ := m0_ (hr); have n2_ := m0_ (kp_keep KP.out hk); have n3_ := m0_ (hb); have n4_ := m0_ (blk_keep BK2.out hk (by have a_ := GW2.out; have b_ := HGL.out; omega)); clear BKW RD KP HB BK2; have BKW := n0_; have RD := n1_; have KP := n2_; have HB := n3_; have BK2 := n4_; clear n0_ n1_ n2_ n3_ n4_
  clear hb hr hk
  by_cases c1 : wd.size = 1
  · obtain ⟨cc, rfl⟩ := one_byte c1
    have c1b : (((1 : Nat) : Int) == 1) = true := rfl
    have e_ := HX.out
    rw [if_pos c1] at e_
    obtain ⟨rfl, rfl⟩ := Prod.mk.inj e_
    clear e_
    go_wp2_with (first | ((with_reducible refine gate_store (t := 29) (p := 2) (v := .tmp 12) rfl ?_); refine store_blk (w0 := w0) (base := w0.heap.size) (e := 29) (g := gb2) (off := 0) (cur := #[.int .i64 0, .int .i64 0, .int .i64 0, .slice none 0 0]) (cur' := #[.int .i64 1, .int .i64 (letV ⟨#[cc]⟩), .int .i64 0, .slice none 0 0]) (u := .agg #[.int .i64 1, .int .i64 (letV ⟨#[cc]⟩), .int .i64 0, .slice none 0 0]) (seg := [.int .i64 1, .int .i64 (letV ⟨#[cc]⟩), .int .i64 0, .slice none 0 0]) rfl rfl rfl rfl rfl BK2.out rfl ?ht ?h1 (by simp) rfl HB.out (by have a_ := GW2.out; have b_ := HW0.out; omega) ?_; (case ht => kernel_rfl); (case h1 => intro q hq; simp only [List.mem_cons, List.not_mem_nil, or_false] at hq; first | (rcases hq with rfl | rfl | rfl | rfl <;> rfl) | (subst hq; rfl)); intro ws_ hs_ hk_ hB_; have n0_ := m0_ (hs_); have n1_ := m0_ (hB_); have n2_ := m0_ (blk_keep BKW.out hk_ (by have a_ := GW2.out; have b_ := HWL.out; omega)); have n3_ := m0_ (RdAt.keep RD.out hk_ (by have a_ := GW2.out; have b_ := HGL.out; omega)); have n4_ := m0_ (kp_own KP.out hk_ GW2.out); clear BK2 HB BKW RD KP; have BK2 := n0_; have HB := n1_; have BKW := n2_; have RD := n3_; have KP := n4_; clear n0_ n1_ n2_ n3_ n4_; clear hs_ hk_ hB_) | ((with_reducible refine gate_callee (f := 70) rfl ?_); refine goesL_ (some 11) rfl rfl Tryd.func70 (by kernel_rfl) rfl #[.string ⟨#[97, 98, 99, 100, 101]⟩, .string ⟨#[cc]⟩] rfl (by (try simp only [List.map_toArray, List.map_cons, List.map_nil]); first | done | rfl) ?_; (with_reducible refine (Tryd.strings_Index_one ⟨#[97, 98, 99, 100, 101]⟩ cc _).mono ?_); rintro e w' ⟨rfl, rfl⟩; refine ⟨_, rfl, ?_⟩))
    refine bodyPost_ret (results_cell_row rfl _ _ gb2 29 #[.int .i64 1, .int .i64 (letV ⟨#[cc]⟩), .int .i64 0, .slice none 0 0] (0, 0) _ rfl BK2.out Tryd.underlying29 rfl (by kernel_rfl)) rfl ?_
    exact ⟨_, rfl, SR.nil _ _ _, RD.out, HB.out, KP.out⟩
  have hX := HX.out
  rw [if_neg c1] at hX
  have c1b : ((wd.size : Int) == 1) = false := beq_eq_false_iff_ne.2 (by omega)
  obtain ⟨kd, hkd⟩ : ∃ kd, kdW wd = kd := ⟨_, rfl⟩
  have HKI := m0_ (show slices_Index_string_string.f 9 exW wd = some kd from by rw [kdW_is, hkd])
  rw [hkd] at hX
  have HKD := m0_ hkd
  clear hkd HX
  have HX := m0_ hX
  clear hX
  obtain ⟨AX, cX, h8X, hgX, hCX⟩ := TabX.below HT.out HB.out
  have HCX := m0_ hCX
  have H8X := m0_ h8X
  clear hCX h8X
  go_wp2_with (first | ((with_reducible refine gate_callee (f := 71) rfl ?_); refine goesL_ (some 15) rfl rfl Tryd.func71 (by kernel_rfl) rfl #[.slice AX 8 cX, .string wd] rfl (by (try simp only [List.map_toArray, List.map_cons, List.map_nil]); first | done | rfl) ?_; refine (slices_Index_string_string.calls 9 AX cX exW wd kd _ HCX.out H8X.out HKI.out).mono ?_; rintro e w' ⟨rfl, hd_⟩; refine ⟨_, rfl, ?_⟩; have hb := hd_.below; have n0_ := m0_ (blk_below BKW.out hb); have n1_ := m0_ (RdAt.below RD.out hb); have n2_ := m0_ (kp_below KP.out hb); have n3_ := m0_ (below_step HB.out hb); have n4_ := m0_ (blk_below BK2.out hb); clear BKW RD KP HB BK2; have BKW := n0_; have RD := n1_; have KP := n2_; have HB := n3_; have BK2 := n4_; clear n0_ n1_ n2_ n3_ n4_; clear hb hd_) | ((with_reducible refine gate_dst (N := 4) rfl ?_); refine box_event ?hg (N := 4) ?hd (cs := #[.int .i64 0, .int .i64 0, .int .i64 0, .slice none 0 0]) (t := 29) ?hr ?_; (case hd => rfl); (case hg => rfl); (case hr => first | (go_simp; done) | (go_simp; rfl)); intro gb4 hg wb4 hbox hb; have GW4 := m0_ (show w.heap.size ≤ gb4 from by rw [hg]; exact KP.out.1); have N2_4 := m0_ (show gb2 ≠ gb4 from by rw [hg]; exact Nat.ne_of_lt (blk_lt BK2.out)); have n0_ := m0_ (blk_below BKW.out hb); have n1_ := m0_ (RdAt.below RD.out hb); have n2_ := m0_ (kp_below KP.out hb); have n3_ := m0_ (below_step HB.out hb); have n4_ := m0_ (blk_below BK2.out hb); have n5_ := m0_ (hbox); clear BKW RD KP HB BK2; have BKW := n0_; have RD := n1_; have KP := n2_; have HB := n3_; have BK2 := n4_; have BK4 := n5_; clear n0_ n1_ n2_ n3_ n4_ n5_; clear hb hbox hg) | ((with_reducible refine gate_store (t := 29) (p := 4) (v := .tmp 16) rfl ?_); refine store_blk (w0 := w0) (base := w0.heap.size) (e := 29) (g := gb4) (off := 0) (cur := #[.int .i64 0, .int .i64 0, .int .i64 0, .slice none 0 0]) (cur' := #[.int .i64 kd, .int .i64 0, .int .i64 0, .slice none 0 0]) (u := .agg #[.int .i64 kd, .int .i64 0, .int .i64 0, .slice none 0 0]) (seg := [.int .i64 kd, .int .i64 0, .int .i64 0, .slice none 0 0]) rfl rfl rfl rfl rfl BK4.out rfl ?ht ?h1 (by simp) rfl HB.out (by have a_ := GW4.out; have b_ := HW0.out; omega) ?_; (case ht => kernel_rfl); (case h1 => intro q hq; simp only [List.mem_cons, List.not_mem_nil, or_false] at hq; first | (rcases hq with rfl | rfl | rfl | rfl <;> rfl) | (subst hq; rfl)); intro ws_ hs_ hk_ hB_; have n0_ := m0_ (hs_); have n1_ := m0_ (hB_); have n2_ := m0_ (blk_keep BKW.out hk_ (by have a_ := GW4.out; have b_ := HWL.out; omega)); have n3_ := m0_ (RdAt.keep RD.out hk_ (by have a_ := GW4.out; have b_ := HGL.out; omega)); have n4_ := m0_ (kp_own KP.out hk_ GW4.out); have n5_ := m0_ (blk_keep BK2.out hk_ (by have a_ := N2_4.out; omega)); clear BK4 HB BKW RD KP BK2; have BK4 := n0_; have HB := n1_; have BKW := n2_; have RD := n3_; have KP := n4_; have BK2 := n5_; clear n0_ n1_ n2_ n3_ n4_ n5_; clear hs_ hk_ hB_; clear hgX; have hz4_0 := (blk_cell BK4.out 0).trans (show _ = some (Value.int .i64 kd) from rfl); have hz4_1 := (blk_cell BK4.out 1).trans (show _ = some (Value.int .i64 0) from rfl); have hz4_2 := (blk_cell BK4.out 2).trans (show _ = some (Value.int .i64 0) from rfl); have hz4_3 := (blk_cell BK4.out 3).trans (show _ = some (Value.slice none 0 0) from rfl)) | (go_at_call 62; fail))
  clear hz4_0 hz4_1 hz4_2 hz4_3
  refine (impl_in.calls kd 2 7 _ _ (inR_is kd 2 7)).mono ?_
  rintro e w5 ⟨rfl, hd_⟩
  have hb := hd_.below
  have n0_ := m0_ (blk_below BKW.out hb); have n1_ := m0_ (RdAt.below RD.out hb); have n2_ := m0_ (kp_below KP.out hb); have n3_ := m0_ (below_step HB.out hb); have n4_ := m0_ (blk_below BK2.out hb); have n5_ := m0_ (blk_below BK4.out hb); clear BKW RD KP HB BK2 BK4; have BKW := n0_; have RD := n1_; have KP := n2_; have HB := n3_; have BK2 := n4_; have BK4 := n5_; clear n0_ n1_ n2_ n3_ n4_ n5_
  clear hb hd_
  by_cases c2 : 2 ≤ kd ∧ kd ≤ 7
  rotate_left
  · have e_ := HX.out
    rw [if_neg c2] at e_
    obtain ⟨rfl, rfl⟩ := Prod.mk.inj e_
    clear e_
    have c2b : decide (2 ≤ kd ∧ kd ≤ 7) = false := decide_eq_false c2
    rw [c2b]
    clear c2b c2
    go_wp2_with (first | ((with_reducible refine gate_store (t := 29) (p := 2) (v := .tmp 21) rfl ?_); refine store_blk (w0 := w0) (base := w0.heap.size) (e := 29) (g := gb2) (off := 0) (cur := #[.int .i64 0, .int .i64 0, .int .i64 0, .slice none 0 0]) (cur' := #[.int .i64 0, .int .i64 0, .int .i64 0, .slice none 0 0]) (u := .agg #[.int .i64 0, .int .i64 0, .int .i64 0, .slice none 0 0]) (seg := [.int .i64 0, .int .i64 0, .int .i64 0, .slice none 0 0]) rfl rfl rfl rfl rfl BK2.out rfl ?ht ?h1 (by simp) rfl HB.out (by have a_ := GW2.out; have b_ := HW0.out; omega) ?_; (case ht => kernel_rfl); (case h1 => intro q hq; simp only [List.mem_cons, List.not_mem_nil, or_false] at hq; first | (rcases hq with rfl | rfl | rfl | rfl <;> rfl) | (subst hq; rfl)); intro ws_ hs_ hk_ hB_; have n0_ := m0_ (hs_); have n1_ := m0_ (hB_); have n2_ := m0_ (blk_keep BKW.out hk_ (by have a_ := GW2.out; have b_ := HWL.out; omega)); have n3_ := m0_ (RdAt.keep RD.out hk_ (by have a_ := GW2.out; have b_ := HGL.out; omega)); have n4_ := m0_ (kp_own KP.out hk_ GW2.out); have n5_ := m0_ (blk_keep BK4.out hk_ (by have a_ := N2_4.out; omega)); clear BK2 HB BKW RD KP BK4; have BK2 := n0_; have HB := n1_; have BKW := n2_; have RD := n3_; have KP := n4_; have BK4 := n5_; clear n0_ n1_ n2_ n3_ n4_ n5_; clear hs_ hk_ hB_))
    refine bodyPost_ret (results_cell_row rfl _ _ gb2 29 #[.int .i64 0, .int .i64 0, .int .i64 0, .slice none 0 0] (0, 0) _ rfl BK2.out Tryd.underlying29 rfl (by kernel_rfl)) rfl ?_
    exact ⟨_, rfl, SR.nil _ _ _, RD.out, HB.out, KP.out⟩
  have hX := HX.out
  rw [if_pos c2] at hX
  have c2b : decide (2 ≤ kd ∧ kd ≤ 7) = true := decide_eq_true c2
  rw [c2b]
  have HLT := m0_ (show off < all.length from kdW_ne (by rw [HWD.out, HKD.out]; exact c2.1))
  have HK27 := m0_ c2
  clear c2 c2b
  have HN1 := m0_ (show nextO all off = off + 1 from if_pos HLT.out)
  have HWN := m0_ (show (all.getD (nextO all off) ByteArray.empty).size ≤ 1000000 from by rw [List.getD_eq_getElem?_getD]; cases hq : all[nextO all off]? with | none => decide | some s => exact HZ.out s (List.mem_of_getElem? hq))
  have hz4_0 := (blk_cell BK4.out 0).trans (show _ = some (Value.int .i64 kd) from rfl); have hz4_1 := (blk_cell BK4.out 1).trans (show _ = some (Value.int .i64 0) from rfl); have hz4_2 := (blk_cell BK4.out 2).trans (show _ = some (Value.int .i64 0) from rfl); have hz4_3 := (blk_cell BK4.out 3).trans (show _ = some (Value.slice none 0 0) from rfl)
  go_upto_if 24 with (fail)
  clear hz4_0 hz4_1 hz4_2 hz4_3
  generalize ho2 : (if kd = 7 then nextO all (nextO all off) else nextO all off) = o2 at hX
  generalize hnn : (if kd = 7 then atV (all.getD (nextO all off) ByteArray.empty) else 0) = nn at hX
  clear HX
  have HX := m0_ hX
  clear hX
  have HO2 := m0_ ho2
  have HNN := m0_ hnn
  clear ho2 hnn
  go_cut [] (fun wc => Aside0 (wc.heap[gb4]? = some (.cells #[.int .i64 kd, .int .i64 0, .int .i64 nn, .slice none 0 0] 29 (0, 0))) ∧ Aside0 (wc.heap[gb2]? = some (.cells #[.int .i64 0, .int .i64 0, .int .i64 0, .slice none 0 0] 29 (0, 0))) ∧ Aside0 (wc.heap[hw]? = some (.cells (wordsC all) 9 (0, 0))) ∧ Aside0 (RdAt wc g hw all o2) ∧ Aside0 (Below w0.heap.size w0 wc) ∧ Aside0 (KeepBut w wc g none))
  case first =>
    by_cases h7 : kd = 7
    rotate_left
    · have k7 : (kd == 7) = false := beq_eq_false_iff_ne.2 h7
      have k7d : decide (kd = 7) = false := decide_eq_false h7
      have e2_ := HO2.out
      have e3_ := HNN.out
      rw [if_neg h7] at e2_ e3_
      subst e2_ e3_
      (first | rw [k7] | skip)
      go_wp2
      go_meet
      case rel => exact ⟨BK4, BK2, BKW, RD, HB, KP⟩
    have k7 : (kd == 7) = true := beq_iff_eq.2 h7
    have e2_ := HO2.out
    have e3_ := HNN.out
    rw [if_pos h7] at e2_ e3_
    subst e2_ e3_
    clear h7
    (first | rw [k7] | skip)
    go_wp2_with (go_at_call 69; fail)
    refine (next_walk all hw g (nextO all off) w0 _ HB.out HG0.out (Ne.symm HNE.out) HLEN.out BKW.out RD.out).mono ?_
    rintro e w7 ⟨rfl, hr, hb, hk⟩
    have n0_ := m0_ (blk_keep BKW.out hk HNE.out); have n1_ := m0_ (hr); have n2_ := m0_ (kp_keep KP.out hk); have n3_ := m0_ (hb); have n4_ := m0_ (blk_keep BK2.out hk (by have a_ := GW2.out; have b_ := HGL.out; omega)); have n5_ := m0_ (blk_keep BK4.out hk (by have a_ := GW4.out; have b_ := HGL.out; omega)); clear BKW RD KP HB BK2 BK4; have BKW := n0_; have RD := n1_; have KP := n2_; have HB := n3_; have BK2 := n4_; have BK4 := n5_; clear n0_ n1_ n2_ n3_ n4_ n5_
    clear hb hr hk
    go_wp2_with (first | ((with_reducible refine gate_callee (f := 72) rfl ?_); refine goesL_ (some 28) rfl rfl Tryd.func72 (by kernel_rfl) rfl #[.string (all.getD (nextO all off) ByteArray.empty)] rfl (by (try simp only [List.map_toArray, List.map_cons, List.map_nil]); first | done | rfl) ?_; (with_reducible refine (atoi_calls _ HWN.out _ (ErrAt.below HE2.out HB.out) (ErrAt.below HE3.out HB.out)).mono ?_); rintro e w' ⟨ev_, rfl, hb⟩; refine ⟨_, rfl, ?_⟩; have n0_ := m0_ (blk_below BKW.out hb); have n1_ := m0_ (RdAt.below RD.out hb); have n2_ := m0_ (kp_below KP.out hb); have n3_ := m0_ (below_step HB.out hb); have n4_ := m0_ (blk_below BK2.out hb); have n5_ := m0_ (blk_below BK4.out hb); clear BKW RD KP HB BK2 BK4; have BKW := n0_; have RD := n1_; have KP := n2_; have HB := n3_; have BK2 := n4_; have BK4 := n5_; clear n0_ n1_ n2_ n3_ n4_ n5_; clear hb) | ((with_reducible refine gate_store (t := 3) (p := 31) (v := .tmp 29) rfl ?_); refine store_blk (w0 := w0) (base := w0.heap.size) (e := 29) (g := gb4) (off := 2) (cur := #[.int .i64 kd, .int .i64 0, .int .i64 0, .slice none 0 0]) (cur' := #[.int .i64 kd, .int .i64 0, .int .i64 (atV (all.getD (nextO all off) ByteArray.empty)), .slice none 0 0]) (u := .int .i64 (atV (all.getD (nextO all off) ByteArray.empty))) (seg := [.int .i64 (atV (all.getD (nextO all off) ByteArray.empty))]) rfl rfl rfl rfl rfl BK4.out rfl ?ht ?h1 (by simp) rfl HB.out (by have a_ := GW4.out; have b_ := HW0.out; omega) ?_; (case ht => kernel_rfl); (case h1 => intro q hq; simp only [List.mem_cons, List.not_mem_nil, or_false] at hq; first | (rcases hq with rfl | rfl | rfl | rfl <;> rfl) | (subst hq; rfl)); intro ws_ hs_ hk_ hB_; have n0_ := m0_ (hs_); have n1_ := m0_ (hB_); have n2_ := m0_ (blk_keep BKW.out hk_ (by have a_ := GW4.out; have b_ := HWL.out; omega)); have n3_ := m0_ (RdAt.keep RD.out hk_ (by have a_ := GW4.out; have b_ := HGL.out; omega)); have n4_ := m0_ (kp_own KP.out hk_ GW4.out); have n5_ := m0_ (blk_keep BK2.out hk_ (by have a_ := N2_4.out; omega)); clear BK4 HB BKW RD KP BK2; have BK4 := n0_; have HB := n1_; have BKW := n2_; have RD := n3_; have KP := n4_; have BK2 := n5_; clear n0_ n1_ n2_ n3_ n4_ n5_; clear hs_ hk_ hB_))
    go_meet
    case rel => exact ⟨BK4, BK2, BKW, RD, HB, KP⟩
  case rest =>
    clear BK4 BK2 BKW RD HB KP
    obtain ⟨BK4, BK2, BKW, RD, HB, KP⟩ := hcut
    have HO2G := m0_ (show off + 1 ≤ o2 ∧ o2 ≤ all.length from by rw [← HO2.out]; have q1 := HN1.out; have q2 := HLT.out; have q3 := nextO_ge all (nextO all off); have q4 := nextO_le (all := all) (o := nextO all off) (by omega); by_cases c7 : kd = 7 <;> simp only [c7, if_true, if_false] <;> omega)
    have hz4_0 := (blk_cell BK4.out 0).trans (show _ = some (Value.int .i64 kd) from rfl); have hz4_1 := (blk_cell BK4.out 1).trans (show _ = some (Value.int .i64 0) from rfl); have hz4_2 := (blk_cell BK4.out 2).trans (show _ = some (Value.int .i64 nn) from rfl); have hz4_3 := (blk_cell BK4.out 3).trans (show _ = some (Value.slice none 0 0) from rfl)
    go_wp2_with (go_at_call 60; fail)
    clear hz4_0 hz4_1 hz4_2 hz4_3
    refine (impl_kids.calls kd (kidN kd : Int) _ (kidsR_is kd HK27.out.1 HK27.out.2)).mono ?_
    rintro e w9 ⟨rfl, hb⟩
    have n0_ := m0_ (blk_below BKW.out hb); have n1_ := m0_ (RdAt.below RD.out hb); have n2_ := m0_ (kp_below KP.out hb); have n3_ := m0_ (below_step HB.out hb); have n4_ := m0_ (blk_below BK2.out hb); have n5_ := m0_ (blk_below BK4.out hb); clear BKW RD KP HB BK2 BK4; have BKW := n0_; have RD := n1_; have KP := n2_; have HB := n3_; have BK2 := n4_; have BK4 := n5_; clear n0_ n1_ n2_ n3_ n4_ n5_
    clear hb
    have HK3 := m0_ (kidN_le kd)
    generalize kidN kd = K at *
    go_wp2
    go_loopw [35] (fun v35 w' => ∃ n : Nat, v35 = .int .i64 n ∧ n ≤ K ∧ ∃ (o : Nat) (acc : List S29) (va : Value), Aside0 (kidsG (exP all d) (K - n) o acc = kidsG (exP all d) K o2 []) ∧ Aside0 (o2 ≤ o ∧ o ≤ all.length) ∧ Aside0 (acc.length ≤ n) ∧ Aside0 (SR w' w.heap.size (fun k => w.heap.size ≤ k ∧ k ≠ gb2 ∧ k ≠ gb4) va acc) ∧ Aside0 (w'.heap[gb4]? = some (.cells #[.int .i64 kd, .int .i64 0, .int .i64 nn, va] 29 (0, 0))) ∧ Aside0 (w'.heap[gb2]? = some (.cells #[.int .i64 0, .int .i64 0, .int .i64 0, .slice none 0 0] 29 (0, 0))) ∧ Aside0 (w'.heap[hw]? = some (.cells (wordsC all) 9 (0, 0))) ∧ Aside0 (RdAt w' g hw all o) ∧ Aside0 (Below w0.heap.size w0 w') ∧ Aside0 (KeepBut w w' g none)) (fun v35 _ => K - (intOf v35).toNat)
    case atStart => exact ⟨0, rfl, Nat.zero_le _, o2, [], .slice none 0 0, ⟨rfl⟩, ⟨Nat.le_refl _, HO2G.out.2⟩, ⟨Nat.le_refl _⟩, ⟨SR.nil _ _ _⟩, BK4, BK2, BKW, RD, HB, KP⟩
    case round =>
      rename_i wr
      clear BK4 BK2 BKW RD HB KP
      obtain ⟨n, rfl, hn, o, acc, va, HKS, HOO, HAL, HS, BK4, BK2, BKW, RD, HB, KP⟩ := hrel
      obtain ⟨Ava, cva, hva⟩ := SR.slice HS.out
      subst hva
      by_cases hlt : n < K
      rotate_left
      · obtain rfl : n = K := by omega
        have l1 : decide (((n : Nat) : Int) < (n : Int)) = false := decide_eq_false (by omega)
        have e_ := HKS.out
        rw [Nat.sub_self] at e_
        have e2_ : (acc, o) = kidsG (exP all d) n o2 [] := e_
        have e3_ := HX.out
        rw [← e2_] at e3_
        obtain ⟨rfl, rfl⟩ := Prod.mk.inj e3_
        clear e_ e2_ e3_
        have hz4_0 := (blk_cell BK4.out 0).trans (show _ = some (Value.int .i64 kd) from rfl); have hz4_1 := (blk_cell BK4.out 1).trans (show _ = some (Value.int .i64 0) from rfl); have hz4_2 := (blk_cell BK4.out 2).trans (show _ = some (Value.int .i64 nn) from rfl); have hz4_3 := (blk_cell BK4.out 3).trans (show _ = some (Value.slice Ava acc.length cva) from rfl)
        go_wp2_with (first | ((with_reducible refine gate_store (t := 29) (p := 2) (v := .tmp 45) rfl ?_); refine store_blk (w0 := w0) (base := w0.heap.size) (e := 29) (g := gb2) (off := 0) (cur := #[.int .i64 0, .int .i64 0, .int .i64 0, .slice none 0 0]) (cur' := #[.int .i64 kd, .int .i64 0, .int .i64 nn, .slice Ava acc.length cva]) (u := .agg #[.int .i64 kd, .int .i64 0, .int .i64 nn, .slice Ava acc.length cva]) (seg := [.int .i64 kd, .int .i64 0, .int .i64 nn, .slice Ava acc.length cva]) rfl rfl rfl rfl rfl BK2.out rfl ?ht ?h1 (by simp) rfl HB.out (by have a_ := GW2.out; have b_ := HW0.out; omega) ?_; (case ht => kernel_rfl); (case h1 => intro q hq; simp only [List.mem_cons, List.not_mem_nil, or_false] at hq; first | (rcases hq with rfl | rfl | rfl | rfl <;> rfl) | (subst hq; rfl)); intro ws_ hs_ hk_ hB_; have n0_ := m0_ (hs_); have n1_ := m0_ (hB_); have n2_ := m0_ (blk_keep BKW.out hk_ (by have a_ := GW2.out; have b_ := HWL.out; omega)); have n3_ := m0_ (RdAt.keep RD.out hk_ (by have a_ := GW2.out; have b_ := HGL.out; omega)); have n4_ := m0_ (kp_own KP.out hk_ GW2.out); have n5_ := m0_ (blk_keep BK4.out hk_ (by have a_ := N2_4.out; omega)); have n6_ := m0_ (SR.keep HS.out hk_ (fun k_ h_ => h_.2.1)); clear BK2 HB BKW RD KP BK4 HS; have BK2 := n0_; have HB := n1_; have BKW := n2_; have RD := n3_; have KP := n4_; have BK4 := n5_; have HS := n6_; clear n0_ n1_ n2_ n3_ n4_ n5_ n6_; clear hs_ hk_ hB_))
        refine bodyPost_ret (results_cell_row rfl _ _ gb2 29 #[.int .i64 kd, .int .i64 0, .int .i64 nn, .slice Ava acc.length cva] (0, 0) _ rfl BK2.out Tryd.underlying29 rfl (by kernel_rfl)) rfl ?_
        exact ⟨_, rfl, SR.mono HS.out (fun k h_ => h_.1), RD.out, HB.out, KP.out⟩
      have l1 : decide ((n : Int) < (K : Int)) = true := decide_eq_true (by omega)
      obtain ⟨xo, hxo⟩ : ∃ xo, exP all d o = xo := ⟨_, rfl⟩
      have hio := HI.out o
      rw [hxo] at hio
      have HIO := m0_ hio
      have HXO := m0_ hxo
      have HNL := m0_ hlt
      have HNK := m0_ hn
      clear hio hxo
      go_upto_region 11 with (fail)
      clear l1 hlt hn
      have n0_ := m0_ (SR.step (w1 := World.drew _) HS.out (fun _ _ _ => rfl)); have n1_ := m0_ (blk_drew BK4.out); have n2_ := m0_ (blk_drew BK2.out); have n3_ := m0_ (blk_drew BKW.out); have n4_ := m0_ (RdAt.drew RD.out); have n5_ := m0_ (below_drew1 HB.out); have n6_ := m0_ (keep_drew KP.out); clear HS BK4 BK2 BKW RD HB KP; have HS := n0_; have BK4 := n1_; have BK2 := n2_; have BKW := n3_; have RD := n4_; have HB := n5_; have KP := n6_; clear n0_ n1_ n2_ n3_ n4_ n5_ n6_
      refine start_ (n := 8) (S := fun w' => w'.cell? ⟨gb4, 0, none⟩ = some (.int .i64 kd) ∧ w'.cell? ⟨gb4, 1, none⟩ = some (.int .i64 0) ∧ w'.cell? ⟨gb4, 2, none⟩ = some (.int .i64 nn) ∧ w'.cell? ⟨gb4, 3, none⟩ = some (.slice Ava acc.length cva)) (ds := [7]) #[false, false, false, false, false, false, false, false] (by kernel_rfl) rfl rfl ⟨(blk_cell BK4.out 0).trans rfl, (blk_cell BK4.out 1).trans rfl, (blk_cell BK4.out 2).trans rfl, (blk_cell BK4.out 3).trans rfl⟩ (fun hHeld => ?_)
      generalize wr.drew = u11 at HS BK4 BK2 BKW RD HB KP hHeld ⊢
      have L2 := m0_ (blk_lt BK2.out)
      have L4 := m0_ (blk_lt BK4.out)
      have KS := m0_ KP.out.1
      refine pv_ 0 37 #[true, false, false, false, false, false, false, false] (by kernel_rfl) ?_
      refine pv_ 2 39 #[true, false, true, false, false, false, false, false] (by kernel_rfl) ?_
      refine take_ (i := 1) (N := some 38) (v := ?_) (a' := ?_) #[true, true, true, false, false, false, false, false] rfl rfl (by kernel_rfl) (fun _ _ _ h => h) (Or.inl ⟨by rfl, ?_⟩) hHeld ?_ ?_
      rotate_left
      · rintro w' ⟨s0, s1, s2, s3⟩
        go_simp
        with_reducible rfl
      rotate_left
      · simp only [Act.put, List.setIfInBounds_toArray, List.set_cons_zero, List.set_cons_succ, i64_w, i32_w]
        rfl
      refine one_ (i := 3) (N := some 40) #[true, true, true, true, false, false, false, false] rfl rfl (by kernel_rfl) (by decide) (fun K hK => ?_)
      refine goes_ Tryd.func45 (by kernel_rfl) rfl #[.pointer (some ⟨g, 0, none⟩)] (by rfl) rfl rfl (by simp only [List.map_toArray, List.map_cons, List.map_nil]; rfl) ?_
      with_reducible refine (HIO.out u11 (by have q1 := HD.out; have q2 := HLT.out; have q3 := HOO.out; have q4 := HO2G.out; omega) HOO.out.2 HB.out BKW.out RD.out).mono ?_
      rintro e w11 ⟨vx, rfl, hsx, hr, hb, hk⟩
      refine ⟨_, rfl, ?_⟩
      obtain ⟨Ax, cx, hvx⟩ := SR.slice hsx
      subst hvx
      have HSX := m0_ hsx
      have HSO := m0_ (SR.keep (SR.mono (ok' := fun k => (w.heap.size ≤ k ∧ k ≠ gb2 ∧ k ≠ gb4) ∧ k < u11.heap.size) (SR.bound HS.out) (fun k hk_ => ⟨hk_.1, hk_.2.2⟩)) hk (fun k hk_ => by have q1 := HGL.out; have q2 := hk_.1.1; omega))
      have n0_ := m0_ (blk_keep BKW.out hk HNE.out); have n1_ := m0_ (hr); have n2_ := m0_ (kp_keep KP.out hk); have n3_ := m0_ (hb); have n4_ := m0_ (blk_keep BK2.out hk (by have a_ := GW2.out; have b_ := HGL.out; omega)); have n5_ := m0_ (blk_keep BK4.out hk (by have a_ := GW4.out; have b_ := HGL.out; omega)); clear BKW RD KP HB BK2 BK4; have BKW := n0_; have RD := n1_; have KP := n2_; have HB := n3_; have BK2 := n4_; have BK4 := n5_; clear n0_ n1_ n2_ n3_ n4_ n5_
      clear HS hb hk hr hsx
      refine hK.out _ _ ⟨(blk_cell BK4.out 0).trans rfl, (blk_cell BK4.out 1).trans rfl, (blk_cell BK4.out 2).trans rfl, (blk_cell BK4.out 3).trans rfl⟩ (fun hHeld => ?_)
      clear hK K
      refine norm_ (a' := ?_) ?_ ?_
      rotate_left
      · show Act.put _ (some 40) _ = _
        simp only [Act.put, List.setIfInBounds_toArray, List.set_cons_zero, List.set_cons_succ, i64_w, i32_w]
        rfl
      refine one_ (i := 4) (N := some 41) #[true, true, true, true, true, false, false, false] rfl rfl (by kernel_rfl) (by decide) (fun K hK => ?_)
      refine value_ (w1 := ?_) (v := ?_) (by rfl) rfl ?_ ?_
      rotate_left 2
      · go_simp
        constructor
        · rfl
        · rfl
      refine hK.out _ _ ⟨(blk_cell (blk_alloc BK4.out _) 0).trans rfl, (blk_cell (blk_alloc BK4.out _) 1).trans rfl, (blk_cell (blk_alloc BK4.out _) 2).trans rfl, (blk_cell (blk_alloc BK4.out _) 3).trans rfl⟩ (fun hHeld => ?_)
      clear hK K
      refine norm_ (a' := ?_) ?_ ?_
      rotate_left
      · show Act.put _ (some 41) _ = _
        simp only [Act.put, List.setIfInBounds_toArray, List.set_cons_zero, List.set_cons_succ, i64_w, i32_w]
        rfl
      refine one_ (i := 5) (N := some 42) #[true, true, true, true, true, true, false, false] rfl rfl (by kernel_rfl) (by decide) (fun K hK => ?_)
      refine SR_append_step w.heap.size u11.heap.size (by rfl) (.tmp 38) (.tmp 41) 27 rfl Tryd.underlying27 info29 (.slice Ava acc.length cva) acc xo.1 [.int .i64 xo.1.f0, .int .i64 xo.1.f1, .int .i64 xo.1.f2, .slice Ax xo.1.f3.length cx] (fun k => w.heap.size ≤ k ∧ k ≠ gb2 ∧ k ≠ gb4) (fun k => (w.heap.size ≤ k ∧ k ≠ gb2 ∧ k ≠ gb4) ∧ k < u11.heap.size) (fun k => u11.heap.size ≤ k) rfl rfl ?aP (fun _ hk_ => hk_) ?aK ?aF HSO.out ?aS ?aL ?_
      (case aP => exact kT_mkM (SR.lower HSX.out KS.out))
      (case aK => exact fun k hk_ => ⟨⟨by have q1 := KS.out; omega, by have q1 := L2.out; omega, by have q1 := L4.out; omega⟩, hk_⟩)
      (case aF => exact fun k hk_ => ⟨by have q1 := KP.out.1; omega, by have q1 := blk_lt BK2.out; omega, by have q1 := blk_lt BK4.out; omega⟩)
      (case aS => exact KP.out.1)
      (case aL => have q1 := HAL.out; have q2 := HNK.out; have q3 := HK3.out; omega)
      intro v1_ w13 ho_ hb hg
      have n0_ := m0_ (blk_grown BK2.out hg (fun e_ => (SR.own HSO.out _ e_.symm).1.2.1 rfl)); have n1_ := m0_ (blk_grown BK4.out hg (fun e_ => (SR.own HSO.out _ e_.symm).1.2.2 rfl)); have n2_ := m0_ (blk_grown BKW.out hg (fun e_ => by have q1 := (SR.own HSO.out _ e_.symm).1.1; have q2 := HWL.out; omega)); have n3_ := m0_ (RdAt.grown RD.out hg (fun e_ => by have q1 := (SR.own HSO.out _ e_.symm).1.1; have q2 := HGL.out; omega)); have n4_ := m0_ (below_weaken HB.out HW0.out hb); have n5_ := m0_ (kp_grown KP.out hg (fun k e_ => (SR.own HSO.out k e_).1.1)); have n6_ := m0_ (ho_); clear BK2 BK4 BKW RD HB KP; have BK2 := n0_; have BK4 := n1_; have BKW := n2_; have RD := n3_; have HB := n4_; have KP := n5_; have HS := n6_; clear n0_ n1_ n2_ n3_ n4_ n5_ n6_
      clear HSO HSX hb hg ho_
      obtain ⟨A5, c5, hv5⟩ := SR.slice HS.out
      subst hv5
      refine hK.out _ _ ⟨(blk_cell BK4.out 0).trans rfl, (blk_cell BK4.out 1).trans rfl, (blk_cell BK4.out 2).trans rfl, (blk_cell BK4.out 3).trans rfl⟩ (fun hHeld => ?_)
      clear hK K
      refine norm_ (a' := ?_) ?_ ?_
      rotate_left
      · show Act.put _ (some 42) _ = _
        simp only [Act.put, List.setIfInBounds_toArray, List.set_cons_zero, List.set_cons_succ, i64_w, i32_w]
        rfl
      refine pv_ 6 43 #[true, true, true, true, true, true, true, false] (by kernel_rfl) ?_
      refine last_ (i := 7) (N := none) #[true, true, true, true, true, true, true, true] rfl rfl (by kernel_rfl) (by decide) (fun K hK => ?_)
      refine store_step (t := 27) (p := 43) (v := .tmp 42) (w0 := w0) (base := w0.heap.size) (e := 29) (g := gb4) (off := 3) (cur := #[.int .i64 kd, .int .i64 0, .int .i64 nn, .slice Ava acc.length cva]) (cur' := #[.int .i64 kd, .int .i64 0, .int .i64 nn, .slice A5 (acc ++ [xo.1]).length c5]) (u := .slice A5 (acc ++ [xo.1]).length c5) (seg := [.slice A5 (acc ++ [xo.1]).length c5]) (by rfl) rfl rfl rfl rfl BK4.out rfl ?ht ?h1 (by simp) rfl HB.out (by have a_ := GW4.out; have b_ := HW0.out; omega) ?_
      (case ht => kernel_rfl)
      (case h1 => intro q_ hq_; simp only [List.mem_cons, List.not_mem_nil, or_false] at hq_; subst hq_; rfl)
      intro ws_ hs_ hk_ hB_
      have n0_ := m0_ (hs_); have n1_ := m0_ (hB_); have n2_ := m0_ (blk_keep BKW.out hk_ (by have a_ := GW4.out; have b_ := HWL.out; omega)); have n3_ := m0_ (RdAt.keep RD.out hk_ (by have a_ := GW4.out; have b_ := HGL.out; omega)); have n4_ := m0_ (kp_own KP.out hk_ GW4.out); have n5_ := m0_ (blk_keep BK2.out hk_ (by have a_ := N2_4.out; omega)); have n6_ := m0_ (SR.keep HS.out hk_ (fun k_ h_ => h_.2.2)); clear BK4 HB BKW RD KP BK2 HS; have BK4 := n0_; have HB := n1_; have BKW := n2_; have RD := n3_; have KP := n4_; have BK2 := n5_; have HS := n6_; clear n0_ n1_ n2_ n3_ n4_ n5_ n6_
      clear hs_ hk_ hB_
      refine hK.out _ _ ?_
      clear hK K
      refine done_ (by kernel_rfl) ?_
      go_wp2
      have e12_ : wrap64 ((n : Int) + 1) = ((n + 1 : Nat) : Int) := w_succ (by have q1 := HNL.out; have q2 := HK3.out; omega)
      go_roundw
      case rel =>
        refine ⟨n + 1, congrArg (Value.int .i64) e12_, HNL.out, xo.2, acc ++ [xo.1], _, ⟨?_⟩, ⟨?_⟩, ⟨by rw [List.length_append, List.length_singleton]; have q1 := HAL.out; omega⟩, HS, BK4, BK2, BKW, RD, HB, KP⟩
        · have q1 := HKS.out
          rw [show K - n = (K - (n + 1)) + 1 by have q2 := HNL.out; omega] at q1
          rw [kidsG, HXO.out] at q1
          exact q1
        · have q1 := exP_le all d o HOO.out.2
          rw [HXO.out] at q1
          have q2 := HOO.out
          exact ⟨by omega, q1.2⟩
      case measure => exact measure_lt K n _ e12_ HNL.out
end Go.Proofs.YtbcdfbiggjfmlaaDoor.M
namespace Go.Proofs.YtbcdfbiggjfmlaaDoor.M
set_option linter.unusedVariables false
set_option linter.unusedSimpArgs false
open Go Go.RowKit Go.Proofs.YtbcdfbiggjfmlaaDoorW.PrintWords Go.Proofs.YtbcdfbiggjfmlaaDoorW.PrintLast

theorem iface_of {H : Type} {P : Program} {enc : TypeId × Value → H} {w : World} {base : Nat} {spare : Nat → Bool} {held : Bool} {fuel : Nat} {t : TypeId} {cs : List Value} {x : DataW H × List MemPlace} {ms : Array (String × TypeId)} (ht : P.underlying t = some (.interface ms)) (h : DataW.trod enc P w base spare held fuel t cs = some x) : cs = [.nilIface] ∨ ∃ u v, cs = [.iface u v] := by
  cases fuel with
  | zero => simp [DataW.trod] at h
  | succ n =>
    unfold DataW.trod at h
    rw [ht] at h
    split at h <;> simp_all
theorem err_of {W : World} {n : String} {d : DataW Unit} {g : Nat} (h : laidMetH Tryd.prog [(n, d)] W) (hd : ([(n, d)].all fun x => x.2.handleName?.isNone) = true) (hg : Tryd.prog.globalNamed n = some g) (ht : (Tryd.prog.globals[g]?).map (·.type) = some 91) : ErrAt W g := by
  rw [MakeChecks.laidMetH_plain _ _ _ hd] at h
  obtain ⟨ps, ⟨g', t, cs, fuel, p, q, hg', ht', hv, hd', _, _⟩, _, _⟩ := h
  obtain rfl := Option.some.inj (hg.symm.trans hg')
  obtain rfl := Option.some.inj (ht.symm.trans ht')
  have hc := World.var?_cell hg' hv 0
  have key : ∀ u, cs.toList = [u] → W.cell? ⟨g, 0, none⟩ = some u := by
    intro u hu
    rw [Array.eq_one_of_toList hu] at hc
    simpa using hc
  rcases iface_of Tryd.underlying91 hd' with e | ⟨u, v, e⟩
  · exact ⟨_, key _ e, .inl rfl⟩
  · exact ⟨_, key _ e, .inr ⟨u, v, rfl⟩⟩
theorem TabR_of_laid {W : World} {l : List (String × DataW Unit)} (h : laidMetH Tryd.prog l W) (hs : W.ShapedOpen Tryd.prog) (h1 : (l.filter fun x => x.1 == "strconv.ErrSyntax") = [("strconv.ErrSyntax", Rows.laid_strconv_ErrSyntax)]) (h2 : (l.filter fun x => x.1 == "strconv.ErrRange") = [("strconv.ErrRange", Rows.laid_strconv_ErrRange)]) : TabR W := by
  have e1 := h.filter (fun x => x.1 == "strconv.ErrSyntax")
  have e2 := h.filter (fun x => x.1 == "strconv.ErrRange")
  rw [h1] at e1
  rw [h2] at e2
  exact ⟨err_of e1 (by kernel_rfl) (by kernel_rfl) (by kernel_rfl), err_of e2 (by kernel_rfl) (by kernel_rfl) (by kernel_rfl),
    Go.Proofs.cell_of_shapedOpen_int (zero := #[.int .i64 0]) (t := 3) hs (of_decide_eq_true (by kernel_rfl)) (by kernel_rfl) rfl (by kernel_rfl) (by kernel_rfl) Tryd.underlying3⟩
theorem lift_listed {H : Type} {enc : TypeId × Value → H} {C : Checked} {os : Os} {f : FuncId} {fn : Func} {s : ChangeSpec} {conds : List PathCond} {ap fr ho ag : Bool} {l : List (String × DataW Unit)} (own : ownKnob C.prog.godebug = none) (started : os.Started) (noInit : C.prog.inits.idxOf? f = none) (hfn : C.prog.funcs[f]? = some fn)
    (wit : ∃ (w : World) (tape : Tape) (i : Input), w.os = os ∧ (w.forCall tape i).Shaped C.prog ∧ i.vars = [] ∧ Input.okWide C.prog (w.forCall tape i) .any w.heap.size f i ∧ ((s.pre enc C.prog fn conds ap (w.forCall tape i).memory i.args ∧ laidMetH C.prog l (w.forCall tape i).memory) ∧ sizedMet enc C.prog fn (OpenSpec.ofChange s) ap (w.forCall tape i).memory i.args) ∧ ({} : Assume).holds C.prog (lone (Frame.enter C.prog f i.args .normal) [] (w.forCall tape i)))
    (con : ∀ (W : World) (base : Nat) (args : Array Value) (ds gs : List (DataW H)) (bef : List MemPlace), (∀ (j : Nat) t v, fn.params[j]? = some t → args[j]? = some v → Value.okWide C.prog W .any base t v) → DataW.Whole enc C.prog fn.params.toList s.vars ap W args.toList ds gs bef → conds.all (PathCond.test C.prog ⟨fn.params.toList, ds, s.plain.varTypes C.prog, gs⟩) = true → (DataW.weightsEach C.prog (fn.params.toList ++ s.plain.varTypes C.prog) (ds ++ gs)).all (· ≤ reachBytes) = true → laidMetH C.prog l W → W.ShapedOpen C.prog →
      Calls C.prog f args W fun e W' => ∃ v, e = .returned v ∧ s.post enc C.prog fn ap fr ho ag W args v W') :
    ReturnsInHanded {} C os f .any (fun w args => (s.pre enc C.prog fn conds ap w args ∧ laidMetH C.prog l w) ∧ sizedMet enc C.prog fn (OpenSpec.ofChange s) ap w args) (s.post enc C.prog fn ap fr ho ag) := by
  refine returnsInHanded_of_calls own started noInit wit (fun w tape i _ hsh _ hok hpre _ => ?_)
  obtain ⟨_, _, _, g, hg, _, _, _, _, hval⟩ := hok
  obtain rfl : g = fn := Option.some.inj (hg.symm.trans hfn)
  obtain ⟨⟨⟨ds, gs, bef, hw, hc⟩, hx⟩, hz⟩ := hpre
  have hl : laidMetH C.prog l (w.forCall tape i) := laidMetH.of_heap (by rfl) hx
  refine (con (w.forCall tape i) w.heap.size i.args ds gs bef hval (DataW.Whole.of_heap (w' := w.forCall tape i) (by rfl) hw) hc (hz.weights hw) hl hsh).mono ?_
  rintro e W' ⟨v, rfl, hp⟩
  exact ChangeSpec.post_blind hp
end Go.Proofs.YtbcdfbiggjfmlaaDoor.M
namespace Go.Proofs.YtbcdfbiggjfmlaaDoor.Opening
set_option linter.unusedVariables false
set_option linter.unusedSimpArgs false
open Go.ChangeShapes Go.WideShapes Go.RowKit Go.Proofs.YtbcdfbiggjfmlaaDoorW.PrintWords

def OpensAt {α : Type} (P : Program) (n : Nat) (t : TypeId) (d : Kd α) (good : α → Prop) : Prop :=
  P.cellsOf t = d.sz ∧ ∀ (H : Type) (enc : TypeId × Value → H) (w : World) (base : Nat) (spare : Nat → Bool) (held : Bool) (fuel : Nat) (cs : List Value) (x : DataW H × List MemPlace),
    fuel ≤ n → DataW.trod enc P w base spare held fuel t cs = some x → ∃ y, d.K w y cs ∧ good y

theorem OpensAt.iso {α β : Type} {P : Program} {n : Nat} {t : TypeId} {d : Kd α} {good : α → Prop} (f : β → α) (g : α → β) (hfg : ∀ y, f (g y) = y) (h : OpensAt P n t d good) : OpensAt P n t (Kd.iso d f) (fun x => good (f x)) :=
  ⟨h.1, fun H enc w base spare held fuel cs x hf hx => by
    obtain ⟨y, hy, hgy⟩ := h.2 H enc w base spare held fuel cs x hf hx
    refine ⟨g y, ?_, ?_⟩
    · show d.K w (f (g y)) cs
      rw [hfg]; exact hy
    · show good (f (g y))
      rw [hfg]; exact hgy⟩

end Go.Proofs.YtbcdfbiggjfmlaaDoor.Opening
namespace Go.Proofs.YtbcdfbiggjfmlaaDoor.M
open Go.RowKit Go.Proofs.YtbcdfbiggjfmlaaDoorW.PrintWords Go.Proofs.YtbcdfbiggjfmlaaDoorW.PrintLast Go.Proofs.YtbcdfbiggjfmlaaDoorW.PrintMore
attribute [local go_sem] max2_int min2_int max_two min_two max_three min_three max_four min_four
set_option linter.unusedVariables false
set_option linter.unusedSimpArgs false

end Go.Proofs.YtbcdfbiggjfmlaaDoor.M
namespace Go.Proofs.YtbcdfbiggjfmlaaDoor.M
open Go.RowKit Go.Proofs.YtbcdfbiggjfmlaaDoorW.PrintWords Go.Proofs.YtbcdfbiggjfmlaaDoor.Opening

end Go.Proofs.YtbcdfbiggjfmlaaDoor.M
namespace Go.Proofs.YtbcdfbiggjfmlaaDoor.M
open Go.RowKit Go.Proofs.YtbcdfbiggjfmlaaDoorW.PrintWords Go.Proofs.YtbcdfbiggjfmlaaDoorW.PrintLast Go.Proofs.YtbcdfbiggjfmlaaDoorW.PrintMore
attribute [local go_sem] max2_int min2_int max_two min_two max_three min_three max_four min_four
set_option linter.unusedVariables false
set_option linter.unusedSimpArgs false

mutual
def laws_eqExS.l0 : Nat → List (S29) → List (S29) → Int → Option (Bool)
 | 0, _, _, _ => none
 | k + 1, x0, x1, x5 => if x5 < (x0.length : Int) then (if 0 ≤ x5 then (if x5 < (x1.length : Int) then ((laws_eqEx.f k ((rd_T29 x0 x5).f0) ((rd_T29 x0 x5).f1) ((rd_T29 x0 x5).f2) ((rd_T29 x0 x5).f3) ((rd_T29 x1 x5).f0) ((rd_T29 x1 x5).f1) ((rd_T29 x1 x5).f2) ((rd_T29 x1 x5).f3)).bind fun t103 => (if t103 = true then (laws_eqExS.l0 k x0 x1 (wrap64 (x5 + 1))) else (some false))) else (none)) else (none)) else (some true)
def laws_eqExS.f : Nat → List (S29) → List (S29) → Option (Bool)
 | 0, _, _ => none
 | k + 1, l0, l1 => if (l0.length : Int) = (l1.length : Int) then (laws_eqExS.l0 k l0 l1 0) else (some false)
def laws_eqEx.f : Nat → Int → Int → Int → List (S29) → Int → Int → Int → List (S29) → Option (Bool)
 | 0, _, _, _, _, _, _, _, _ => none
 | k + 1, a0_0, a0_1, a0_2, l0_3, a1_0, a1_1, a1_2, l1_3 => if a0_0 = a1_0 then (if a0_1 = a1_1 then (if a0_2 = a1_2 then ((laws_eqExS.f k l0_3 l1_3).bind fun t106 => (if t106 = true then (some true) else (some false))) else (some false)) else (some false)) else (some false)
end
def laws_eqExS.T6 : Bool × List (List Nat × List Nat) := (true, [([], []), ([], []), ([0, 1], [0, 1]), ([2], [2]), ([], []), ([], []), ([4, 5], [4, 5]), ([6], [6]), ([3, 7], [3, 7]), ([8], [8])])
def laws_eqExS.B6 : List Nat := [0, 0, 3, 7, 0, 0, 48, 112, 255, 511]
theorem laws_eqExS.tab6 : rtab .any (opsOf Tryd.f31 6) = laws_eqExS.T6 := by kernel_rfl
theorem laws_eqExS.bits6 : waitsOk laws_eqExS.T6.2 laws_eqExS.B6 = true := by kernel_rfl
set_option maxHeartbeats 8000000 in
set_option maxRecDepth 100000 in
theorem laws_eqExS.calls_step (k : Nat) (ih_31 : ∀ k_, k_ < k → ∀ (A0 : Option Addr) (c0 : Nat) (l0 : List (S29)) (A1 : Option Addr) (c1 : Nat) (l1 : List (S29)) (r : Bool) (w : World) (hr0 : Kd.C k29 w A0 l0.length l0) (hc0 : l0.length ≤ c0) (hr1 : Kd.C k29 w A1 l1.length l1) (hc1 : l1.length ≤ c1) (h : laws_eqExS.f k_ l0 l1 = some r),
  Calls Tryd.prog 31 #[.slice A0 l0.length c0, .slice A1 l1.length c1] w fun e w' => e = .returned (.bool r) ∧ Below w.heap.size w w') (ih_12 : ∀ k_, k_ < k → ∀ (a0_0 : Int) (a0_1 : Int) (a0_2 : Int) (A0_3 : Option Addr) (c0_3 : Nat) (l0_3 : List (S29)) (a1_0 : Int) (a1_1 : Int) (a1_2 : Int) (A1_3 : Option Addr) (c1_3 : Nat) (l1_3 : List (S29)) (r : Bool) (w : World) (hr0_3 : Kd.C k29 w A0_3 l0_3.length l0_3) (hc0_3 : l0_3.length ≤ c0_3) (hr1_3 : Kd.C k29 w A1_3 l1_3.length l1_3) (hc1_3 : l1_3.length ≤ c1_3) (h : laws_eqEx.f k_ a0_0 a0_1 a0_2 l0_3 a1_0 a1_1 a1_2 l1_3 = some r),
  Calls Tryd.prog 12 #[.agg #[.int .i64 a0_0, .int .i64 a0_1, .int .i64 a0_2, .slice A0_3 l0_3.length c0_3], .agg #[.int .i64 a1_0, .int .i64 a1_1, .int .i64 a1_2, .slice A1_3 l1_3.length c1_3]] w fun e w' => e = .returned (.bool r) ∧ Below w.heap.size w w') : ∀ (A0 : Option Addr) (c0 : Nat) (l0 : List (S29)) (A1 : Option Addr) (c1 : Nat) (l1 : List (S29)) (r : Bool) (w : World) (hr0 : Kd.C k29 w A0 l0.length l0) (hc0 : l0.length ≤ c0) (hr1 : Kd.C k29 w A1 l1.length l1) (hc1 : l1.length ≤ c1) (h : laws_eqExS.f k l0 l1 = some r),
  Calls Tryd.prog 31 #[.slice A0 l0.length c0, .slice A1 l1.length c1] w fun e w' => e = .returned (.bool r) ∧ Below w.heap.size w w' := by
 intro A0 c0 l0 A1 c1 l1 r w hr0 hc0 hr1 hc1 h
 cases k with
 | zero => exact absurd h (by simp [laws_eqExS.f])
 | succ k =>
 simp only [laws_eqExS.f] at h
 have hu29 := Tryd.underlying29
 have HR0 := m0_ hr0
 have HC0 := m0_ hc0
 clear hr0 hc0
 have HR1 := m0_ hr1
 have HC1 := m0_ hc1
 clear hr1 hc1
 have HB := m0_ (Below.refl w.heap.size w)
 have H : (if (l0.length : Int) = (l1.length : Int) then (laws_eqExS.l0 k l0 l1 0) else (some false)) = some r := h
 clear h
 by_cases c3 : (l0.length : Int) = (l1.length : Int)
 rotate_left
 ·rw [if_neg c3] at H
  have c3b0 : ((l0.length : Int) == (l1.length : Int)) = false := beq_eq_false_iff_ne.mpr c3
  have c3b1 : ((l0.length : Int) != (l1.length : Int)) = true := bne_iff_ne.mpr c3
  have c3b2 : (l0.length == l1.length) = false := by first | simpa using c3 | (simp at c3 ⊢;omega)
  obtain rfl := Option.some.inj H
  go_enter Tryd.func31, Tryd.ntmps31
  go_wp2
  go_ret
  exact ⟨by first | rfl | (simp [errW_none, errW_some] <;> rfl) | (simp [*, errW_none, errW_some] <;> rfl), by repeat (first | (with_reducible first | exact HB.out | apply below_alloc | apply pw_below_drewN | apply below_drew1) | exact HB.out)⟩
 rw [if_pos c3] at H
 have c3b0 : ((l0.length : Int) == (l1.length : Int)) = true := beq_iff_eq.mpr c3
 have c3b1 : ((l0.length : Int) != (l1.length : Int)) = false := bne_eq_false_iff_eq.mpr c3
 have c3b2 : (l0.length == l1.length) = true := by first | simpa using c3 | (simp at c3 ⊢;omega)
 clear c3
 have H' := m0_ H
 clear H
 go_enter Tryd.func31, Tryd.ntmps31
 go_wp2
 go_loopg [5] k (fun kq v5 w' => ∃ (x5_1 : Int), v5 = .int .i64 x5_1 ∧ Aside0 (laws_eqExS.l0 kq l0 l1 x5_1 = some r) ∧ Aside0 (kq ≤ k) ∧ Aside0 (Below w.heap.size w w'))
 case atStart => exact ⟨(0), (by first | rfl | (simp;done) | (simp [*];done)), H', ⟨Nat.le_refl _⟩, ⟨by repeat (first | (with_reducible first | exact HB.out | apply below_alloc | apply pw_below_drewN | apply below_drew1) | exact HB.out)⟩⟩
 case round =>
  clear H'
  try clear c1
  try clear p2
  try clear c3
  try clear c3b0
  try clear c3b1
  try clear c3b2
  obtain ⟨x5_1, rfl, HA, HK1, HB⟩ := hrel
  cases gk with
  | zero => exact absurd HA.out (by simp [laws_eqExS.l0])
  | succ k1 =>
   have H := HA.out
   clear HA
   simp only [laws_eqExS.l0] at H
   by_cases c4 : x5_1 < (l0.length : Int)
   rotate_left
   ·rw [if_neg c4] at H
    have c4b0 : decide (x5_1 < (l0.length : Int)) = false := decide_eq_false c4
    clear c4
    obtain rfl := Option.some.inj H
    go_wp2
    go_ret
    exact ⟨by first | rfl | (simp [errW_none, errW_some] <;> rfl) | (simp [*, errW_none, errW_some] <;> rfl), by repeat (first | (with_reducible first | exact HB.out | apply below_alloc | apply pw_below_drewN | apply below_drew1) | exact HB.out)⟩
   rw [if_pos c4] at H
   have c4b0 : decide (x5_1 < (l0.length : Int)) = true := decide_eq_true c4
   clear c4
   by_cases c5 : 0 ≤ x5_1
   rotate_left
   ·rw [if_neg c5] at H
    exact absurd H (by simp)
   rw [if_pos c5] at H
   have c5b0 : decide (0 ≤ x5_1) = true := decide_eq_true c5
   clear c5
   by_cases c6 : x5_1 < (l1.length : Int)
   rotate_left
   ·rw [if_neg c6] at H
    exact absurd H (by simp)
   rw [if_pos c6] at H
   have c6b0 : decide (x5_1 < (l1.length : Int)) = true := decide_eq_true c6
   clear c6
   replace H := Option.bind_eq_some_iff.mp H
   obtain ⟨t103, A70, H⟩ := H
   replace H : (if t103 = true then (laws_eqExS.l0 k1 l0 l1 (wrap64 (x5_1 + 1))) else (some false)) = some r := H
   have A7 := m0_ A70
   clear A70
   by_cases c8 : t103 = true
   rotate_left
   ·replace c8 := Bool.eq_false_iff.mpr c8
    subst c8
    have H1 : (some false) = some r := by rw [if_neg (show ¬ (false = true) by decide)] at H;exact H
    clear H
    have H := H1
    clear H1
    obtain rfl := Option.some.inj H
    try go_wp2
    replace HB := m0_ (below_drew1 HB.out)
    have p101 : 0 ≤ (x5_1 : Int) := of_decide_eq_true (by first | (with_reducible assumption) | assumption)
    have q101 : x5_1 < (l0.length : Int) := of_decide_eq_true (by first | (with_reducible assumption) | assumption)
    obtain ⟨ad101, A101_3, c101_3, e101, hx101_0, hx101_1, hx101_2, hx101_3, hl101_3, hi101_3⟩ := at_T29 HR0.out x5_1 p101 q101
    have hw101_3 := hx101_3
    have hw101_2 := hx101_2
    have hw101_1 := hx101_1
    have hw101_0 := hx101_0
    cases e101
    replace hx101_0 := (HB.out.cell (World.block_lt_of_cell? w _ hx101_0)).trans hx101_0
    replace hx101_1 := (HB.out.cell (World.block_lt_of_cell? w _ hx101_1)).trans hx101_1
    replace hx101_2 := (HB.out.cell (World.block_lt_of_cell? w _ hx101_2)).trans hx101_2
    replace hx101_3 := (HB.out.cell (World.block_lt_of_cell? w _ hx101_3)).trans hx101_3
    have HR101_3 := m0_ hi101_3
    have HC101_3 := m0_ hl101_3
    clear hi101_3 hl101_3
    replace p101 := eq_true p101
    replace q101 := eq_true q101
    have p102 : 0 ≤ (x5_1 : Int) := of_decide_eq_true (by first | (with_reducible assumption) | assumption)
    have q102 : x5_1 < (l1.length : Int) := of_decide_eq_true (by first | (with_reducible assumption) | assumption)
    obtain ⟨ad102, A102_3, c102_3, e102, hx102_0, hx102_1, hx102_2, hx102_3, hl102_3, hi102_3⟩ := at_T29 HR1.out x5_1 p102 q102
    have hw102_3 := hx102_3
    have hw102_2 := hx102_2
    have hw102_1 := hx102_1
    have hw102_0 := hx102_0
    cases e102
    replace hx102_0 := (HB.out.cell (World.block_lt_of_cell? w _ hx102_0)).trans hx102_0
    replace hx102_1 := (HB.out.cell (World.block_lt_of_cell? w _ hx102_1)).trans hx102_1
    replace hx102_2 := (HB.out.cell (World.block_lt_of_cell? w _ hx102_2)).trans hx102_2
    replace hx102_3 := (HB.out.cell (World.block_lt_of_cell? w _ hx102_3)).trans hx102_3
    have HR102_3 := m0_ hi102_3
    have HC102_3 := m0_ hl102_3
    clear hi102_3 hl102_3
    replace p102 := eq_true p102
    replace q102 := eq_true q102
    refine start_ (n := 10) (S := fun w' => w'.cell? (ad101.add ((x5_1).toNat * 4)) = some (.int .i64 ((rd_T29 l0 x5_1).f0)) ∧ w'.cell? ⟨(ad101.add ((x5_1).toNat * 4)).block, (ad101.add ((x5_1).toNat * 4)).off + 1, none⟩ = some (.int .i64 ((rd_T29 l0 x5_1).f1)) ∧ w'.cell? ⟨(ad101.add ((x5_1).toNat * 4)).block, (ad101.add ((x5_1).toNat * 4)).off + 2, none⟩ = some (.int .i64 ((rd_T29 l0 x5_1).f2)) ∧ w'.cell? ⟨(ad101.add ((x5_1).toNat * 4)).block, (ad101.add ((x5_1).toNat * 4)).off + 3, none⟩ = some (.slice A101_3 ((rd_T29 l0 x5_1).f3).length c101_3) ∧ w'.cell? (ad102.add ((x5_1).toNat * 4)) = some (.int .i64 ((rd_T29 l1 x5_1).f0)) ∧ w'.cell? ⟨(ad102.add ((x5_1).toNat * 4)).block, (ad102.add ((x5_1).toNat * 4)).off + 1, none⟩ = some (.int .i64 ((rd_T29 l1 x5_1).f1)) ∧ w'.cell? ⟨(ad102.add ((x5_1).toNat * 4)).block, (ad102.add ((x5_1).toNat * 4)).off + 2, none⟩ = some (.int .i64 ((rd_T29 l1 x5_1).f2)) ∧ w'.cell? ⟨(ad102.add ((x5_1).toNat * 4)).block, (ad102.add ((x5_1).toNat * 4)).off + 3, none⟩ = some (.slice A102_3 ((rd_T29 l1 x5_1).f3).length c102_3)) (ds := []) #[false, false, false, false, false, false, false, false, false, false] (by kernel_rfl) rfl rfl ⟨((HB.out.cell (World.block_lt_of_cell? w _ hw101_0)).trans hw101_0), ((HB.out.cell (World.block_lt_of_cell? w _ hw101_1)).trans hw101_1), ((HB.out.cell (World.block_lt_of_cell? w _ hw101_2)).trans hw101_2), ((HB.out.cell (World.block_lt_of_cell? w _ hw101_3)).trans hw101_3), ((HB.out.cell (World.block_lt_of_cell? w _ hw102_0)).trans hw102_0), ((HB.out.cell (World.block_lt_of_cell? w _ hw102_1)).trans hw102_1), ((HB.out.cell (World.block_lt_of_cell? w _ hw102_2)).trans hw102_2), ((HB.out.cell (World.block_lt_of_cell? w _ hw102_3)).trans hw102_3)⟩ (fun hHeld => ?_);refine with_tabW laws_eqExS.tab6 laws_eqExS.bits6 (fun HT_ HW_ => ?_)
    generalize wr.drew = w11 at HB HR101_3 HR102_3 hx101_0 hx101_1 hx101_2 hx101_3 hx102_0 hx102_1 hx102_2 hx102_3 hHeld ⊢
    refine pv_ 0 17 #[true, false, false, false, false, false, false, false, false, false] (any_of HT_.out (by kernel_rfl)) ?_
    refine pv_ 1 18 #[true, true, false, false, false, false, false, false, false, false] (any_of HT_.out (by kernel_rfl)) ?_
    refine pv_ 2 19 #[true, true, true, false, false, false, false, false, false, false] (any_of HT_.out (by kernel_rfl)) ?_
    refine pv_ 4 21 #[true, true, true, false, true, false, false, false, false, false] (any_of HT_.out (by kernel_rfl)) ?_
    refine pv_ 5 22 #[true, true, true, false, true, true, false, false, false, false] (any_of HT_.out (by kernel_rfl)) ?_
    refine pv_ 6 23 #[true, true, true, false, true, true, true, false, false, false] (any_of HT_.out (by kernel_rfl)) ?_
    refine take_ (i := 3) (N := some 20) (v := ?_) (a' := ?_) #[true, true, true, true, true, true, true, false, false, false] rfl rfl (take_ofW HT_.out HW_.out (by kernel_rfl)) (fun _ _ _ h => h) (Or.inl ⟨by rfl, ?_⟩) hHeld ?_ ?_
    rotate_left
    ·rintro w' ⟨s0, s1, s2, s3, s4, s5, s6, s7⟩
     go_simp
     with_reducible rfl
    rotate_left
    ·simp only [Act.put, List.setIfInBounds_toArray, List.set_cons_zero, List.set_cons_succ, i64_w, i32_w]
     rfl
    refine take_ (i := 7) (N := some 24) (v := ?_) (a' := ?_) #[true, true, true, true, true, true, true, true, false, false] rfl rfl (take_ofW HT_.out HW_.out (by kernel_rfl)) (fun _ _ _ h => h) (Or.inl ⟨by rfl, ?_⟩) hHeld ?_ ?_
    rotate_left
    ·rintro w' ⟨s0, s1, s2, s3, s4, s5, s6, s7⟩
     go_simp
     with_reducible rfl
    rotate_left
    ·simp only [Act.put, List.setIfInBounds_toArray, List.set_cons_zero, List.set_cons_succ, i64_w, i32_w]
     rfl
    refine one_ (i := 8) (N := some 25) #[true, true, true, true, true, true, true, true, true, false] rfl rfl (one_of HT_.out (by kernel_rfl)) (by decide) (fun K hK => ?_)
    refine goes_ Tryd.func12 (by kernel_rfl) rfl #[.agg #[.int .i64 ((rd_T29 l0 x5_1).f0), .int .i64 ((rd_T29 l0 x5_1).f1), .int .i64 ((rd_T29 l0 x5_1).f2), .slice A101_3 ((rd_T29 l0 x5_1).f3).length c101_3], .agg #[.int .i64 ((rd_T29 l1 x5_1).f0), .int .i64 ((rd_T29 l1 x5_1).f1), .int .i64 ((rd_T29 l1 x5_1).f2), .slice A102_3 ((rd_T29 l1 x5_1).f3).length c102_3]] (by rfl) rfl rfl (by (try simp only [List.map_toArray, List.map_cons, List.map_nil]);first | done | rfl | (simp only [List.length_drop, List.length_take];rfl)) ?_
    with_reducible refine (ih_12 k1 (by have := HK1.out;omega) ((rd_T29 l0 x5_1).f0) ((rd_T29 l0 x5_1).f1) ((rd_T29 l0 x5_1).f2) _ _ ((rd_T29 l0 x5_1).f3) ((rd_T29 l1 x5_1).f0) ((rd_T29 l1 x5_1).f1) ((rd_T29 l1 x5_1).f2) _ _ ((rd_T29 l1 x5_1).f3) false _ ?side1 ?side2 ?side3 ?side4 A7.out).mono ?_
    (case side1 => repeat (first | exact (Kd.C_below HR101_3.out HB.out) | (with_reducible refine Kd.C_alloc ?_ _) | (with_reducible refine Kd.C_drewN ?_ _) | (with_reducible refine Kd.C_drew ?_)))
    (case side2 => exact HC101_3.out)
    (case side3 => repeat (first | exact (Kd.C_below HR102_3.out HB.out) | (with_reducible refine Kd.C_alloc ?_ _) | (with_reducible refine Kd.C_drewN ?_ _) | (with_reducible refine Kd.C_drew ?_)))
    (case side4 => exact HC102_3.out)
    rintro e w12 ⟨rfl, hb⟩
    refine ⟨_, rfl, ?_⟩
    replace HB := m0_ (below_step (by exact HB.out) hb)
    (try clear hb)
    (try clear hb2)
    (try clear hk)
    (try clear hi)
    refine hK.out _ _ ⟨((HB.out.cell (World.block_lt_of_cell? w _ hw101_0)).trans hw101_0), ((HB.out.cell (World.block_lt_of_cell? w _ hw101_1)).trans hw101_1), ((HB.out.cell (World.block_lt_of_cell? w _ hw101_2)).trans hw101_2), ((HB.out.cell (World.block_lt_of_cell? w _ hw101_3)).trans hw101_3), ((HB.out.cell (World.block_lt_of_cell? w _ hw102_0)).trans hw102_0), ((HB.out.cell (World.block_lt_of_cell? w _ hw102_1)).trans hw102_1), ((HB.out.cell (World.block_lt_of_cell? w _ hw102_2)).trans hw102_2), ((HB.out.cell (World.block_lt_of_cell? w _ hw102_3)).trans hw102_3)⟩ (fun hHeld => ?_)
    clear hK K
    refine norm_ (a' := ?_) ?_ ?_
    rotate_left
    ·show Act.put _ (some 25) _ = _
     simp only [Act.put, List.setIfInBounds_toArray, List.set_cons_zero, List.set_cons_succ, i64_w, i32_w]
     rfl
    refine pv_ 9 26 #[true, true, true, true, true, true, true, true, true, true] (any_of HT_.out (by kernel_rfl)) ?_
    refine done_ (done_of HT_.out (by kernel_rfl)) ?_
    try go_wp2
    go_ret
    exact ⟨by first | rfl | (simp [errW_none, errW_some] <;> rfl) | (simp [*, errW_none, errW_some] <;> rfl), by repeat (first | (with_reducible first | exact HB.out | apply below_alloc | apply pw_below_drewN | apply below_drew1) | exact HB.out)⟩
   subst c8
   have H1 : (laws_eqExS.l0 k1 l0 l1 (wrap64 (x5_1 + 1))) = some r := by rw [if_pos rfl] at H;exact H
   clear H
   have H := H1
   clear H1
   have H' := m0_ H
   clear H
   try go_wp2
   replace HB := m0_ (below_drew1 HB.out)
   have p101 : 0 ≤ (x5_1 : Int) := of_decide_eq_true (by first | (with_reducible assumption) | assumption)
   have q101 : x5_1 < (l0.length : Int) := of_decide_eq_true (by first | (with_reducible assumption) | assumption)
   obtain ⟨ad101, A101_3, c101_3, e101, hx101_0, hx101_1, hx101_2, hx101_3, hl101_3, hi101_3⟩ := at_T29 HR0.out x5_1 p101 q101
   have hw101_3 := hx101_3
   have hw101_2 := hx101_2
   have hw101_1 := hx101_1
   have hw101_0 := hx101_0
   cases e101
   replace hx101_0 := (HB.out.cell (World.block_lt_of_cell? w _ hx101_0)).trans hx101_0
   replace hx101_1 := (HB.out.cell (World.block_lt_of_cell? w _ hx101_1)).trans hx101_1
   replace hx101_2 := (HB.out.cell (World.block_lt_of_cell? w _ hx101_2)).trans hx101_2
   replace hx101_3 := (HB.out.cell (World.block_lt_of_cell? w _ hx101_3)).trans hx101_3
   have HR101_3 := m0_ hi101_3
   have HC101_3 := m0_ hl101_3
   clear hi101_3 hl101_3
   replace p101 := eq_true p101
   replace q101 := eq_true q101
   have p102 : 0 ≤ (x5_1 : Int) := of_decide_eq_true (by first | (with_reducible assumption) | assumption)
   have q102 : x5_1 < (l1.length : Int) := of_decide_eq_true (by first | (with_reducible assumption) | assumption)
   obtain ⟨ad102, A102_3, c102_3, e102, hx102_0, hx102_1, hx102_2, hx102_3, hl102_3, hi102_3⟩ := at_T29 HR1.out x5_1 p102 q102
   have hw102_3 := hx102_3
   have hw102_2 := hx102_2
   have hw102_1 := hx102_1
   have hw102_0 := hx102_0
   cases e102
   replace hx102_0 := (HB.out.cell (World.block_lt_of_cell? w _ hx102_0)).trans hx102_0
   replace hx102_1 := (HB.out.cell (World.block_lt_of_cell? w _ hx102_1)).trans hx102_1
   replace hx102_2 := (HB.out.cell (World.block_lt_of_cell? w _ hx102_2)).trans hx102_2
   replace hx102_3 := (HB.out.cell (World.block_lt_of_cell? w _ hx102_3)).trans hx102_3
   have HR102_3 := m0_ hi102_3
   have HC102_3 := m0_ hl102_3
   clear hi102_3 hl102_3
   replace p102 := eq_true p102
   replace q102 := eq_true q102
   refine start_ (n := 10) (S := fun w' => w'.cell? (ad101.add ((x5_1).toNat * 4)) = some (.int .i64 ((rd_T29 l0 x5_1).f0)) ∧ w'.cell? ⟨(ad101.add ((x5_1).toNat * 4)).block, (ad101.add ((x5_1).toNat * 4)).off + 1, none⟩ = some (.int .i64 ((rd_T29 l0 x5_1).f1)) ∧ w'.cell? ⟨(ad101.add ((x5_1).toNat * 4)).block, (ad101.add ((x5_1).toNat * 4)).off + 2, none⟩ = some (.int .i64 ((rd_T29 l0 x5_1).f2)) ∧ w'.cell? ⟨(ad101.add ((x5_1).toNat * 4)).block, (ad101.add ((x5_1).toNat * 4)).off + 3, none⟩ = some (.slice A101_3 ((rd_T29 l0 x5_1).f3).length c101_3) ∧ w'.cell? (ad102.add ((x5_1).toNat * 4)) = some (.int .i64 ((rd_T29 l1 x5_1).f0)) ∧ w'.cell? ⟨(ad102.add ((x5_1).toNat * 4)).block, (ad102.add ((x5_1).toNat * 4)).off + 1, none⟩ = some (.int .i64 ((rd_T29 l1 x5_1).f1)) ∧ w'.cell? ⟨(ad102.add ((x5_1).toNat * 4)).block, (ad102.add ((x5_1).toNat * 4)).off + 2, none⟩ = some (.int .i64 ((rd_T29 l1 x5_1).f2)) ∧ w'.cell? ⟨(ad102.add ((x5_1).toNat * 4)).block, (ad102.add ((x5_1).toNat * 4)).off + 3, none⟩ = some (.slice A102_3 ((rd_T29 l1 x5_1).f3).length c102_3)) (ds := []) #[false, false, false, false, false, false, false, false, false, false] (by kernel_rfl) rfl rfl ⟨((HB.out.cell (World.block_lt_of_cell? w _ hw101_0)).trans hw101_0), ((HB.out.cell (World.block_lt_of_cell? w _ hw101_1)).trans hw101_1), ((HB.out.cell (World.block_lt_of_cell? w _ hw101_2)).trans hw101_2), ((HB.out.cell (World.block_lt_of_cell? w _ hw101_3)).trans hw101_3), ((HB.out.cell (World.block_lt_of_cell? w _ hw102_0)).trans hw102_0), ((HB.out.cell (World.block_lt_of_cell? w _ hw102_1)).trans hw102_1), ((HB.out.cell (World.block_lt_of_cell? w _ hw102_2)).trans hw102_2), ((HB.out.cell (World.block_lt_of_cell? w _ hw102_3)).trans hw102_3)⟩ (fun hHeld => ?_);refine with_tabW laws_eqExS.tab6 laws_eqExS.bits6 (fun HT_ HW_ => ?_)
   generalize wr.drew = w9 at HB HR101_3 HR102_3 hx101_0 hx101_1 hx101_2 hx101_3 hx102_0 hx102_1 hx102_2 hx102_3 hHeld ⊢
   refine pv_ 0 17 #[true, false, false, false, false, false, false, false, false, false] (any_of HT_.out (by kernel_rfl)) ?_
   refine pv_ 1 18 #[true, true, false, false, false, false, false, false, false, false] (any_of HT_.out (by kernel_rfl)) ?_
   refine pv_ 2 19 #[true, true, true, false, false, false, false, false, false, false] (any_of HT_.out (by kernel_rfl)) ?_
   refine pv_ 4 21 #[true, true, true, false, true, false, false, false, false, false] (any_of HT_.out (by kernel_rfl)) ?_
   refine pv_ 5 22 #[true, true, true, false, true, true, false, false, false, false] (any_of HT_.out (by kernel_rfl)) ?_
   refine pv_ 6 23 #[true, true, true, false, true, true, true, false, false, false] (any_of HT_.out (by kernel_rfl)) ?_
   refine take_ (i := 3) (N := some 20) (v := ?_) (a' := ?_) #[true, true, true, true, true, true, true, false, false, false] rfl rfl (take_ofW HT_.out HW_.out (by kernel_rfl)) (fun _ _ _ h => h) (Or.inl ⟨by rfl, ?_⟩) hHeld ?_ ?_
   rotate_left
   ·rintro w' ⟨s0, s1, s2, s3, s4, s5, s6, s7⟩
    go_simp
    with_reducible rfl
   rotate_left
   ·simp only [Act.put, List.setIfInBounds_toArray, List.set_cons_zero, List.set_cons_succ, i64_w, i32_w]
    rfl
   refine take_ (i := 7) (N := some 24) (v := ?_) (a' := ?_) #[true, true, true, true, true, true, true, true, false, false] rfl rfl (take_ofW HT_.out HW_.out (by kernel_rfl)) (fun _ _ _ h => h) (Or.inl ⟨by rfl, ?_⟩) hHeld ?_ ?_
   rotate_left
   ·rintro w' ⟨s0, s1, s2, s3, s4, s5, s6, s7⟩
    go_simp
    with_reducible rfl
   rotate_left
   ·simp only [Act.put, List.setIfInBounds_toArray, List.set_cons_zero, List.set_cons_succ, i64_w, i32_w]
    rfl
   refine one_ (i := 8) (N := some 25) #[true, true, true, true, true, true, true, true, true, false] rfl rfl (one_of HT_.out (by kernel_rfl)) (by decide) (fun K hK => ?_)
   refine goes_ Tryd.func12 (by kernel_rfl) rfl #[.agg #[.int .i64 ((rd_T29 l0 x5_1).f0), .int .i64 ((rd_T29 l0 x5_1).f1), .int .i64 ((rd_T29 l0 x5_1).f2), .slice A101_3 ((rd_T29 l0 x5_1).f3).length c101_3], .agg #[.int .i64 ((rd_T29 l1 x5_1).f0), .int .i64 ((rd_T29 l1 x5_1).f1), .int .i64 ((rd_T29 l1 x5_1).f2), .slice A102_3 ((rd_T29 l1 x5_1).f3).length c102_3]] (by rfl) rfl rfl (by (try simp only [List.map_toArray, List.map_cons, List.map_nil]);first | done | rfl | (simp only [List.length_drop, List.length_take];rfl)) ?_
   with_reducible refine (ih_12 k1 (by have := HK1.out;omega) ((rd_T29 l0 x5_1).f0) ((rd_T29 l0 x5_1).f1) ((rd_T29 l0 x5_1).f2) _ _ ((rd_T29 l0 x5_1).f3) ((rd_T29 l1 x5_1).f0) ((rd_T29 l1 x5_1).f1) ((rd_T29 l1 x5_1).f2) _ _ ((rd_T29 l1 x5_1).f3) true _ ?side1 ?side2 ?side3 ?side4 A7.out).mono ?_
   (case side1 => repeat (first | exact (Kd.C_below HR101_3.out HB.out) | (with_reducible refine Kd.C_alloc ?_ _) | (with_reducible refine Kd.C_drewN ?_ _) | (with_reducible refine Kd.C_drew ?_)))
   (case side2 => exact HC101_3.out)
   (case side3 => repeat (first | exact (Kd.C_below HR102_3.out HB.out) | (with_reducible refine Kd.C_alloc ?_ _) | (with_reducible refine Kd.C_drewN ?_ _) | (with_reducible refine Kd.C_drew ?_)))
   (case side4 => exact HC102_3.out)
   rintro e w10 ⟨rfl, hb⟩
   refine ⟨_, rfl, ?_⟩
   replace HB := m0_ (below_step (by exact HB.out) hb)
   (try clear hb)
   (try clear hb2)
   (try clear hk)
   (try clear hi)
   refine hK.out _ _ ⟨((HB.out.cell (World.block_lt_of_cell? w _ hw101_0)).trans hw101_0), ((HB.out.cell (World.block_lt_of_cell? w _ hw101_1)).trans hw101_1), ((HB.out.cell (World.block_lt_of_cell? w _ hw101_2)).trans hw101_2), ((HB.out.cell (World.block_lt_of_cell? w _ hw101_3)).trans hw101_3), ((HB.out.cell (World.block_lt_of_cell? w _ hw102_0)).trans hw102_0), ((HB.out.cell (World.block_lt_of_cell? w _ hw102_1)).trans hw102_1), ((HB.out.cell (World.block_lt_of_cell? w _ hw102_2)).trans hw102_2), ((HB.out.cell (World.block_lt_of_cell? w _ hw102_3)).trans hw102_3)⟩ (fun hHeld => ?_)
   clear hK K
   refine norm_ (a' := ?_) ?_ ?_
   rotate_left
   ·show Act.put _ (some 25) _ = _
    simp only [Act.put, List.setIfInBounds_toArray, List.set_cons_zero, List.set_cons_succ, i64_w, i32_w]
    rfl
   refine pv_ 9 26 #[true, true, true, true, true, true, true, true, true, true] (any_of HT_.out (by kernel_rfl)) ?_
   refine done_ (done_of HT_.out (by kernel_rfl)) ?_
   try go_wp2
   go_roundg k1
   case measure => have := HK1.out;omega
   case rel => exact ⟨(wrap64 (x5_1 + 1)), (by first | rfl | (simp;done) | (simp [*];done)), H', ⟨by have := HK1.out;omega⟩, ⟨by repeat (first | (with_reducible first | exact HB.out | apply below_alloc | apply pw_below_drewN | apply below_drew1) | exact HB.out)⟩⟩


set_option maxHeartbeats 8000000 in
set_option maxRecDepth 100000 in
theorem laws_eqEx.calls_step (k : Nat) (ih_31 : ∀ k_, k_ < k → ∀ (A0 : Option Addr) (c0 : Nat) (l0 : List (S29)) (A1 : Option Addr) (c1 : Nat) (l1 : List (S29)) (r : Bool) (w : World) (hr0 : Kd.C k29 w A0 l0.length l0) (hc0 : l0.length ≤ c0) (hr1 : Kd.C k29 w A1 l1.length l1) (hc1 : l1.length ≤ c1) (h : laws_eqExS.f k_ l0 l1 = some r),
  Calls Tryd.prog 31 #[.slice A0 l0.length c0, .slice A1 l1.length c1] w fun e w' => e = .returned (.bool r) ∧ Below w.heap.size w w') (ih_12 : ∀ k_, k_ < k → ∀ (a0_0 : Int) (a0_1 : Int) (a0_2 : Int) (A0_3 : Option Addr) (c0_3 : Nat) (l0_3 : List (S29)) (a1_0 : Int) (a1_1 : Int) (a1_2 : Int) (A1_3 : Option Addr) (c1_3 : Nat) (l1_3 : List (S29)) (r : Bool) (w : World) (hr0_3 : Kd.C k29 w A0_3 l0_3.length l0_3) (hc0_3 : l0_3.length ≤ c0_3) (hr1_3 : Kd.C k29 w A1_3 l1_3.length l1_3) (hc1_3 : l1_3.length ≤ c1_3) (h : laws_eqEx.f k_ a0_0 a0_1 a0_2 l0_3 a1_0 a1_1 a1_2 l1_3 = some r),
  Calls Tryd.prog 12 #[.agg #[.int .i64 a0_0, .int .i64 a0_1, .int .i64 a0_2, .slice A0_3 l0_3.length c0_3], .agg #[.int .i64 a1_0, .int .i64 a1_1, .int .i64 a1_2, .slice A1_3 l1_3.length c1_3]] w fun e w' => e = .returned (.bool r) ∧ Below w.heap.size w w') : ∀ (a0_0 : Int) (a0_1 : Int) (a0_2 : Int) (A0_3 : Option Addr) (c0_3 : Nat) (l0_3 : List (S29)) (a1_0 : Int) (a1_1 : Int) (a1_2 : Int) (A1_3 : Option Addr) (c1_3 : Nat) (l1_3 : List (S29)) (r : Bool) (w : World) (hr0_3 : Kd.C k29 w A0_3 l0_3.length l0_3) (hc0_3 : l0_3.length ≤ c0_3) (hr1_3 : Kd.C k29 w A1_3 l1_3.length l1_3) (hc1_3 : l1_3.length ≤ c1_3) (h : laws_eqEx.f k a0_0 a0_1 a0_2 l0_3 a1_0 a1_1 a1_2 l1_3 = some r),
  Calls Tryd.prog 12 #[.agg #[.int .i64 a0_0, .int .i64 a0_1, .int .i64 a0_2, .slice A0_3 l0_3.length c0_3], .agg #[.int .i64 a1_0, .int .i64 a1_1, .int .i64 a1_2, .slice A1_3 l1_3.length c1_3]] w fun e w' => e = .returned (.bool r) ∧ Below w.heap.size w w' := by
 intro a0_0 a0_1 a0_2 A0_3 c0_3 l0_3 a1_0 a1_1 a1_2 A1_3 c1_3 l1_3 r w hr0_3 hc0_3 hr1_3 hc1_3 h
 cases k with
 | zero => exact absurd h (by simp [laws_eqEx.f])
 | succ k =>
 simp only [laws_eqEx.f] at h
 have hu29 := Tryd.underlying29
 have HR0_3 := m0_ hr0_3
 have HC0_3 := m0_ hc0_3
 clear hr0_3 hc0_3
 have HR1_3 := m0_ hr1_3
 have HC1_3 := m0_ hc1_3
 clear hr1_3 hc1_3
 have HB := m0_ (Below.refl w.heap.size w)
 have H : (if a0_0 = a1_0 then (if a0_1 = a1_1 then (if a0_2 = a1_2 then ((laws_eqExS.f k l0_3 l1_3).bind fun t106 => (if t106 = true then (some true) else (some false))) else (some false)) else (some false)) else (some false)) = some r := h
 clear h
 by_cases c3 : a0_0 = a1_0
 rotate_left
 ·rw [if_neg c3] at H
  have c3b0 : (a0_0 == a1_0) = false := beq_eq_false_iff_ne.mpr c3
  have c3b1 : (a0_0 != a1_0) = true := bne_iff_ne.mpr c3
  obtain rfl := Option.some.inj H
  go_enter Tryd.func12, Tryd.ntmps12
  go_wp2_with (first | ((with_reducible refine gate_dst (N := 2) rfl ?_);refine box_event ?hg (N := 2) ?hd (cs := #[.int .i64 a0_0, .int .i64 a0_1, .int .i64 a0_2, .slice A0_3 l0_3.length c0_3]) (t := 29) ?hr ?_;(case hd => rfl);(case hg => rfl);(case hr => first | (go_simp;done) | (go_simp;rfl));intro gb104 hg w30 hbox hb;have BK104 := m0_ (hbox);have GW104 := m0_ ((by rw [hg];exact (below_size (by exact HB.out)) : w.heap.size ≤ gb104));have GE104 := m0_ ((by rw [hg];exact (below_size (by exact HB.out)) : w.heap.size ≤ gb104));replace HB := m0_ (below_step (by exact HB.out) hb);clear hb hbox hg) | ((with_reducible refine gate_dst (N := 3) rfl ?_);refine box_event ?hg (N := 3) ?hd (cs := #[.int .i64 a1_0, .int .i64 a1_1, .int .i64 a1_2, .slice A1_3 l1_3.length c1_3]) (t := 29) ?hr ?_;(case hd => rfl);(case hg => rfl);(case hr => first | (go_simp;done) | (go_simp;rfl));intro gb105 hg w31 hbox hb;have BK105 := m0_ (hbox);have GW105 := m0_ ((by rw [hg];exact (below_size (by exact HB.out)) : w.heap.size ≤ gb105));have GE105 := m0_ ((by rw [hg];exact (below_size (by exact HB.out)) : w.heap.size ≤ gb105));replace HB := m0_ (below_step (by exact HB.out) hb);have NB104_105 := m0_ ((by rw [hg];exact Nat.ne_of_lt (blk_lt BK104.out) : gb104 ≠ gb105));have NB105_104 := m0_ ((by rw [hg];exact Nat.ne_of_gt (blk_lt BK104.out) : gb105 ≠ gb104));replace BK104 := m0_ (blk_below BK104.out hb);clear hb hbox hg;have hnb32 := NB104_105.out;have hnc32 := NB105_104.out;obtain ⟨hcz33_0, hcz33_1, hcz33_2, hcz33_3, hfz33_0, hfz33_1, hfz33_2, hfz33_3⟩ := bx4 BK104.out;obtain ⟨hcz34_0, hcz34_1, hcz34_2, hcz34_3, hfz34_0, hfz34_1, hfz34_2, hfz34_3⟩ := bx4 BK105.out))
  go_ret
  exact ⟨by first | rfl | (simp [errW_none, errW_some] <;> rfl) | (simp [*, errW_none, errW_some] <;> rfl), by repeat (first | (with_reducible first | exact HB.out | apply below_alloc | apply pw_below_drewN | apply below_drew1 | refine below_set ?_ GE104.out | refine below_set ?_ GE105.out) | exact HB.out)⟩
 rw [if_pos c3] at H
 have c3b0 : (a0_0 == a1_0) = true := beq_iff_eq.mpr c3
 have c3b1 : (a0_0 != a1_0) = false := bne_eq_false_iff_eq.mpr c3
 clear c3
 by_cases c4 : a0_1 = a1_1
 rotate_left
 ·rw [if_neg c4] at H
  have c4b0 : (a0_1 == a1_1) = false := beq_eq_false_iff_ne.mpr c4
  have c4b1 : (a0_1 != a1_1) = true := bne_iff_ne.mpr c4
  obtain rfl := Option.some.inj H
  go_enter Tryd.func12, Tryd.ntmps12
  go_wp2_with (first | ((with_reducible refine gate_dst (N := 2) rfl ?_);refine box_event ?hg (N := 2) ?hd (cs := #[.int .i64 a0_0, .int .i64 a0_1, .int .i64 a0_2, .slice A0_3 l0_3.length c0_3]) (t := 29) ?hr ?_;(case hd => rfl);(case hg => rfl);(case hr => first | (go_simp;done) | (go_simp;rfl));intro gb104 hg w25 hbox hb;have BK104 := m0_ (hbox);have GW104 := m0_ ((by rw [hg];exact (below_size (by exact HB.out)) : w.heap.size ≤ gb104));have GE104 := m0_ ((by rw [hg];exact (below_size (by exact HB.out)) : w.heap.size ≤ gb104));replace HB := m0_ (below_step (by exact HB.out) hb);clear hb hbox hg) | ((with_reducible refine gate_dst (N := 3) rfl ?_);refine box_event ?hg (N := 3) ?hd (cs := #[.int .i64 a1_0, .int .i64 a1_1, .int .i64 a1_2, .slice A1_3 l1_3.length c1_3]) (t := 29) ?hr ?_;(case hd => rfl);(case hg => rfl);(case hr => first | (go_simp;done) | (go_simp;rfl));intro gb105 hg w26 hbox hb;have BK105 := m0_ (hbox);have GW105 := m0_ ((by rw [hg];exact (below_size (by exact HB.out)) : w.heap.size ≤ gb105));have GE105 := m0_ ((by rw [hg];exact (below_size (by exact HB.out)) : w.heap.size ≤ gb105));replace HB := m0_ (below_step (by exact HB.out) hb);have NB104_105 := m0_ ((by rw [hg];exact Nat.ne_of_lt (blk_lt BK104.out) : gb104 ≠ gb105));have NB105_104 := m0_ ((by rw [hg];exact Nat.ne_of_gt (blk_lt BK104.out) : gb105 ≠ gb104));replace BK104 := m0_ (blk_below BK104.out hb);clear hb hbox hg;have hnb27 := NB104_105.out;have hnc27 := NB105_104.out;obtain ⟨hcz28_0, hcz28_1, hcz28_2, hcz28_3, hfz28_0, hfz28_1, hfz28_2, hfz28_3⟩ := bx4 BK104.out;obtain ⟨hcz29_0, hcz29_1, hcz29_2, hcz29_3, hfz29_0, hfz29_1, hfz29_2, hfz29_3⟩ := bx4 BK105.out))
  go_ret
  exact ⟨by first | rfl | (simp [errW_none, errW_some] <;> rfl) | (simp [*, errW_none, errW_some] <;> rfl), by repeat (first | (with_reducible first | exact HB.out | apply below_alloc | apply pw_below_drewN | apply below_drew1 | refine below_set ?_ GE104.out | refine below_set ?_ GE105.out) | exact HB.out)⟩
 rw [if_pos c4] at H
 have c4b0 : (a0_1 == a1_1) = true := beq_iff_eq.mpr c4
 have c4b1 : (a0_1 != a1_1) = false := bne_eq_false_iff_eq.mpr c4
 clear c4
 by_cases c5 : a0_2 = a1_2
 rotate_left
 ·rw [if_neg c5] at H
  have c5b0 : (a0_2 == a1_2) = false := beq_eq_false_iff_ne.mpr c5
  have c5b1 : (a0_2 != a1_2) = true := bne_iff_ne.mpr c5
  obtain rfl := Option.some.inj H
  go_enter Tryd.func12, Tryd.ntmps12
  go_wp2_with (first | ((with_reducible refine gate_dst (N := 2) rfl ?_);refine box_event ?hg (N := 2) ?hd (cs := #[.int .i64 a0_0, .int .i64 a0_1, .int .i64 a0_2, .slice A0_3 l0_3.length c0_3]) (t := 29) ?hr ?_;(case hd => rfl);(case hg => rfl);(case hr => first | (go_simp;done) | (go_simp;rfl));intro gb104 hg w20 hbox hb;have BK104 := m0_ (hbox);have GW104 := m0_ ((by rw [hg];exact (below_size (by exact HB.out)) : w.heap.size ≤ gb104));have GE104 := m0_ ((by rw [hg];exact (below_size (by exact HB.out)) : w.heap.size ≤ gb104));replace HB := m0_ (below_step (by exact HB.out) hb);clear hb hbox hg) | ((with_reducible refine gate_dst (N := 3) rfl ?_);refine box_event ?hg (N := 3) ?hd (cs := #[.int .i64 a1_0, .int .i64 a1_1, .int .i64 a1_2, .slice A1_3 l1_3.length c1_3]) (t := 29) ?hr ?_;(case hd => rfl);(case hg => rfl);(case hr => first | (go_simp;done) | (go_simp;rfl));intro gb105 hg w21 hbox hb;have BK105 := m0_ (hbox);have GW105 := m0_ ((by rw [hg];exact (below_size (by exact HB.out)) : w.heap.size ≤ gb105));have GE105 := m0_ ((by rw [hg];exact (below_size (by exact HB.out)) : w.heap.size ≤ gb105));replace HB := m0_ (below_step (by exact HB.out) hb);have NB104_105 := m0_ ((by rw [hg];exact Nat.ne_of_lt (blk_lt BK104.out) : gb104 ≠ gb105));have NB105_104 := m0_ ((by rw [hg];exact Nat.ne_of_gt (blk_lt BK104.out) : gb105 ≠ gb104));replace BK104 := m0_ (blk_below BK104.out hb);clear hb hbox hg;have hnb22 := NB104_105.out;have hnc22 := NB105_104.out;obtain ⟨hcz23_0, hcz23_1, hcz23_2, hcz23_3, hfz23_0, hfz23_1, hfz23_2, hfz23_3⟩ := bx4 BK104.out;obtain ⟨hcz24_0, hcz24_1, hcz24_2, hcz24_3, hfz24_0, hfz24_1, hfz24_2, hfz24_3⟩ := bx4 BK105.out))
  go_ret
  exact ⟨by first | rfl | (simp [errW_none, errW_some] <;> rfl) | (simp [*, errW_none, errW_some] <;> rfl), by repeat (first | (with_reducible first | exact HB.out | apply below_alloc | apply pw_below_drewN | apply below_drew1 | refine below_set ?_ GE104.out | refine below_set ?_ GE105.out) | exact HB.out)⟩
 rw [if_pos c5] at H
 have c5b0 : (a0_2 == a1_2) = true := beq_iff_eq.mpr c5
 have c5b1 : (a0_2 != a1_2) = false := bne_eq_false_iff_eq.mpr c5
 clear c5
 replace H := Option.bind_eq_some_iff.mp H
 obtain ⟨t106, A60, H⟩ := H
 replace H : (if t106 = true then (some true) else (some false)) = some r := H
 have A6 := m0_ A60
 clear A60
 by_cases c7 : t106 = true
 ·subst c7
  have H1 : (some true) = some r := by rw [if_pos rfl] at H;exact H
  clear H
  have H := H1
  clear H1
  obtain rfl := Option.some.inj H
  go_enter Tryd.func12, Tryd.ntmps12
  go_wp2_with (first | ((with_reducible refine gate_dst (N := 2) rfl ?_);refine box_event ?hg (N := 2) ?hd (cs := #[.int .i64 a0_0, .int .i64 a0_1, .int .i64 a0_2, .slice A0_3 l0_3.length c0_3]) (t := 29) ?hr ?_;(case hd => rfl);(case hg => rfl);(case hr => first | (go_simp;done) | (go_simp;rfl));intro gb104 hg w8 hbox hb;have BK104 := m0_ (hbox);have GW104 := m0_ ((by rw [hg];exact (below_size (by exact HB.out)) : w.heap.size ≤ gb104));have GE104 := m0_ ((by rw [hg];exact (below_size (by exact HB.out)) : w.heap.size ≤ gb104));replace HB := m0_ (below_step (by exact HB.out) hb);clear hb hbox hg) | ((with_reducible refine gate_dst (N := 3) rfl ?_);refine box_event ?hg (N := 3) ?hd (cs := #[.int .i64 a1_0, .int .i64 a1_1, .int .i64 a1_2, .slice A1_3 l1_3.length c1_3]) (t := 29) ?hr ?_;(case hd => rfl);(case hg => rfl);(case hr => first | (go_simp;done) | (go_simp;rfl));intro gb105 hg w9 hbox hb;have BK105 := m0_ (hbox);have GW105 := m0_ ((by rw [hg];exact (below_size (by exact HB.out)) : w.heap.size ≤ gb105));have GE105 := m0_ ((by rw [hg];exact (below_size (by exact HB.out)) : w.heap.size ≤ gb105));replace HB := m0_ (below_step (by exact HB.out) hb);have NB104_105 := m0_ ((by rw [hg];exact Nat.ne_of_lt (blk_lt BK104.out) : gb104 ≠ gb105));have NB105_104 := m0_ ((by rw [hg];exact Nat.ne_of_gt (blk_lt BK104.out) : gb105 ≠ gb104));replace BK104 := m0_ (blk_below BK104.out hb);clear hb hbox hg;have hnb10 := NB104_105.out;have hnc10 := NB105_104.out;obtain ⟨hcz11_0, hcz11_1, hcz11_2, hcz11_3, hfz11_0, hfz11_1, hfz11_2, hfz11_3⟩ := bx4 BK104.out;obtain ⟨hcz12_0, hcz12_1, hcz12_2, hcz12_3, hfz12_0, hfz12_1, hfz12_2, hfz12_3⟩ := bx4 BK105.out) | ((with_reducible refine gate_callee (f := 31) rfl ?_);refine goesL_ (some 24) rfl rfl Tryd.func31 (by kernel_rfl) rfl #[.slice A0_3 l0_3.length c0_3, .slice A1_3 l1_3.length c1_3] rfl (by (try simp only [List.map_toArray, List.map_cons, List.map_nil]);first | done | rfl | (simp only [List.length_drop, List.length_take];rfl)) ?_;(with_reducible refine (ih_31 k (by omega) _ _ l0_3 _ _ l1_3 true _ ?side1 ?side2 ?side3 ?side4 A6.out).mono ?_);(case side1 => repeat (first | exact (Kd.C_below HR0_3.out HB.out) | (with_reducible refine Kd.C_alloc ?_ _) | (with_reducible refine Kd.C_drewN ?_ _) | (with_reducible refine Kd.C_drew ?_)));(case side2 => exact HC0_3.out);(case side3 => repeat (first | exact (Kd.C_below HR1_3.out HB.out) | (with_reducible refine Kd.C_alloc ?_ _) | (with_reducible refine Kd.C_drewN ?_ _) | (with_reducible refine Kd.C_drew ?_)));(case side4 => exact HC1_3.out);rintro e w13 ⟨rfl, hb⟩;refine ⟨_, rfl, ?_⟩;replace BK104 := m0_ (blk_below BK104.out hb);replace BK105 := m0_ (blk_below BK105.out hb);replace HB := m0_ (below_step (by exact HB.out) hb);(try clear hb);(try clear hb2);(try clear hk);(try clear hi)))
  go_ret
  exact ⟨by first | rfl | (simp [errW_none, errW_some] <;> rfl) | (simp [*, errW_none, errW_some] <;> rfl), by repeat (first | (with_reducible first | exact HB.out | apply below_alloc | apply pw_below_drewN | apply below_drew1 | refine below_set ?_ GE104.out | refine below_set ?_ GE105.out) | exact HB.out)⟩
 replace c7 := Bool.eq_false_iff.mpr c7
 subst c7
 have H1 : (some false) = some r := by rw [if_neg (show ¬ (false = true) by decide)] at H;exact H
 clear H
 have H := H1
 clear H1
 obtain rfl := Option.some.inj H
 go_enter Tryd.func12, Tryd.ntmps12
 go_wp2_with (first | ((with_reducible refine gate_dst (N := 2) rfl ?_);refine box_event ?hg (N := 2) ?hd (cs := #[.int .i64 a0_0, .int .i64 a0_1, .int .i64 a0_2, .slice A0_3 l0_3.length c0_3]) (t := 29) ?hr ?_;(case hd => rfl);(case hg => rfl);(case hr => first | (go_simp;done) | (go_simp;rfl));intro gb104 hg w14 hbox hb;have BK104 := m0_ (hbox);have GW104 := m0_ ((by rw [hg];exact (below_size (by exact HB.out)) : w.heap.size ≤ gb104));have GE104 := m0_ ((by rw [hg];exact (below_size (by exact HB.out)) : w.heap.size ≤ gb104));replace HB := m0_ (below_step (by exact HB.out) hb);clear hb hbox hg) | ((with_reducible refine gate_dst (N := 3) rfl ?_);refine box_event ?hg (N := 3) ?hd (cs := #[.int .i64 a1_0, .int .i64 a1_1, .int .i64 a1_2, .slice A1_3 l1_3.length c1_3]) (t := 29) ?hr ?_;(case hd => rfl);(case hg => rfl);(case hr => first | (go_simp;done) | (go_simp;rfl));intro gb105 hg w15 hbox hb;have BK105 := m0_ (hbox);have GW105 := m0_ ((by rw [hg];exact (below_size (by exact HB.out)) : w.heap.size ≤ gb105));have GE105 := m0_ ((by rw [hg];exact (below_size (by exact HB.out)) : w.heap.size ≤ gb105));replace HB := m0_ (below_step (by exact HB.out) hb);have NB104_105 := m0_ ((by rw [hg];exact Nat.ne_of_lt (blk_lt BK104.out) : gb104 ≠ gb105));have NB105_104 := m0_ ((by rw [hg];exact Nat.ne_of_gt (blk_lt BK104.out) : gb105 ≠ gb104));replace BK104 := m0_ (blk_below BK104.out hb);clear hb hbox hg;have hnb16 := NB104_105.out;have hnc16 := NB105_104.out;obtain ⟨hcz17_0, hcz17_1, hcz17_2, hcz17_3, hfz17_0, hfz17_1, hfz17_2, hfz17_3⟩ := bx4 BK104.out;obtain ⟨hcz18_0, hcz18_1, hcz18_2, hcz18_3, hfz18_0, hfz18_1, hfz18_2, hfz18_3⟩ := bx4 BK105.out) | ((with_reducible refine gate_callee (f := 31) rfl ?_);refine goesL_ (some 24) rfl rfl Tryd.func31 (by kernel_rfl) rfl #[.slice A0_3 l0_3.length c0_3, .slice A1_3 l1_3.length c1_3] rfl (by (try simp only [List.map_toArray, List.map_cons, List.map_nil]);first | done | rfl | (simp only [List.length_drop, List.length_take];rfl)) ?_;(with_reducible refine (ih_31 k (by omega) _ _ l0_3 _ _ l1_3 false _ ?side1 ?side2 ?side3 ?side4 A6.out).mono ?_);(case side1 => repeat (first | exact (Kd.C_below HR0_3.out HB.out) | (with_reducible refine Kd.C_alloc ?_ _) | (with_reducible refine Kd.C_drewN ?_ _) | (with_reducible refine Kd.C_drew ?_)));(case side2 => exact HC0_3.out);(case side3 => repeat (first | exact (Kd.C_below HR1_3.out HB.out) | (with_reducible refine Kd.C_alloc ?_ _) | (with_reducible refine Kd.C_drewN ?_ _) | (with_reducible refine Kd.C_drew ?_)));(case side4 => exact HC1_3.out);rintro e w19 ⟨rfl, hb⟩;refine ⟨_, rfl, ?_⟩;replace BK104 := m0_ (blk_below BK104.out hb);replace BK105 := m0_ (blk_below BK105.out hb);replace HB := m0_ (below_step (by exact HB.out) hb);(try clear hb);(try clear hb2);(try clear hk);(try clear hi)))
 go_ret
 exact ⟨by first | rfl | (simp [errW_none, errW_some] <;> rfl) | (simp [*, errW_none, errW_some] <;> rfl), by repeat (first | (with_reducible first | exact HB.out | apply below_alloc | apply pw_below_drewN | apply below_drew1 | refine below_set ?_ GE104.out | refine below_set ?_ GE105.out) | exact HB.out)⟩

theorem laws_eqExS.calls_all (k : Nat) : (∀ (A0 : Option Addr) (c0 : Nat) (l0 : List (S29)) (A1 : Option Addr) (c1 : Nat) (l1 : List (S29)) (r : Bool) (w : World) (hr0 : Kd.C k29 w A0 l0.length l0) (hc0 : l0.length ≤ c0) (hr1 : Kd.C k29 w A1 l1.length l1) (hc1 : l1.length ≤ c1) (h : laws_eqExS.f k l0 l1 = some r),
  Calls Tryd.prog 31 #[.slice A0 l0.length c0, .slice A1 l1.length c1] w fun e w' => e = .returned (.bool r) ∧ Below w.heap.size w w') ∧ (∀ (a0_0 : Int) (a0_1 : Int) (a0_2 : Int) (A0_3 : Option Addr) (c0_3 : Nat) (l0_3 : List (S29)) (a1_0 : Int) (a1_1 : Int) (a1_2 : Int) (A1_3 : Option Addr) (c1_3 : Nat) (l1_3 : List (S29)) (r : Bool) (w : World) (hr0_3 : Kd.C k29 w A0_3 l0_3.length l0_3) (hc0_3 : l0_3.length ≤ c0_3) (hr1_3 : Kd.C k29 w A1_3 l1_3.length l1_3) (hc1_3 : l1_3.length ≤ c1_3) (h : laws_eqEx.f k a0_0 a0_1 a0_2 l0_3 a1_0 a1_1 a1_2 l1_3 = some r),
  Calls Tryd.prog 12 #[.agg #[.int .i64 a0_0, .int .i64 a0_1, .int .i64 a0_2, .slice A0_3 l0_3.length c0_3], .agg #[.int .i64 a1_0, .int .i64 a1_1, .int .i64 a1_2, .slice A1_3 l1_3.length c1_3]] w fun e w' => e = .returned (.bool r) ∧ Below w.heap.size w w') := by
 induction k using Nat.strongRecOn with
 | _ k ih =>
 exact ⟨laws_eqExS.calls_step k (fun k_ h_ => (ih k_ h_).1) (fun k_ h_ => (ih k_ h_).2), laws_eqEx.calls_step k (fun k_ h_ => (ih k_ h_).1) (fun k_ h_ => (ih k_ h_).2)⟩
theorem laws_eqEx.calls (k : Nat) : ∀ (a0_0 : Int) (a0_1 : Int) (a0_2 : Int) (A0_3 : Option Addr) (c0_3 : Nat) (l0_3 : List (S29)) (a1_0 : Int) (a1_1 : Int) (a1_2 : Int) (A1_3 : Option Addr) (c1_3 : Nat) (l1_3 : List (S29)) (r : Bool) (w : World) (hr0_3 : Kd.C k29 w A0_3 l0_3.length l0_3) (hc0_3 : l0_3.length ≤ c0_3) (hr1_3 : Kd.C k29 w A1_3 l1_3.length l1_3) (hc1_3 : l1_3.length ≤ c1_3) (h : laws_eqEx.f k a0_0 a0_1 a0_2 l0_3 a1_0 a1_1 a1_2 l1_3 = some r),
  Calls Tryd.prog 12 #[.agg #[.int .i64 a0_0, .int .i64 a0_1, .int .i64 a0_2, .slice A0_3 l0_3.length c0_3], .agg #[.int .i64 a1_0, .int .i64 a1_1, .int .i64 a1_2, .slice A1_3 l1_3.length c1_3]] w fun e w' => e = .returned (.bool r) ∧ Below w.heap.size w w' := (laws_eqExS.calls_all k).2

def spec_l2Kids.j0 : Nat → Int → Bool → Option (Int)
 | 0, _, _ => none
 | k + 1, x3, x8 => if x8 = true then (some 2) else (if x3 = 5 then (some 3) else (if x3 = 6 then (some 3) else (some (-1))))
def spec_l2Kids.f (k : Nat) (a0 : Int) : Option (Int) := if a0 = 1 then (some 0) else (if a0 = 7 then (some 1) else (if a0 = 2 then (spec_l2Kids.j0 k a0 (a0 == 2)) else (if a0 = 3 then (spec_l2Kids.j0 k a0 (a0 == 3)) else (spec_l2Kids.j0 k a0 (a0 == 4)))))
set_option maxHeartbeats 8000000 in
set_option maxRecDepth 100000 in
theorem spec_l2Kids.calls (k : Nat) (a0 : Int) (r : Int) (w : World) (h : spec_l2Kids.f k a0 = some r) :
  Calls Tryd.prog 58 #[.int .i64 a0] w fun e w' => e = .returned (.int .i64 r) ∧ Drawn0 w w' := by
 have H : (if a0 = 1 then (some 0) else (if a0 = 7 then (some 1) else (if a0 = 2 then (spec_l2Kids.j0 k a0 (a0 == 2)) else (if a0 = 3 then (spec_l2Kids.j0 k a0 (a0 == 3)) else (spec_l2Kids.j0 k a0 (a0 == 4)))))) = some r := h
 clear h
 by_cases c2 : a0 = 1
 ·rw [if_pos c2] at H
  have c2b0 : (a0 == 1) = true := beq_iff_eq.mpr c2
  have c2b1 : (a0 != 1) = false := bne_eq_false_iff_eq.mpr c2
  clear c2
  obtain rfl := Option.some.inj H
  go_enter Tryd.func58, Tryd.ntmps58
  go_wp2
  go_ret
  exact ⟨by first | rfl | (simp;done) | (simp [*];done), by repeat (first | exact Drawn0.refl _ | apply Drawn0.step)⟩
 rw [if_neg c2] at H
 have c2b0 : (a0 == 1) = false := beq_eq_false_iff_ne.mpr c2
 have c2b1 : (a0 != 1) = true := bne_iff_ne.mpr c2
 by_cases c3 : a0 = 7
 ·rw [if_pos c3] at H
  have c3b0 : (a0 == 7) = true := beq_iff_eq.mpr c3
  have c3b1 : (a0 != 7) = false := bne_eq_false_iff_eq.mpr c3
  clear c3
  obtain rfl := Option.some.inj H
  go_enter Tryd.func58, Tryd.ntmps58
  go_wp2
  go_ret
  exact ⟨by first | rfl | (simp;done) | (simp [*];done), by repeat (first | exact Drawn0.refl _ | apply Drawn0.step)⟩
 rw [if_neg c3] at H
 have c3b0 : (a0 == 7) = false := beq_eq_false_iff_ne.mpr c3
 have c3b1 : (a0 != 7) = true := bne_iff_ne.mpr c3
 have HC4 := m0_ H
 clear H
 go_enter Tryd.func58, Tryd.ntmps58
 go_upto_if 8 with (fail)
 go_cut [8] (fun v8 wc => ∃ (kq : Nat) (x8_3 : Bool), v8 = .bool x8_3 ∧ Aside0 (spec_l2Kids.j0 kq a0 x8_3 = some r) ∧ Aside0 (kq ≤ k) ∧ Drawn0 w wc)
 case first =>
  have H := HC4.out
  clear HC4
  by_cases c5 : a0 = 2
  ·rw [if_pos c5] at H
   have c5b0 : (a0 == 2) = true := beq_iff_eq.mpr c5
   have c5b1 : (a0 != 2) = false := bne_eq_false_iff_eq.mpr c5
   clear c5
   (first | rw [c5b0] | (simp only [i64_w, i32_w];rw [c5b0]) | skip)
   have H' := m0_ H
   clear H
   go_wp2
   go_meet
   case rel => exact ⟨_, ((a0 == 2)), (by first | rfl | (simp;done) | (simp [*];done)), H', ⟨by first | omega | exact Nat.le_refl _⟩, by repeat (first | exact Drawn0.refl _ | apply Drawn0.step)⟩
  rw [if_neg c5] at H
  have c5b0 : (a0 == 2) = false := beq_eq_false_iff_ne.mpr c5
  have c5b1 : (a0 != 2) = true := bne_iff_ne.mpr c5
  (first | rw [c5b0] | (simp only [i64_w, i32_w];rw [c5b0]) | skip)
  by_cases c6 : a0 = 3
  ·rw [if_pos c6] at H
   have c6b0 : (a0 == 3) = true := beq_iff_eq.mpr c6
   have c6b1 : (a0 != 3) = false := bne_eq_false_iff_eq.mpr c6
   clear c6
   have H' := m0_ H
   clear H
   go_wp2
   go_meet
   case rel => exact ⟨_, ((a0 == 3)), (by first | rfl | (simp;done) | (simp [*];done)), H', ⟨by first | omega | exact Nat.le_refl _⟩, by repeat (first | exact Drawn0.refl _ | apply Drawn0.step)⟩
  ·rw [if_neg c6] at H
   have c6b0 : (a0 == 3) = false := beq_eq_false_iff_ne.mpr c6
   have c6b1 : (a0 != 3) = true := bne_iff_ne.mpr c6
   have H' := m0_ H
   clear H
   go_wp2
   go_meet
   case rel => exact ⟨_, ((a0 == 4)), (by first | rfl | (simp;done) | (simp [*];done)), H', ⟨by first | omega | exact Nat.le_refl _⟩, by repeat (first | exact Drawn0.refl _ | apply Drawn0.step)⟩
 case rest =>
  clear HC4
  try clear c2
  try clear c2b0
  try clear c2b1
  try clear p2
  try clear c3
  try clear c3b0
  try clear c3b1
  try clear c5
  try clear c5b0
  try clear c5b1
  try clear c6
  try clear c6b0
  try clear c6b1
  obtain ⟨kq, x8_3, rfl, HA, HJ3, ⟨mc3, rfl⟩⟩ := hcut
  cases kq with
  | zero => exact absurd HA.out (by simp [spec_l2Kids.j0])
  | succ kj3 =>
   have H := HA.out
   clear HA
   simp only [spec_l2Kids.j0] at H
   by_cases c7 : x8_3 = true
   ·subst c7
    have H1 : (some 2) = some r := by rw [if_pos rfl] at H;exact H
    clear H
    have H := H1
    clear H1
    obtain rfl := Option.some.inj H
    go_wp2
    go_ret
    exact ⟨by first | rfl | (simp;done) | (simp [*];done), by repeat (first | exact Drawn0.refl _ | apply Drawn0.step)⟩
   replace c7 := Bool.eq_false_iff.mpr c7
   subst c7
   have H1 : (if a0 = 5 then (some 3) else (if a0 = 6 then (some 3) else (some (-1)))) = some r := by rw [if_neg (show ¬ (false = true) by decide)] at H;exact H
   clear H
   have H := H1
   clear H1
   by_cases c8 : a0 = 5
   ·rw [if_pos c8] at H
    have c8b0 : (a0 == 5) = true := beq_iff_eq.mpr c8
    have c8b1 : (a0 != 5) = false := bne_eq_false_iff_eq.mpr c8
    clear c8
    obtain rfl := Option.some.inj H
    go_wp2
    go_ret
    exact ⟨by first | rfl | (simp;done) | (simp [*];done), by repeat (first | exact Drawn0.refl _ | apply Drawn0.step)⟩
   rw [if_neg c8] at H
   have c8b0 : (a0 == 5) = false := beq_eq_false_iff_ne.mpr c8
   have c8b1 : (a0 != 5) = true := bne_iff_ne.mpr c8
   by_cases c9 : a0 = 6
   ·rw [if_pos c9] at H
    have c9b0 : (a0 == 6) = true := beq_iff_eq.mpr c9
    have c9b1 : (a0 != 6) = false := bne_eq_false_iff_eq.mpr c9
    clear c9
    obtain rfl := Option.some.inj H
    go_wp2
    go_ret
    exact ⟨by first | rfl | (simp;done) | (simp [*];done), by repeat (first | exact Drawn0.refl _ | apply Drawn0.step)⟩
   ·rw [if_neg c9] at H
    have c9b0 : (a0 == 6) = false := beq_eq_false_iff_ne.mpr c9
    have c9b1 : (a0 != 6) = true := bne_iff_ne.mpr c9
    obtain rfl := Option.some.inj H
    go_wp2
    go_ret
    exact ⟨by first | rfl | (simp;done) | (simp [*];done), by repeat (first | exact Drawn0.refl _ | apply Drawn0.step)⟩

end Go.Proofs.YtbcdfbiggjfmlaaDoor.M
