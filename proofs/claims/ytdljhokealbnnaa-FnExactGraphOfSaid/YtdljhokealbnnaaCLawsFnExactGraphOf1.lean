/- What the claim's law leans on: the program's functions, what they compute, and the law over plain values; no condition is asked. (Part 1 of 5.) -/
import Derived.Test.YtdljhokealbnnaaVFnExactGraphOfWords
import Derived.Test.YtdljhokealbnnaaVFnExactGraphOfLast
import Derived.ProofKit
import Derived.SizedLaws
import Derived.ChangeSlices
import Derived.Test.YtdljhokealbnnaaProg
import Derived.Below
import Derived.Deep.Draws
import Derived.Deep.AppendLies
import Derived.Maps.AppendAt
import Derived.OwnWalk
import Derived.Laws.BytesArg
import Derived.Laws.MakeOwn
import Derived.Laws.OwnMore
import Derived.Deep.OwnRows
import Derived.Tactics
import Derived.Lib.ConvBytes
import Derived.Laws.Slices
import Derived.WalkKit
import Derived.KernelRfl
import Derived.RowKit3
import Derived.Deep.LoopGhost
import Derived.Deep.QuietTactic
import Derived.BigQuiet
import Derived.WideLaws
import Derived.Deep.DeepCutAuto
import Derived.Deep.CutBlock
import Derived.Deep.RegionHeld3
import Derived.Laws.Rows
import Derived.Lib.AppendStr
import Derived.ArgAppend
import Derived.Laws.IdiomCopy
import Derived.OrdersHeld
import Derived.Laws.BitsLemmas
import Derived.RowKit
import Derived.Test.YtdljhokealbnnaaVFnExactGraphOfTab
import Derived.Test.YtdljhokealbnnaaVFnExactGraphOfFour
import Derived.Test.YtdljhokealbnnaaVFnExactGraphOfQPut
import Derived.Test.YtdljhokealbnnaaVFnExactGraphOfApart
import Derived.Test.YtdljhokealbnnaaVFnExactGraphOfArr
import Derived.Test.YtdljhokealbnnaaVFnExactGraphOfZeros
import Derived.Test.YtdljhokealbnnaaVFnExactGraphOfFoot
import Derived.Test.YtdljhokealbnnaaVFnExactGraphOfKept
import Derived.Test.YtdljhokealbnnaaVFnExactGraphOfShare
import Derived.Test.YtdljhokealbnnaaVFnExactGraphOfN
import Derived.Test.YtdljhokealbnnaaVFnExactGraphOfFootNe
import Derived.Test.YtdljhokealbnnaaVFnExactGraphOfAt
import Derived.Test.YtdljhokealbnnaaVFnExactGraphOfEqStruct
import Derived.Test.YtdljhokealbnnaaVFnExactGraphOfRepsOne
import Derived.Test.YtdljhokealbnnaaVFnExactGraphOfInv
import Derived.Test.YtdljhokealbnnaaVFnExactGraphOfInvWords
import Derived.Test.YtdljhokealbnnaaVFnExactGraphOfGuard
import Derived.Test.YtdljhokealbnnaaVFnExactGraphOfNEv
import Derived.Test.YtdljhokealbnnaaVFnExactGraphOfMore
import Derived.Laws.CopyRow
import Derived.Laws.CopyOwn
namespace Go.Proofs.Ytdljhokealbnnaa.M
set_option linter.unusedVariables false
set_option linter.unusedSimpArgs false
open Go.RowKit Go.Proofs.YtdljhokealbnnaaW.PrintWords Go.Proofs.YtdljhokealbnnaaW.PrintLast

theorem m0_ {p : Prop} (h : p) : Aside0 p := ⟨h⟩
theorem w_small {i : Int} (h0 : -9223372036854775808 ≤ i) (h1 : i ≤ 9223372036854775807) : wrap64 i = i := by
  unfold wrap64
  omega
theorem w_succ {n : Nat} (h : n < 9223372036854775807) : wrap64 ((n : Int) + 1) = ((n + 1 : Nat) : Int) := by
  unfold wrap64
  omega
theorem drop_at {α : Type} (xs : List α) (z : α) (n : Nat) (h : n < xs.length) : xs.drop n = xs.getD n z :: xs.drop (n + 1) := by
  rw [List.drop_eq_getElem_cons h, List.getD_eq_getElem?_getD, List.getElem?_eq_getElem h]
  rfl
theorem Ev.one {α : Type} {g : Nat → Option α} {r : α} (h : ∀ k, g k = some r) : Ev g r := ⟨0, fun k _ => h k⟩
theorem Ev.last {α : Type} {g : Nat → Option α} {r : α} (h : ∀ k, g (k + 1) = some r) : Ev g r := Ev.step (f := fun _ => some r) h (Ev.now r)
theorem Ev.bindS {α β : Type} {g : Nat → Option α} {f : α → Option β} {a : α} {r : β} (h : Ev g a) (k : f a = some r) : Ev (fun n => (g n).bind f) r := Ev.bind (f := fun _ => f) h (Ev.one (fun _ => k))
theorem Ev.pos {α : Type} {c : Prop} [Decidable c] {g f : Nat → Option α} {r : α} (h : c) (k : Ev g r) : Ev (fun n => if c then g n else f n) r := Ev.congr (fun _ => if_pos h) k
theorem Ev.neg {α : Type} {c : Prop} [Decidable c] {g f : Nat → Option α} {r : α} (h : ¬ c) (k : Ev f r) : Ev (fun n => if c then g n else f n) r := Ev.congr (fun _ => if_neg h) k
theorem Ev.val {α : Type} {g : Nat → Option α} {r r' : α} (h : Ev g r) (e : r = r') : Ev g r' := e ▸ h
theorem Ev.uniq {α : Type} {g : Nat → Option α} {r r' : α} (h : Ev g r) (h' : Ev g r') : r = r' := by
  obtain ⟨K, h⟩ := h
  obtain ⟨K', h'⟩ := h'
  have h1 := h (max K K') (by omega)
  have h2 := h' (max K K') (by omega)
  rw [h1] at h2
  exact Option.some.inj h2
theorem take_set {α : Type} (xs : List α) (n : Nat) (v : α) (h : n < xs.length) : (xs.set n v).take (n + 1) = xs.take n ++ [v] := by
  rw [List.take_succ_eq_append_getElem (by simpa using h), List.getElem_set_self, List.take_set_of_le (Nat.le_refl n)]
end Go.Proofs.Ytdljhokealbnnaa.M
namespace Go.Proofs.Ytdljhokealbnnaa.Opening
set_option linter.unusedVariables false
set_option linter.unusedSimpArgs false
open Go.ChangeShapes Go.WideShapes Go.RowKit Go.Proofs.YtdljhokealbnnaaW.PrintWords

def OpensAt {α : Type} (P : Program) (n : Nat) (t : TypeId) (d : Kd α) (good : α → Prop) : Prop :=
  P.cellsOf t = d.sz ∧ ∀ (H : Type) (enc : TypeId × Value → H) (w : World) (base : Nat) (spare : Nat → Bool) (held : Bool) (fuel : Nat) (cs : List Value) (x : DataW H × List MemPlace),
    fuel ≤ n → DataW.trod enc P w base spare held fuel t cs = some x → ∃ y, d.K w y cs ∧ good y

theorem OpensAt.less {α : Type} {P : Program} {n m : Nat} {t : TypeId} {d : Kd α} {good : α → Prop} (h : OpensAt P n t d good) (hm : m ≤ n) : OpensAt P m t d good :=
  ⟨h.1, fun H enc w base spare held fuel cs x hf hx => h.2 H enc w base spare held fuel cs x (Nat.le_trans hf hm) hx⟩

theorem OpensAt.weak {α : Type} {P : Program} {n : Nat} {t : TypeId} {d : Kd α} {good good' : α → Prop} (h : OpensAt P n t d good) (hg : ∀ x, good x → good' x) : OpensAt P n t d good' :=
  ⟨h.1, fun H enc w base spare held fuel cs x hf hx => by
    obtain ⟨y, hy, hgy⟩ := h.2 H enc w base spare held fuel cs x hf hx
    exact ⟨y, hy, hg y hgy⟩⟩

theorem opens_int {P : Program} {t : TypeId} {k : IntKind} (ht : P.underlying t = some (.int k)) (hc : P.cellsOf t = 1) (n : Nat) : OpensAt P n t (Kd.int k) (fun x => (Lit.int k x).wf = true) :=
  ⟨hc, fun H enc w base spare held fuel cs x _ hx => by
    obtain ⟨m, rfl, _, hw⟩ := DataW.trod_int ht hx
    exact ⟨m, rfl, hw⟩⟩

theorem list_of {α : Type} {Q : Nat → α → Prop} : ∀ n : Nat, (∀ i, i < n → ∃ y, Q i y) → ∃ xs : List α, xs.length = n ∧ ∀ i y, xs[i]? = some y → Q i y
  | 0, _ => ⟨[], rfl, fun i y h => by simp at h⟩
  | n + 1, h => by
    obtain ⟨xs, hl, hx⟩ := list_of n (fun i hi => h i (by omega))
    obtain ⟨y, hy⟩ := h n (by omega)
    refine ⟨xs ++ [y], by simp [hl], fun i z hz => ?_⟩
    rcases Nat.lt_or_ge i n with hi | hi
    · rw [List.getElem?_append_left (by omega)] at hz
      exact hx i z hz
    rw [List.getElem?_append_right (by omega)] at hz
    have : i = n := by
      rcases Nat.lt_or_ge (i - xs.length) 1 with h1 | h1
      · omega
      · rw [List.getElem?_eq_none (by simpa using h1)] at hz; cases hz
    subst this
    rw [hl] at hz
    simp at hz
    rw [← hz]
    exact hy

theorem opens_slice {α : Type} {P : Program} {t e : TypeId} {d : Kd α} {good : α → Prop} (ht : P.underlying t = some (.slice e)) (hc : P.cellsOf t = 1) (n : Nat) (h : OpensAt P n e d good) :
    OpensAt P (n + 1) t (Kd.slice e d) (fun xs => xs.length ≤ maxLen ∧ ∀ x ∈ xs, good x) :=
  ⟨hc, fun H enc w base spare held fuel cs x hf hx => by
    rcases DataW.trod_slice ht hx with ⟨rfl, _⟩ | ⟨a, len, cap, elems, rest, m, rfl, rfl, _, hb, hl, hm, hlen, hel, _, _⟩
    · exact ⟨[], ⟨none, 0, rfl, Nat.le_refl _, Kd.C_nil d w⟩, by simp, fun x hx => by simp at hx⟩
    have key : ∀ i, i < len → ∃ y, (∃ c, c.length = d.sz ∧ d.K w y c ∧ ∀ j u, c[j]? = some u → w.cell? (a.add (i * d.sz + j)) = some u) ∧ good y := by
      intro i hi
      have h0 := hel i hi
      rw [List.getElem?_eq_getElem (by omega)] at h0
      obtain ⟨cs', h1, h2⟩ := Option.bind_eq_some_iff.1 h0
      obtain ⟨y, hy, hg⟩ := h.2 H enc w base spare held m cs' _ (by omega) h2
      obtain ⟨_, hcl, hcc⟩ := World.cells?_some h1
      rw [h.1] at hcl hcc
      refine ⟨y, ⟨cs', hcl, hy, fun j u hu => ?_⟩, hg⟩
      have hj : j < d.sz := by
        have := (List.getElem?_eq_some_iff.1 hu).1
        omega
      have := hcc j hj
      rw [add_add] at this
      rw [this, hu]
    obtain ⟨xs, hxl, hxx⟩ := list_of len key
    subst hxl
    have h63 : xs.length ≤ 9223372036854775807 := by unfold maxLen at hm; omega
    refine ⟨xs, ⟨some a, cap, rfl, hl, rfl, h63, fun _ => ⟨a, rfl, fun j p hj => (hxx j p hj).1⟩⟩, by omega, fun y hy => ?_⟩
    obtain ⟨i, hi, he⟩ := List.getElem_of_mem hy
    exact (hxx i y (by rw [List.getElem?_eq_getElem hi, he])).2⟩

def OpensFields {β : Type} (P : Program) (n : Nat) (fs : List Field) (off : Nat) (d : Kd β) (good : β → Prop) : Prop :=
  ∀ (H : Type) (enc : TypeId × Value → H) (w : World) (base : Nat) (spare : Nat → Bool) (held : Bool) (fuel : Nat) (cs : List Value), fuel ≤ n → cs.length = off + d.sz →
    (∀ f ∈ fs, ∃ x, DataW.trod enc P w base spare held fuel f.type ((cs.drop f.offset).take (P.cellsOf f.type)) = some x) → ∃ y, d.K w y (cs.drop off) ∧ good y

theorem fields_last {β : Type} {P : Program} {n : Nat} {f : Field} {off : Nat} {d : Kd β} {good : β → Prop} (ho : f.offset = off) (h : OpensAt P n f.type d good) : OpensFields P n [f] off d good := by
  intro H enc w base spare held fuel cs hf hl hx
  obtain ⟨x, hx⟩ := hx f (by simp)
  rw [ho, h.1, List.take_of_length_le (by simp; omega)] at hx
  exact h.2 H enc w base spare held fuel _ x hf hx

theorem fields_cons {α β : Type} {P : Program} {n : Nat} {f : Field} {fs : List Field} {off : Nat} {a : Kd α} {b : Kd β} {ga : α → Prop} {gb : β → Prop} (ho : f.offset = off) (h : OpensAt P n f.type a ga) (k : OpensFields P n fs (off + a.sz) b gb) :
    OpensFields P n (f :: fs) off (Kd.pair a b) (fun y => ga y.1 ∧ gb y.2) := by
  intro H enc w base spare held fuel cs hf hl hx
  have hsz : (Kd.pair a b).sz = a.sz + b.sz := rfl
  obtain ⟨x, hx0⟩ := hx f (by simp)
  rw [ho, h.1] at hx0
  obtain ⟨y0, h0, g0⟩ := h.2 H enc w base spare held fuel _ x hf hx0
  obtain ⟨y1, h1, g1⟩ := k H enc w base spare held fuel cs hf (by omega) (fun f' hf' => hx f' (by simp [hf']))
  refine ⟨(y0, y1), ⟨(cs.drop off).take a.sz, cs.drop (off + a.sz), ?_, h0, h1⟩, g0, g1⟩
  rw [← List.drop_drop, List.take_append_drop]

theorem opens_struct {β : Type} {P : Program} {n : Nat} {t : TypeId} {fs : Array Field} {d : Kd β} {good : β → Prop} (ht : P.underlying t = some (.struct fs)) (hc : P.cellsOf t = d.sz) (h : OpensFields P n fs.toList 0 d good) : OpensAt P (n + 1) t d good :=
  ⟨hc, fun H enc w base spare held fuel cs x hf hx => by
    obtain ⟨xs, m, rfl, _, hl, hlen, hfs⟩ := DataW.trod_struct ht hx
    obtain ⟨y, hy, hg⟩ := h H enc w base spare held m cs (by omega) (by omega) (fun f hf' => by
      obtain ⟨i, hi, he⟩ := List.getElem_of_mem hf'
      have h1 := hfs i f (by simp only [Array.length_toList] at hi; rw [Array.getElem?_eq_getElem hi]; simpa using he)
      rw [h1]
      have hi2 : i < xs.length := by rw [hlen]; simpa using hi
      exact ⟨xs[i], List.getElem?_eq_getElem hi2⟩)
    exact ⟨y, by simpa using hy, hg⟩⟩

theorem OpensAt.iso {α β : Type} {P : Program} {n : Nat} {t : TypeId} {d : Kd α} {good : α → Prop} (f : β → α) (g : α → β) (hfg : ∀ y, f (g y) = y) (h : OpensAt P n t d good) : OpensAt P n t (Kd.iso d f) (fun x => good (f x)) :=
  ⟨h.1, fun H enc w base spare held fuel cs x hf hx => by
    obtain ⟨y, hy, hgy⟩ := h.2 H enc w base spare held fuel cs x hf hx
    refine ⟨g y, ?_, ?_⟩
    · show d.K w (f (g y)) cs
      rw [hfg]; exact hy
    · show good (f (g y))
      rw [hfg]; exact hgy⟩

theorem opens_fix {α : Type} {P : Program} {t : TypeId} {F : Kd α → Kd α} {sz : Nat} {E : List Nat} {hs : ∀ n, (Kd.upto F sz E n).sz = sz} {hE : ∀ n q, q ∈ (Kd.upto F sz E n).E → q ∈ E} {good : α → Prop} (hc : P.cellsOf t = sz)
    (step : ∀ n, OpensAt P n t (Kd.upto F sz E n) good → OpensAt P (n + 1) t (F (Kd.upto F sz E n)) good) (n : Nat) : OpensAt P n t (Kd.fix F sz E hs hE) good := by
  have key : ∀ n, OpensAt P n t (Kd.upto F sz E n) good := by
    intro n
    induction n with
    | zero =>
      refine ⟨hc, fun H enc w base spare held fuel cs x hf hx => ?_⟩
      obtain rfl : fuel = 0 := by omega
      simp [DataW.trod] at hx
    | succ n ih => exact step n ih
  refine ⟨hc, fun H enc w base spare held fuel cs x hf hx => ?_⟩
  obtain ⟨y, hy, hg⟩ := (key n).2 H enc w base spare held fuel cs x hf hx
  exact ⟨y, ⟨n, hy⟩, hg⟩

theorem arg_struct {α : Type} {P : Program} {H : Type} {enc : TypeId × Value → H} {w : World} {base : Nat} {spare : Nat → Bool} {held : Bool} {t : TypeId} {d : Kd α} {good : α → Prop}
    (ho : ∀ n, OpensAt P n t d good) {cs : Array Value} {x : DataW H} {ps : List MemPlace} (h : DataW.Trod enc P w base spare held t (.agg cs) x ps) :
    ∃ y : α, d.K w y cs.toList ∧ good y := by
  obtain ⟨fuel, hf⟩ := h
  exact (ho fuel).2 H enc w base spare held fuel _ _ (Nat.le_refl _) hf

end Go.Proofs.Ytdljhokealbnnaa.Opening
namespace Go.Proofs.Ytdljhokealbnnaa.M
open Go.RowKit Go.Proofs.YtdljhokealbnnaaW.PrintWords Go.Proofs.YtdljhokealbnnaaW.PrintLast Go.Proofs.YtdljhokealbnnaaW.PrintMore
attribute [local go_sem] max2_int min2_int max_two min_two max_three min_three max_four min_four
set_option linter.unusedVariables false
set_option linter.unusedSimpArgs false

def errW : Option Int → Value
  | none => .nilIface
  | some c => .iface 0 (.int .i64 c)
theorem errW_none : errW none = .nilIface := rfl
theorem errW_some (c : Int) : errW (some c) = .iface 0 (.int .i64 c) := rfl

theorem info3 : (Try.prog.info? 3).map (fun i => (i.zero, i.size, i.bytes)) = some (some (.int .i64 0), 1, 8) := by kernel_rfl
theorem info9 : (Try.prog.info? 9).map (fun i => (i.zero, i.size, i.bytes)) = some (some (.string ⟨#[]⟩), 1, 16) := by kernel_rfl
theorem info37 : (Try.prog.info? 37).map (fun i => (i.zero, i.size, i.bytes)) = some (some (.agg #[(.int .i64 0), (.int .i64 0), (.int .i64 0), (.slice none 0 0)]), 4, 48) := by kernel_rfl
theorem info104 : (Try.prog.info? 104).map (fun i => (i.zero, i.size, i.bytes)) = some (some (.agg #[(.int .i64 0), (.int .i64 0), (.int .i64 0), (.slice none 0 0), (.slice none 0 0), (.slice none 0 0), (.slice none 0 0), (.slice none 0 0), (.slice none 0 0), (.int .i64 0)]), 10, 176) := by kernel_rfl
structure S30 where
  f0 : Int
  f1 : Int
  f2 : Int
  f3 : (List S30)
def z30 : S30 := ⟨(0 : Int), (0 : Int), (0 : Int), ([] : List S30)⟩
def F30 (d : Kd S30) : Kd S30 := Kd.iso (Kd.pair (Kd.int .i64) (Kd.pair (Kd.int .i64) (Kd.pair (Kd.int .i64) (Kd.slice 30 d)))) (fun x : S30 => (x.f0, x.f1, x.f2, x.f3))
theorem sub30 : Kd.Sub F30 [30] := Kd.sub_iso _ (Kd.sub_pair (Kd.sub_const _ (by decide)) (Kd.sub_pair (Kd.sub_const _ (by decide)) (Kd.sub_pair (Kd.sub_const _ (by decide)) (Kd.sub_slice 30 (by decide) Kd.sub_id))))
theorem sz30 : ∀ n, (Kd.upto F30 4 [30] n).sz = 4 := Kd.upto_sz (fun _ => rfl)
def k30 : Kd S30 := Kd.fix F30 4 [30] sz30 (Kd.upto_E sub30)
theorem k30_open {w : World} {x : S30} {cs : List Value} (h : k30.K w x cs) : ∃ A3 c3, cs = [.int .i64 x.f0, .int .i64 x.f1, .int .i64 x.f2, .slice A3 x.f3.length c3] ∧ x.f3.length ≤ c3 ∧ k30.C w A3 x.f3.length x.f3 := by
  obtain ⟨n, h⟩ := h
  cases n with
  | zero => exact h.elim
  | succ n =>
    obtain ⟨_, _, rfl, rfl, ⟨_, _, rfl, rfl, ⟨_, _, rfl, rfl, ⟨A3, c3, rfl, l3, g3⟩⟩⟩⟩ := h
    exact ⟨A3, c3, rfl, l3, Kd.fix_C g3⟩
def rd_T30 (xs : List S30) (i : Int) : S30 := xs.getD i.toNat z30
theorem at_T30 {w : World} {A : Option Addr} {n : Nat} {xs : List S30} (h : Kd.C k30 w A n xs) (i : Int) (h0 : 0 ≤ i) (h1 : i < n) : ∃ ad A3 c3, A = some ad ∧ w.cell? (ad.add (i.toNat * 4)) = some (.int .i64 (rd_T30 xs i).f0) ∧ w.cell? ⟨(ad.add (i.toNat * 4)).block, (ad.add (i.toNat * 4)).off + 1, none⟩ = some (.int .i64 (rd_T30 xs i).f1) ∧ w.cell? ⟨(ad.add (i.toNat * 4)).block, (ad.add (i.toNat * 4)).off + 2, none⟩ = some (.int .i64 (rd_T30 xs i).f2) ∧ w.cell? ⟨(ad.add (i.toNat * 4)).block, (ad.add (i.toNat * 4)).off + 3, none⟩ = some (.slice A3 (rd_T30 xs i).f3.length c3) ∧ (rd_T30 xs i).f3.length ≤ c3 ∧ k30.C w A3 (rd_T30 xs i).f3.length (rd_T30 xs i).f3 := by
  obtain ⟨ad, c, e, _, hK, hc0⟩ := Kd.C_get h z30 i h0 h1
  have hc : ∀ j u, c[j]? = some u → w.cell? (ad.add (i.toNat * 4 + j)) = some u := hc0
  obtain ⟨A3, c3, rfl, l3, g3⟩ := k30_open hK
  exact ⟨ad, A3, c3, e, hc 0 _ rfl, by rw [← add_field _ _ 1 (by omega)]; exact hc 1 _ rfl, by rw [← add_field _ _ 2 (by omega)]; exact hc 2 _ rfl, by rw [← add_field _ _ 3 (by omega)]; exact hc 3 _ rfl, l3, g3⟩

structure S37 where
  f0 : Int
  f1 : Int
  f2 : Int
  f3 : (List S37)
def z37 : S37 := ⟨(0 : Int), (0 : Int), (0 : Int), ([] : List S37)⟩
def F37 (d : Kd S37) : Kd S37 := Kd.iso (Kd.pair (Kd.int .i64) (Kd.pair (Kd.int .i64) (Kd.pair (Kd.int .i64) (Kd.slice 37 d)))) (fun x : S37 => (x.f0, x.f1, x.f2, x.f3))
theorem mono37 : Kd.Mono F37 := Kd.mono_iso _ (Kd.mono_pair (Kd.mono_const _) (Kd.mono_pair (Kd.mono_const _) (Kd.mono_pair (Kd.mono_const _) (Kd.mono_slice 37 Kd.mono_id))))
theorem sub37 : Kd.Sub F37 [37] := Kd.sub_iso _ (Kd.sub_pair (Kd.sub_const _ (by decide)) (Kd.sub_pair (Kd.sub_const _ (by decide)) (Kd.sub_pair (Kd.sub_const _ (by decide)) (Kd.sub_slice 37 (by decide) Kd.sub_id))))
theorem sz37 : ∀ n, (Kd.upto F37 4 [37] n).sz = 4 := Kd.upto_sz (fun _ => rfl)
def k37 : Kd S37 := Kd.fix F37 4 [37] sz37 (Kd.upto_E sub37)
theorem k37_open {w : World} {x : S37} {cs : List Value} (h : k37.K w x cs) : ∃ A3 c3, cs = [.int .i64 x.f0, .int .i64 x.f1, .int .i64 x.f2, .slice A3 x.f3.length c3] ∧ x.f3.length ≤ c3 ∧ k37.C w A3 x.f3.length x.f3 := by
  obtain ⟨n, h⟩ := h
  cases n with
  | zero => exact h.elim
  | succ n =>
    obtain ⟨_, _, rfl, rfl, ⟨_, _, rfl, rfl, ⟨_, _, rfl, rfl, ⟨A3, c3, rfl, l3, g3⟩⟩⟩⟩ := h
    exact ⟨A3, c3, rfl, l3, Kd.fix_C g3⟩
theorem k37_openM {w : World} {base : Nat} {ok : Nat → Prop} {x : S37} {cs : List Value} (h : k37.M w base ok x cs) : ∃ v3, cs = [.int .i64 x.f0, .int .i64 x.f1, .int .i64 x.f2, v3] ∧ k37.R 37 w base ok v3 x.f3 := by
  obtain ⟨n, h⟩ := h
  cases n with
  | zero => exact h.elim
  | succ n =>
    obtain ⟨_, _, rfl, rfl, ⟨_, _, rfl, rfl, ⟨_, _, rfl, rfl, ⟨v3, rfl, g3⟩⟩⟩⟩ := h
    exact ⟨v3, rfl, Kd.fix_R g3⟩
theorem k37_mkM (w : World) (base : Nat) (ok : Nat → Prop) (x : S37) {v3 : Value} (g3 : k37.R 37 w base ok v3 x.f3) : k37.M w base ok x [.int .i64 x.f0, .int .i64 x.f1, .int .i64 x.f2, v3] := by
  obtain ⟨n3, q3⟩ := Kd.fix_R_back mono37 g3
  have r3 := Kd.upto_R_le mono37 sz37 (show n3 ≤ n3 by omega) q3
  exact ⟨n3 + 1, ⟨[.int .i64 x.f0], [.int .i64 x.f1, .int .i64 x.f2, v3], rfl, rfl, ⟨[.int .i64 x.f1], [.int .i64 x.f2, v3], rfl, rfl, ⟨[.int .i64 x.f2], [v3], rfl, rfl, ⟨v3, rfl, r3⟩⟩⟩⟩⟩
def rd_T37 (xs : List S37) (i : Int) : S37 := xs.getD i.toNat z37
theorem at_T37 {w : World} {A : Option Addr} {n : Nat} {xs : List S37} (h : Kd.C k37 w A n xs) (i : Int) (h0 : 0 ≤ i) (h1 : i < n) : ∃ ad A3 c3, A = some ad ∧ w.cell? (ad.add (i.toNat * 4)) = some (.int .i64 (rd_T37 xs i).f0) ∧ w.cell? ⟨(ad.add (i.toNat * 4)).block, (ad.add (i.toNat * 4)).off + 1, none⟩ = some (.int .i64 (rd_T37 xs i).f1) ∧ w.cell? ⟨(ad.add (i.toNat * 4)).block, (ad.add (i.toNat * 4)).off + 2, none⟩ = some (.int .i64 (rd_T37 xs i).f2) ∧ w.cell? ⟨(ad.add (i.toNat * 4)).block, (ad.add (i.toNat * 4)).off + 3, none⟩ = some (.slice A3 (rd_T37 xs i).f3.length c3) ∧ (rd_T37 xs i).f3.length ≤ c3 ∧ k37.C w A3 (rd_T37 xs i).f3.length (rd_T37 xs i).f3 := by
  obtain ⟨ad, c, e, _, hK, hc0⟩ := Kd.C_get h z37 i h0 h1
  have hc : ∀ j u, c[j]? = some u → w.cell? (ad.add (i.toNat * 4 + j)) = some u := hc0
  obtain ⟨A3, c3, rfl, l3, g3⟩ := k37_open hK
  exact ⟨ad, A3, c3, e, hc 0 _ rfl, by rw [← add_field _ _ 1 (by omega)]; exact hc 1 _ rfl, by rw [← add_field _ _ 2 (by omega)]; exact hc 2 _ rfl, by rw [← add_field _ _ 3 (by omega)]; exact hc 3 _ rfl, l3, g3⟩

structure S106 where
  f0 : Int
  f1 : Int
  f2 : (List Int)
def z106 : S106 := ⟨(0 : Int), (0 : Int), ([] : List Int)⟩
def k106 : Kd S106 := Kd.iso (Kd.pair (Kd.int .i64) (Kd.pair (Kd.int .i64) (Kd.slice 3 (Kd.int .i64)))) (fun x : S106 => (x.f0, x.f1, x.f2))
theorem k106_open {w : World} {x : S106} {cs : List Value} (h : k106.K w x cs) : ∃ A2 c2, cs = [.int .i64 x.f0, .int .i64 x.f1, .slice A2 x.f2.length c2] ∧ x.f2.length ≤ c2 ∧ (Kd.int .i64).C w A2 x.f2.length x.f2 := by
  obtain ⟨_, _, rfl, rfl, ⟨_, _, rfl, rfl, ⟨A2, c2, rfl, l2, g2⟩⟩⟩ := h
  exact ⟨A2, c2, rfl, l2, g2⟩
def rd_T106 (xs : List S106) (i : Int) : S106 := xs.getD i.toNat z106
theorem at_T106 {w : World} {A : Option Addr} {n : Nat} {xs : List S106} (h : Kd.C k106 w A n xs) (i : Int) (h0 : 0 ≤ i) (h1 : i < n) : ∃ ad A2 c2, A = some ad ∧ w.cell? (ad.add (i.toNat * 3)) = some (.int .i64 (rd_T106 xs i).f0) ∧ w.cell? ⟨(ad.add (i.toNat * 3)).block, (ad.add (i.toNat * 3)).off + 1, none⟩ = some (.int .i64 (rd_T106 xs i).f1) ∧ w.cell? ⟨(ad.add (i.toNat * 3)).block, (ad.add (i.toNat * 3)).off + 2, none⟩ = some (.slice A2 (rd_T106 xs i).f2.length c2) ∧ (rd_T106 xs i).f2.length ≤ c2 ∧ (Kd.int .i64).C w A2 (rd_T106 xs i).f2.length (rd_T106 xs i).f2 := by
  obtain ⟨ad, c, e, _, hK, hc0⟩ := Kd.C_get h z106 i h0 h1
  have hc : ∀ j u, c[j]? = some u → w.cell? (ad.add (i.toNat * 3 + j)) = some u := hc0
  obtain ⟨A2, c2, rfl, l2, g2⟩ := k106_open hK
  exact ⟨ad, A2, c2, e, hc 0 _ rfl, by rw [← add_field _ _ 1 (by omega)]; exact hc 1 _ rfl, by rw [← add_field _ _ 2 (by omega)]; exact hc 2 _ rfl, l2, g2⟩

structure S100 where
  f0 : (List S106)
  f1 : (List S106)
def z100 : S100 := ⟨([] : List S106), ([] : List S106)⟩
def k100 : Kd S100 := Kd.iso (Kd.pair (Kd.slice 106 k106) (Kd.slice 106 k106)) (fun x : S100 => (x.f0, x.f1))
theorem k100_open {w : World} {x : S100} {cs : List Value} (h : k100.K w x cs) : ∃ A0 c0 A1 c1, cs = [.slice A0 x.f0.length c0, .slice A1 x.f1.length c1] ∧ x.f0.length ≤ c0 ∧ k106.C w A0 x.f0.length x.f0 ∧ x.f1.length ≤ c1 ∧ k106.C w A1 x.f1.length x.f1 := by
  obtain ⟨_, _, rfl, ⟨A0, c0, rfl, l0, g0⟩, ⟨A1, c1, rfl, l1, g1⟩⟩ := h
  exact ⟨A0, c0, A1, c1, rfl, l0, g0, l1, g1⟩
theorem k100_openM {w : World} {base : Nat} {ok : Nat → Prop} {x : S100} {cs : List Value} (h : k100.M w base ok x cs) : ∃ v0 v1, cs = [v0, v1] ∧ k106.R 106 w base ok v0 x.f0 ∧ k106.R 106 w base ok v1 x.f1 := by
  obtain ⟨_, _, rfl, ⟨v0, rfl, g0⟩, ⟨v1, rfl, g1⟩⟩ := h
  exact ⟨v0, v1, rfl, g0, g1⟩
theorem k100_mkM (w : World) (base : Nat) (ok : Nat → Prop) (x : S100) {v0 : Value} (g0 : k106.R 106 w base ok v0 x.f0) {v1 : Value} (g1 : k106.R 106 w base ok v1 x.f1) : k100.M w base ok x [v0, v1] := ⟨[v0], [v1], rfl, ⟨v0, rfl, g0⟩, ⟨v1, rfl, g1⟩⟩
structure S102 where
  f0 : (List S106)
  f1 : (List S106)
def z102 : S102 := ⟨([] : List S106), ([] : List S106)⟩
def k102 : Kd S102 := Kd.iso (Kd.pair (Kd.slice 106 k106) (Kd.slice 106 k106)) (fun x : S102 => (x.f0, x.f1))
theorem k102_open {w : World} {x : S102} {cs : List Value} (h : k102.K w x cs) : ∃ A0 c0 A1 c1, cs = [.slice A0 x.f0.length c0, .slice A1 x.f1.length c1] ∧ x.f0.length ≤ c0 ∧ k106.C w A0 x.f0.length x.f0 ∧ x.f1.length ≤ c1 ∧ k106.C w A1 x.f1.length x.f1 := by
  obtain ⟨_, _, rfl, ⟨A0, c0, rfl, l0, g0⟩, ⟨A1, c1, rfl, l1, g1⟩⟩ := h
  exact ⟨A0, c0, A1, c1, rfl, l0, g0, l1, g1⟩
theorem k102_openM {w : World} {base : Nat} {ok : Nat → Prop} {x : S102} {cs : List Value} (h : k102.M w base ok x cs) : ∃ v0 v1, cs = [v0, v1] ∧ k106.R 106 w base ok v0 x.f0 ∧ k106.R 106 w base ok v1 x.f1 := by
  obtain ⟨_, _, rfl, ⟨v0, rfl, g0⟩, ⟨v1, rfl, g1⟩⟩ := h
  exact ⟨v0, v1, rfl, g0, g1⟩
theorem k102_mkM (w : World) (base : Nat) (ok : Nat → Prop) (x : S102) {v0 : Value} (g0 : k106.R 106 w base ok v0 x.f0) {v1 : Value} (g1 : k106.R 106 w base ok v1 x.f1) : k102.M w base ok x [v0, v1] := ⟨[v0], [v1], rfl, ⟨v0, rfl, g0⟩, ⟨v1, rfl, g1⟩⟩
structure S104 where
  f0 : Int
  f1 : Int
  f2 : Int
  f3 : (List Int)
  f4 : S100
  f5 : S102
  f6 : (List S106)
  f7 : Int
def z104 : S104 := ⟨(0 : Int), (0 : Int), (0 : Int), ([] : List Int), z100, z102, ([] : List S106), (0 : Int)⟩
def k104 : Kd S104 := Kd.iso (Kd.pair (Kd.int .i64) (Kd.pair (Kd.int .i64) (Kd.pair (Kd.int .i64) (Kd.pair (Kd.slice 3 (Kd.int .i64)) (Kd.pair k100 (Kd.pair k102 (Kd.pair (Kd.slice 106 k106) (Kd.int .i64)))))))) (fun x : S104 => (x.f0, x.f1, x.f2, x.f3, x.f4, x.f5, x.f6, x.f7))
theorem k104_open {w : World} {x : S104} {cs : List Value} (h : k104.K w x cs) : ∃ A3 c3 A4 c4 A5 c5 A6 c6 A7 c7 A8 c8, cs = [.int .i64 x.f0, .int .i64 x.f1, .int .i64 x.f2, .slice A3 x.f3.length c3, .slice A4 x.f4.f0.length c4, .slice A5 x.f4.f1.length c5, .slice A6 x.f5.f0.length c6, .slice A7 x.f5.f1.length c7, .slice A8 x.f6.length c8, .int .i64 x.f7] ∧ x.f3.length ≤ c3 ∧ (Kd.int .i64).C w A3 x.f3.length x.f3 ∧ x.f4.f0.length ≤ c4 ∧ k106.C w A4 x.f4.f0.length x.f4.f0 ∧ x.f4.f1.length ≤ c5 ∧ k106.C w A5 x.f4.f1.length x.f4.f1 ∧ x.f5.f0.length ≤ c6 ∧ k106.C w A6 x.f5.f0.length x.f5.f0 ∧ x.f5.f1.length ≤ c7 ∧ k106.C w A7 x.f5.f1.length x.f5.f1 ∧ x.f6.length ≤ c8 ∧ k106.C w A8 x.f6.length x.f6 := by
  obtain ⟨_, _, rfl, rfl, ⟨_, _, rfl, rfl, ⟨_, _, rfl, rfl, ⟨_, _, rfl, ⟨A3, c3, rfl, l3, g3⟩, ⟨_, _, rfl, s4, ⟨_, _, rfl, s6, ⟨_, _, rfl, ⟨A8, c8, rfl, l8, g8⟩, rfl⟩⟩⟩⟩⟩⟩⟩ := h
  obtain ⟨A4, c4, A5, c5, rfl, l4, g4, l5, g5⟩ := k100_open s4
  obtain ⟨A6, c6, A7, c7, rfl, l6, g6, l7, g7⟩ := k102_open s6
  exact ⟨A3, c3, A4, c4, A5, c5, A6, c6, A7, c7, A8, c8, rfl, l3, g3, l4, g4, l5, g5, l6, g6, l7, g7, l8, g8⟩
theorem k104_openM {w : World} {base : Nat} {ok : Nat → Prop} {x : S104} {cs : List Value} (h : k104.M w base ok x cs) : ∃ v3 v4 v5 v6 v7 v8, cs = [.int .i64 x.f0, .int .i64 x.f1, .int .i64 x.f2, v3, v4, v5, v6, v7, v8, .int .i64 x.f7] ∧ (Kd.int .i64).R 3 w base ok v3 x.f3 ∧ k106.R 106 w base ok v4 x.f4.f0 ∧ k106.R 106 w base ok v5 x.f4.f1 ∧ k106.R 106 w base ok v6 x.f5.f0 ∧ k106.R 106 w base ok v7 x.f5.f1 ∧ k106.R 106 w base ok v8 x.f6 := by
  obtain ⟨_, _, rfl, rfl, ⟨_, _, rfl, rfl, ⟨_, _, rfl, rfl, ⟨_, _, rfl, ⟨v3, rfl, g3⟩, ⟨_, _, rfl, s4, ⟨_, _, rfl, s6, ⟨_, _, rfl, ⟨v8, rfl, g8⟩, rfl⟩⟩⟩⟩⟩⟩⟩ := h
  obtain ⟨v4, v5, rfl, g4, g5⟩ := k100_openM s4
  obtain ⟨v6, v7, rfl, g6, g7⟩ := k102_openM s6
  exact ⟨v3, v4, v5, v6, v7, v8, rfl, g3, g4, g5, g6, g7, g8⟩
theorem k104_mkM (w : World) (base : Nat) (ok : Nat → Prop) (x : S104) {v3 : Value} (g3 : (Kd.int .i64).R 3 w base ok v3 x.f3) {v4 : Value} (g4 : k106.R 106 w base ok v4 x.f4.f0) {v5 : Value} (g5 : k106.R 106 w base ok v5 x.f4.f1) {v6 : Value} (g6 : k106.R 106 w base ok v6 x.f5.f0) {v7 : Value} (g7 : k106.R 106 w base ok v7 x.f5.f1) {v8 : Value} (g8 : k106.R 106 w base ok v8 x.f6) : k104.M w base ok x [.int .i64 x.f0, .int .i64 x.f1, .int .i64 x.f2, v3, v4, v5, v6, v7, v8, .int .i64 x.f7] := ⟨[.int .i64 x.f0], [.int .i64 x.f1, .int .i64 x.f2, v3, v4, v5, v6, v7, v8, .int .i64 x.f7], rfl, rfl, ⟨[.int .i64 x.f1], [.int .i64 x.f2, v3, v4, v5, v6, v7, v8, .int .i64 x.f7], rfl, rfl, ⟨[.int .i64 x.f2], [v3, v4, v5, v6, v7, v8, .int .i64 x.f7], rfl, rfl, ⟨[v3], [v4, v5, v6, v7, v8, .int .i64 x.f7], rfl, ⟨v3, rfl, g3⟩, ⟨[v4, v5], [v6, v7, v8, .int .i64 x.f7], rfl, (k100_mkM w base ok x.f4 g4 g5), ⟨[v6, v7], [v8, .int .i64 x.f7], rfl, (k102_mkM w base ok x.f5 g6 g7), ⟨[v8], [.int .i64 x.f7], rfl, ⟨v8, rfl, g8⟩, rfl⟩⟩⟩⟩⟩⟩⟩
def rd_T104 (xs : List S104) (i : Int) : S104 := xs.getD i.toNat z104
theorem at_T104 {w : World} {A : Option Addr} {n : Nat} {xs : List S104} (h : Kd.C k104 w A n xs) (i : Int) (h0 : 0 ≤ i) (h1 : i < n) : ∃ ad A3 c3 A4 c4 A5 c5 A6 c6 A7 c7 A8 c8, A = some ad ∧ w.cell? (ad.add (i.toNat * 10)) = some (.int .i64 (rd_T104 xs i).f0) ∧ w.cell? ⟨(ad.add (i.toNat * 10)).block, (ad.add (i.toNat * 10)).off + 1, none⟩ = some (.int .i64 (rd_T104 xs i).f1) ∧ w.cell? ⟨(ad.add (i.toNat * 10)).block, (ad.add (i.toNat * 10)).off + 2, none⟩ = some (.int .i64 (rd_T104 xs i).f2) ∧ w.cell? ⟨(ad.add (i.toNat * 10)).block, (ad.add (i.toNat * 10)).off + 3, none⟩ = some (.slice A3 (rd_T104 xs i).f3.length c3) ∧ w.cell? ⟨(ad.add (i.toNat * 10)).block, (ad.add (i.toNat * 10)).off + 4, none⟩ = some (.slice A4 (rd_T104 xs i).f4.f0.length c4) ∧ w.cell? ⟨(ad.add (i.toNat * 10)).block, (ad.add (i.toNat * 10)).off + 5, none⟩ = some (.slice A5 (rd_T104 xs i).f4.f1.length c5) ∧ w.cell? ⟨(ad.add (i.toNat * 10)).block, (ad.add (i.toNat * 10)).off + 6, none⟩ = some (.slice A6 (rd_T104 xs i).f5.f0.length c6) ∧ w.cell? ⟨(ad.add (i.toNat * 10)).block, (ad.add (i.toNat * 10)).off + 7, none⟩ = some (.slice A7 (rd_T104 xs i).f5.f1.length c7) ∧ w.cell? ⟨(ad.add (i.toNat * 10)).block, (ad.add (i.toNat * 10)).off + 8, none⟩ = some (.slice A8 (rd_T104 xs i).f6.length c8) ∧ w.cell? ⟨(ad.add (i.toNat * 10)).block, (ad.add (i.toNat * 10)).off + 9, none⟩ = some (.int .i64 (rd_T104 xs i).f7) ∧ (rd_T104 xs i).f3.length ≤ c3 ∧ (Kd.int .i64).C w A3 (rd_T104 xs i).f3.length (rd_T104 xs i).f3 ∧ (rd_T104 xs i).f4.f0.length ≤ c4 ∧ k106.C w A4 (rd_T104 xs i).f4.f0.length (rd_T104 xs i).f4.f0 ∧ (rd_T104 xs i).f4.f1.length ≤ c5 ∧ k106.C w A5 (rd_T104 xs i).f4.f1.length (rd_T104 xs i).f4.f1 ∧ (rd_T104 xs i).f5.f0.length ≤ c6 ∧ k106.C w A6 (rd_T104 xs i).f5.f0.length (rd_T104 xs i).f5.f0 ∧ (rd_T104 xs i).f5.f1.length ≤ c7 ∧ k106.C w A7 (rd_T104 xs i).f5.f1.length (rd_T104 xs i).f5.f1 ∧ (rd_T104 xs i).f6.length ≤ c8 ∧ k106.C w A8 (rd_T104 xs i).f6.length (rd_T104 xs i).f6 := by
  obtain ⟨ad, c, e, _, hK, hc0⟩ := Kd.C_get h z104 i h0 h1
  have hc : ∀ j u, c[j]? = some u → w.cell? (ad.add (i.toNat * 10 + j)) = some u := hc0
  obtain ⟨A3, c3, A4, c4, A5, c5, A6, c6, A7, c7, A8, c8, rfl, l3, g3, l4, g4, l5, g5, l6, g6, l7, g7, l8, g8⟩ := k104_open hK
  exact ⟨ad, A3, c3, A4, c4, A5, c5, A6, c6, A7, c7, A8, c8, e, hc 0 _ rfl, by rw [← add_field _ _ 1 (by omega)]; exact hc 1 _ rfl, by rw [← add_field _ _ 2 (by omega)]; exact hc 2 _ rfl, by rw [← add_field _ _ 3 (by omega)]; exact hc 3 _ rfl, by rw [← add_field _ _ 4 (by omega)]; exact hc 4 _ rfl, by rw [← add_field _ _ 5 (by omega)]; exact hc 5 _ rfl, by rw [← add_field _ _ 6 (by omega)]; exact hc 6 _ rfl, by rw [← add_field _ _ 7 (by omega)]; exact hc 7 _ rfl, by rw [← add_field _ _ 8 (by omega)]; exact hc 8 _ rfl, by rw [← add_field _ _ 9 (by omega)]; exact hc 9 _ rfl, l3, g3, l4, g4, l5, g5, l6, g6, l7, g7, l8, g8⟩

end Go.Proofs.Ytdljhokealbnnaa.M
namespace Go.Proofs.Ytdljhokealbnnaa.M
open Go.RowKit Go.Proofs.YtdljhokealbnnaaW.PrintWords Go.Proofs.Ytdljhokealbnnaa.Opening

inductive good30 : S30 → Prop
  | mk (x : S30) (h0 : (Lit.int .i64 x.f0).wf = true) (h1 : (Lit.int .i64 x.f1).wf = true) (h2 : (Lit.int .i64 x.f2).wf = true) (h3 : x.f3.length ≤ maxLen) (k3 : ∀ y ∈ x.f3, good30 y) : good30 x
theorem good30.fields {x : S30} (h : good30 x) : (Lit.int .i64 x.f0).wf = true ∧ (Lit.int .i64 x.f1).wf = true ∧ (Lit.int .i64 x.f2).wf = true ∧ (x.f3.length ≤ maxLen ∧ ∀ y ∈ x.f3, good30 y) := by
  cases h with
  | mk _ h0 h1 h2 h3 k3 => exact ⟨h0, h1, h2, ⟨h3, k3⟩⟩
theorem opens30 (n : Nat) : OpensAt Try.prog n 30 k30 good30 := by
  refine opens_fix (by kernel_rfl) (fun n h => ?_) n
  generalize Kd.upto F30 _ _ n = d at h ⊢
  exact OpensAt.weak ((opens_struct (d := (Kd.pair (Kd.int .i64) (Kd.pair (Kd.int .i64) (Kd.pair (Kd.int .i64) (Kd.slice 30 d))))) Try.underlying30 (by kernel_rfl) (fields_cons rfl (opens_int Try.underlying3 (by kernel_rfl) n) (fields_cons rfl (opens_int Try.underlying3 (by kernel_rfl) n) (fields_cons rfl (opens_int Try.underlying3 (by kernel_rfl) n) (fields_last rfl ((opens_slice Try.underlying28 (by kernel_rfl) n h).less (Nat.le_succ _))))))).iso (fun x : S30 => (x.f0, x.f1, x.f2, x.f3)) (fun y => ⟨y.1, y.2.1, y.2.2.1, y.2.2.2⟩) (fun _ => rfl)) (fun x hx => good30.mk x hx.1 hx.2.1 hx.2.2.1 hx.2.2.2.1 hx.2.2.2.2)
end Go.Proofs.Ytdljhokealbnnaa.M
namespace Go.Proofs.Ytdljhokealbnnaa.M
open Go.RowKit Go.Proofs.YtdljhokealbnnaaW.PrintWords Go.Proofs.YtdljhokealbnnaaW.PrintLast Go.Proofs.YtdljhokealbnnaaW.PrintMore
theorem bx2 {w : World} {g : Nat} {t : TypeId} {v0 v1 : Value} (h : w.heap[g]? = some (.cells #[v0, v1] t (0, 0))) : w.cell? ⟨g, 0, none⟩ = some v0 ∧ w.cell? ⟨g, 1, none⟩ = some v1 ∧ w.frozen? ⟨g, 0, none⟩ = false ∧ w.frozen? ⟨g, 1, none⟩ = false := ⟨(blk_cell h 0).trans rfl, (blk_cell h 1).trans rfl, blk_frozen h 0, blk_frozen h 1⟩
theorem bx3 {w : World} {g : Nat} {t : TypeId} {v0 v1 v2 : Value} (h : w.heap[g]? = some (.cells #[v0, v1, v2] t (0, 0))) : w.cell? ⟨g, 0, none⟩ = some v0 ∧ w.cell? ⟨g, 1, none⟩ = some v1 ∧ w.cell? ⟨g, 2, none⟩ = some v2 ∧ w.frozen? ⟨g, 0, none⟩ = false ∧ w.frozen? ⟨g, 1, none⟩ = false ∧ w.frozen? ⟨g, 2, none⟩ = false := ⟨(blk_cell h 0).trans rfl, (blk_cell h 1).trans rfl, (blk_cell h 2).trans rfl, blk_frozen h 0, blk_frozen h 1, blk_frozen h 2⟩
theorem bx4 {w : World} {g : Nat} {t : TypeId} {v0 v1 v2 v3 : Value} (h : w.heap[g]? = some (.cells #[v0, v1, v2, v3] t (0, 0))) : w.cell? ⟨g, 0, none⟩ = some v0 ∧ w.cell? ⟨g, 1, none⟩ = some v1 ∧ w.cell? ⟨g, 2, none⟩ = some v2 ∧ w.cell? ⟨g, 3, none⟩ = some v3 ∧ w.frozen? ⟨g, 0, none⟩ = false ∧ w.frozen? ⟨g, 1, none⟩ = false ∧ w.frozen? ⟨g, 2, none⟩ = false ∧ w.frozen? ⟨g, 3, none⟩ = false := ⟨(blk_cell h 0).trans rfl, (blk_cell h 1).trans rfl, (blk_cell h 2).trans rfl, (blk_cell h 3).trans rfl, blk_frozen h 0, blk_frozen h 1, blk_frozen h 2, blk_frozen h 3⟩
theorem bx5 {w : World} {g : Nat} {t : TypeId} {v0 v1 v2 v3 v4 : Value} (h : w.heap[g]? = some (.cells #[v0, v1, v2, v3, v4] t (0, 0))) : w.cell? ⟨g, 0, none⟩ = some v0 ∧ w.cell? ⟨g, 1, none⟩ = some v1 ∧ w.cell? ⟨g, 2, none⟩ = some v2 ∧ w.cell? ⟨g, 3, none⟩ = some v3 ∧ w.cell? ⟨g, 4, none⟩ = some v4 ∧ w.frozen? ⟨g, 0, none⟩ = false ∧ w.frozen? ⟨g, 1, none⟩ = false ∧ w.frozen? ⟨g, 2, none⟩ = false ∧ w.frozen? ⟨g, 3, none⟩ = false ∧ w.frozen? ⟨g, 4, none⟩ = false := ⟨(blk_cell h 0).trans rfl, (blk_cell h 1).trans rfl, (blk_cell h 2).trans rfl, (blk_cell h 3).trans rfl, (blk_cell h 4).trans rfl, blk_frozen h 0, blk_frozen h 1, blk_frozen h 2, blk_frozen h 3, blk_frozen h 4⟩
theorem bx10 {w : World} {g : Nat} {t : TypeId} {v0 v1 v2 v3 v4 v5 v6 v7 v8 v9 : Value} (h : w.heap[g]? = some (.cells #[v0, v1, v2, v3, v4, v5, v6, v7, v8, v9] t (0, 0))) : w.cell? ⟨g, 0, none⟩ = some v0 ∧ w.cell? ⟨g, 1, none⟩ = some v1 ∧ w.cell? ⟨g, 2, none⟩ = some v2 ∧ w.cell? ⟨g, 3, none⟩ = some v3 ∧ w.cell? ⟨g, 4, none⟩ = some v4 ∧ w.cell? ⟨g, 5, none⟩ = some v5 ∧ w.cell? ⟨g, 6, none⟩ = some v6 ∧ w.cell? ⟨g, 7, none⟩ = some v7 ∧ w.cell? ⟨g, 8, none⟩ = some v8 ∧ w.cell? ⟨g, 9, none⟩ = some v9 ∧ w.frozen? ⟨g, 0, none⟩ = false ∧ w.frozen? ⟨g, 1, none⟩ = false ∧ w.frozen? ⟨g, 2, none⟩ = false ∧ w.frozen? ⟨g, 3, none⟩ = false ∧ w.frozen? ⟨g, 4, none⟩ = false ∧ w.frozen? ⟨g, 5, none⟩ = false ∧ w.frozen? ⟨g, 6, none⟩ = false ∧ w.frozen? ⟨g, 7, none⟩ = false ∧ w.frozen? ⟨g, 8, none⟩ = false ∧ w.frozen? ⟨g, 9, none⟩ = false := ⟨(blk_cell h 0).trans rfl, (blk_cell h 1).trans rfl, (blk_cell h 2).trans rfl, (blk_cell h 3).trans rfl, (blk_cell h 4).trans rfl, (blk_cell h 5).trans rfl, (blk_cell h 6).trans rfl, (blk_cell h 7).trans rfl, (blk_cell h 8).trans rfl, (blk_cell h 9).trans rfl, blk_frozen h 0, blk_frozen h 1, blk_frozen h 2, blk_frozen h 3, blk_frozen h 4, blk_frozen h 5, blk_frozen h 6, blk_frozen h 7, blk_frozen h 8, blk_frozen h 9⟩
section
variable {P : Program} {ops : Array Oper} {Q : Exit → Act → World → Prop} {md : Region.Mode} {S : World → Prop} {ds : List Nat}
theorem pu_ {oi : Oper} {fuel : Nat} {l : Array Bool} {a a' : Act} {w : World} (i N : Nat) (l' : Array Bool) (hc : anyB md ops l l' i = true) (h : wpAnyLast P md ops Q S ds fuel l' a' w) (hi : ops[i]? = some oi := by rfl) (hN : oi.dst = some N := by rfl)
    (hw : Region.wanted oi (yielded ops a.tmps) = false := by rfl) (hQ : ∀ c a w, Q (.panic c) (a.put oi.dst undef) w → Q (.panic c) a w := by exact fun _ _ _ h => h) (ha : a.put (some N) undef = a' := by simp only [Act.put, List.setIfInBounds_toArray, List.set_cons_zero, List.set_cons_succ, i64_w, i32_w]; rfl) : wpAnyLast P md ops Q S ds (fuel + 1) l a w :=
  pure_ l' hi hN hc hQ (Or.inr ⟨hw, rfl⟩) ha h
theorem pv_ {oi : Oper} {v : Value} {fuel : Nat} {l : Array Bool} {a a' : Act} {w : World} (i N : Nat) (l' : Array Bool) (hc : anyB md ops l l' i = true) (h : wpAnyLast P md ops Q S ds fuel l' a' w) (hi : ops[i]? = some oi := by rfl) (hN : oi.dst = some N := by rfl)
    (hw : Region.wanted oi (yielded ops a.tmps) = true := by rfl) (hQ : ∀ c a w, Q (.panic c) (a.put oi.dst v) w → Q (.panic c) a w := by exact fun _ _ _ h => h) (hy : ∀ w', (execOp a.eval oi).run P w' = .ok (.value v) w' := by intro w'; go_simp; with_reducible rfl) (ha : a.put (some N) v = a' := by simp only [Act.put, List.setIfInBounds_toArray, List.set_cons_zero, List.set_cons_succ, i64_w, i32_w]; rfl) : wpAnyLast P md ops Q S ds (fuel + 1) l a w :=
  pure_ l' hi hN hc hQ (Or.inl ⟨hw, hy⟩) ha h
end
end Go.Proofs.Ytdljhokealbnnaa.M
namespace Go.Proofs.Ytdljhokealbnnaa.M
open Go.RowKit Go.Proofs.YtdljhokealbnnaaW.PrintWords Go.Proofs.YtdljhokealbnnaaW.PrintLast Go.Proofs.YtdljhokealbnnaaW.PrintMore
attribute [local go_sem] max2_int min2_int max_two min_two max_three min_three max_four min_four
set_option linter.unusedVariables false
set_option linter.unusedSimpArgs false

mutual
def laws_szExS.l0 : Nat → List (S30) → Int → Int → Option (Int)
 | 0, _, _, _ => none
 | k + 1, x0, x1, x5 => if x5 < (x0.length : Int) then (if 0 ≤ x5 then ((laws_szEx.f k ((rd_T30 x0 x5).f0) ((rd_T30 x0 x5).f1) ((rd_T30 x0 x5).f2) ((rd_T30 x0 x5).f3) x1).bind fun t102 => (if t102 < 0 then (some (-1)) else (laws_szExS.l0 k x0 t102 (wrap64 (x5 + 1))))) else (none)) else (some x1)
def laws_szExS.f : Nat → List (S30) → Int → Option (Int)
 | 0, _, _ => none
 | k + 1, l0, a1 => if (wrap64 (a1 - (l0.length : Int))) < 0 then (some (-1)) else (laws_szExS.l0 k l0 (wrap64 (a1 - (l0.length : Int))) 0)
def laws_szEx.f : Nat → Int → Int → Int → List (S30) → Int → Option (Int)
 | 0, _, _, _, _, _ => none
 | k + 1, a0_0, a0_1, a0_2, l0_3, a1 => (laws_szExS.f k l0_3 a1).bind fun t104 => (if t104 < 0 then (some (-1)) else (some t104))
end
set_option maxHeartbeats 8000000 in
set_option maxRecDepth 100000 in
theorem laws_szExS.calls_step (k : Nat) (ih_68 : ∀ k_, k_ < k → ∀ (A0 : Option Addr) (c0 : Nat) (l0 : List (S30)) (a1 : Int) (r : Int) (w : World) (hr0 : Kd.C k30 w A0 l0.length l0) (hc0 : l0.length ≤ c0) (h : laws_szExS.f k_ l0 a1 = some r),
  Calls Try.prog 68 #[.slice A0 l0.length c0, .int .i64 a1] w fun e w' => e = .returned (.int .i64 r) ∧ Below w.heap.size w w') (ih_33 : ∀ k_, k_ < k → ∀ (a0_0 : Int) (a0_1 : Int) (a0_2 : Int) (A0_3 : Option Addr) (c0_3 : Nat) (l0_3 : List (S30)) (a1 : Int) (r : Int) (w : World) (hr0_3 : Kd.C k30 w A0_3 l0_3.length l0_3) (hc0_3 : l0_3.length ≤ c0_3) (h : laws_szEx.f k_ a0_0 a0_1 a0_2 l0_3 a1 = some r),
  Calls Try.prog 33 #[.agg #[.int .i64 a0_0, .int .i64 a0_1, .int .i64 a0_2, .slice A0_3 l0_3.length c0_3], .int .i64 a1] w fun e w' => e = .returned (.int .i64 r) ∧ Below w.heap.size w w') : ∀ (A0 : Option Addr) (c0 : Nat) (l0 : List (S30)) (a1 : Int) (r : Int) (w : World) (hr0 : Kd.C k30 w A0 l0.length l0) (hc0 : l0.length ≤ c0) (h : laws_szExS.f k l0 a1 = some r),
  Calls Try.prog 68 #[.slice A0 l0.length c0, .int .i64 a1] w fun e w' => e = .returned (.int .i64 r) ∧ Below w.heap.size w w' := by
 intro A0 c0 l0 a1 r w hr0 hc0 h
 cases k with
 | zero => exact absurd h (by simp [laws_szExS.f])
 | succ k =>
 simp only [laws_szExS.f] at h
 have hu30 := Try.underlying30
 have HR0 := m0_ hr0
 have HC0 := m0_ hc0
 clear hr0 hc0
 have HB := m0_ (Below.refl w.heap.size w)
 have H : (if (wrap64 (a1 - (l0.length : Int))) < 0 then (some (-1)) else (laws_szExS.l0 k l0 (wrap64 (a1 - (l0.length : Int))) 0)) = some r := h
 clear h
 by_cases c3 : (wrap64 (a1 - (l0.length : Int))) < 0
 ·rw [if_pos c3] at H
  have c3b0 : decide ((wrap64 (a1 - (l0.length : Int))) < 0) = true := decide_eq_true c3
  clear c3
  obtain rfl := Option.some.inj H
  go_enter Try.func68, Try.ntmps68
  go_wp2
  go_ret
  exact ⟨by first | rfl | (simp [errW_none, errW_some] <;> rfl) | (simp [*, errW_none, errW_some] <;> rfl), by repeat (first | (with_reducible first | exact HB.out | apply below_alloc | apply pw_below_drewN | apply below_drew1) | exact HB.out)⟩
 rw [if_neg c3] at H
 have c3b0 : decide ((wrap64 (a1 - (l0.length : Int))) < 0) = false := decide_eq_false c3
 clear c3
 have H' := m0_ H
 clear H
 go_enter Try.func68, Try.ntmps68
 go_wp2
 go_loopg [1, 5] k (fun kq v1 v5 w' => ∃ (x1_1 : Int) (x5_1 : Int), v1 = .int .i64 x1_1 ∧ v5 = .int .i64 x5_1 ∧ Aside0 (laws_szExS.l0 kq l0 x1_1 x5_1 = some r) ∧ Aside0 (kq ≤ k) ∧ Aside0 (Below w.heap.size w w'))
 case atStart => exact ⟨(wrap64 (a1 - (l0.length : Int))), (0), (by first | rfl | (simp;done) | (simp [*];done)), (by first | rfl | (simp;done) | (simp [*];done)), H', ⟨Nat.le_refl _⟩, ⟨by repeat (first | (with_reducible first | exact HB.out | apply below_alloc | apply pw_below_drewN | apply below_drew1) | exact HB.out)⟩⟩
 case round =>
  clear H'
  try clear p2
  try clear c3
  try clear c3b0
  obtain ⟨x1_1, x5_1, rfl, rfl, HA, HK1, HB⟩ := hrel
  cases gk with
  | zero => exact absurd HA.out (by simp [laws_szExS.l0])
  | succ k1 =>
   have H := HA.out
   clear HA
   simp only [laws_szExS.l0] at H
   by_cases c4 : x5_1 < (l0.length : Int)
   rotate_left
   ·rw [if_neg c4] at H
    have c4b0 : decide (x5_1 < (l0.length : Int)) = false := decide_eq_false c4
    clear c4
    obtain rfl := Option.some.inj H
    go_wp2
    go_ret
    exact ⟨by first | rfl | (simp [errW_none, errW_some] <;> rfl) | (simp [*, errW_none, errW_some] <;> rfl), by repeat (first | (with_reducible first | exact HB.out | apply below_alloc | apply pw_below_drewN | apply below_drew1) | exact HB.out)⟩
   rw [if_pos c4] at H
   have c4b0 : decide (x5_1 < (l0.length : Int)) = true := decide_eq_true c4
   clear c4
   by_cases c5 : 0 ≤ x5_1
   rotate_left
   ·rw [if_neg c5] at H
    exact absurd H (by simp)
   rw [if_pos c5] at H
   have c5b0 : decide (0 ≤ x5_1) = true := decide_eq_true c5
   clear c5
   replace H := Option.bind_eq_some_iff.mp H
   obtain ⟨t102, A60, H⟩ := H
   replace H : (if t102 < 0 then (some (-1)) else (laws_szExS.l0 k1 l0 t102 (wrap64 (x5_1 + 1)))) = some r := H
   have A6 := m0_ A60
   clear A60
   by_cases c7 : t102 < 0
   ·rw [if_pos c7] at H
    have c7b0 : decide (t102 < 0) = true := decide_eq_true c7
    clear c7
    obtain rfl := Option.some.inj H
    have p101 : 0 ≤ (x5_1 : Int) := of_decide_eq_true (by first | (with_reducible assumption) | assumption)
    have q101 : x5_1 < (l0.length : Int) := of_decide_eq_true (by first | (with_reducible assumption) | assumption)
    obtain ⟨ad101, A101_3, c101_3, e101, hx101_0, hx101_1, hx101_2, hx101_3, hl101_3, hi101_3⟩ := at_T30 HR0.out x5_1 p101 q101
    cases e101
    replace hx101_0 := (HB.out.cell (World.block_lt_of_cell? w _ hx101_0)).trans hx101_0
    replace hx101_1 := (HB.out.cell (World.block_lt_of_cell? w _ hx101_1)).trans hx101_1
    replace hx101_2 := (HB.out.cell (World.block_lt_of_cell? w _ hx101_2)).trans hx101_2
    replace hx101_3 := (HB.out.cell (World.block_lt_of_cell? w _ hx101_3)).trans hx101_3
    have HR101_3 := m0_ hi101_3
    have HC101_3 := m0_ hl101_3
    clear hi101_3 hl101_3
    replace p101 := eq_true p101
    replace q101 := eq_true q101
    go_wp2_with (first | ((with_reducible refine gate_callee (f := 33) rfl ?_);refine goesL_ (some 23) rfl rfl Try.func33 (by kernel_rfl) rfl #[.agg #[.int .i64 ((rd_T30 l0 x5_1).f0), .int .i64 ((rd_T30 l0 x5_1).f1), .int .i64 ((rd_T30 l0 x5_1).f2), .slice A101_3 ((rd_T30 l0 x5_1).f3).length c101_3], .int .i64 x1_1] rfl (by (try simp only [List.map_toArray, List.map_cons, List.map_nil]);first | done | rfl | (simp only [List.length_drop, List.length_take];rfl)) ?_;(with_reducible refine (ih_33 k1 (by have := HK1.out;omega) ((rd_T30 l0 x5_1).f0) ((rd_T30 l0 x5_1).f1) ((rd_T30 l0 x5_1).f2) _ _ ((rd_T30 l0 x5_1).f3) x1_1 t102 _ ?side1 ?side2 A6.out).mono ?_);(case side1 => repeat (first | exact (Kd.C_below HR101_3.out HB.out) | (with_reducible refine Kd.C_alloc ?_ _) | (with_reducible refine Kd.C_drewN ?_ _) | (with_reducible refine Kd.C_drew ?_)));(case side2 => exact HC101_3.out);rintro e w8 ⟨rfl, hb⟩;refine ⟨_, rfl, ?_⟩;replace HB := m0_ (below_step (by exact HB.out) hb);(try clear hb);(try clear hb2);(try clear hk);(try clear hi)))
    go_ret
    exact ⟨by first | rfl | (simp [errW_none, errW_some] <;> rfl) | (simp [*, errW_none, errW_some] <;> rfl), by repeat (first | (with_reducible first | exact HB.out | apply below_alloc | apply pw_below_drewN | apply below_drew1) | exact HB.out)⟩
   rw [if_neg c7] at H
   have c7b0 : decide (t102 < 0) = false := decide_eq_false c7
   clear c7
   have H' := m0_ H
   clear H
   have p101 : 0 ≤ (x5_1 : Int) := of_decide_eq_true (by first | (with_reducible assumption) | assumption)
   have q101 : x5_1 < (l0.length : Int) := of_decide_eq_true (by first | (with_reducible assumption) | assumption)
   obtain ⟨ad101, A101_3, c101_3, e101, hx101_0, hx101_1, hx101_2, hx101_3, hl101_3, hi101_3⟩ := at_T30 HR0.out x5_1 p101 q101
   cases e101
   replace hx101_0 := (HB.out.cell (World.block_lt_of_cell? w _ hx101_0)).trans hx101_0
   replace hx101_1 := (HB.out.cell (World.block_lt_of_cell? w _ hx101_1)).trans hx101_1
   replace hx101_2 := (HB.out.cell (World.block_lt_of_cell? w _ hx101_2)).trans hx101_2
   replace hx101_3 := (HB.out.cell (World.block_lt_of_cell? w _ hx101_3)).trans hx101_3
   have HR101_3 := m0_ hi101_3
   have HC101_3 := m0_ hl101_3
   clear hi101_3 hl101_3
   replace p101 := eq_true p101
   replace q101 := eq_true q101
   go_wp2_with (first | ((with_reducible refine gate_callee (f := 33) rfl ?_);refine goesL_ (some 23) rfl rfl Try.func33 (by kernel_rfl) rfl #[.agg #[.int .i64 ((rd_T30 l0 x5_1).f0), .int .i64 ((rd_T30 l0 x5_1).f1), .int .i64 ((rd_T30 l0 x5_1).f2), .slice A101_3 ((rd_T30 l0 x5_1).f3).length c101_3], .int .i64 x1_1] rfl (by (try simp only [List.map_toArray, List.map_cons, List.map_nil]);first | done | rfl | (simp only [List.length_drop, List.length_take];rfl)) ?_;(with_reducible refine (ih_33 k1 (by have := HK1.out;omega) ((rd_T30 l0 x5_1).f0) ((rd_T30 l0 x5_1).f1) ((rd_T30 l0 x5_1).f2) _ _ ((rd_T30 l0 x5_1).f3) x1_1 t102 _ ?side1 ?side2 A6.out).mono ?_);(case side1 => repeat (first | exact (Kd.C_below HR101_3.out HB.out) | (with_reducible refine Kd.C_alloc ?_ _) | (with_reducible refine Kd.C_drewN ?_ _) | (with_reducible refine Kd.C_drew ?_)));(case side2 => exact HC101_3.out);rintro e w9 ⟨rfl, hb⟩;refine ⟨_, rfl, ?_⟩;replace HB := m0_ (below_step (by exact HB.out) hb);(try clear hb);(try clear hb2);(try clear hk);(try clear hi)))
   go_roundg k1
   case measure => have := HK1.out;omega
   case rel => exact ⟨(t102), (wrap64 (x5_1 + 1)), (by first | rfl | (simp;done) | (simp [*];done)), (by first | rfl | (simp;done) | (simp [*];done)), H', ⟨by have := HK1.out;omega⟩, ⟨by repeat (first | (with_reducible first | exact HB.out | apply below_alloc | apply pw_below_drewN | apply below_drew1) | exact HB.out)⟩⟩


set_option maxHeartbeats 8000000 in
set_option maxRecDepth 100000 in
theorem laws_szEx.calls_step (k : Nat) (ih_68 : ∀ k_, k_ < k → ∀ (A0 : Option Addr) (c0 : Nat) (l0 : List (S30)) (a1 : Int) (r : Int) (w : World) (hr0 : Kd.C k30 w A0 l0.length l0) (hc0 : l0.length ≤ c0) (h : laws_szExS.f k_ l0 a1 = some r),
  Calls Try.prog 68 #[.slice A0 l0.length c0, .int .i64 a1] w fun e w' => e = .returned (.int .i64 r) ∧ Below w.heap.size w w') (ih_33 : ∀ k_, k_ < k → ∀ (a0_0 : Int) (a0_1 : Int) (a0_2 : Int) (A0_3 : Option Addr) (c0_3 : Nat) (l0_3 : List (S30)) (a1 : Int) (r : Int) (w : World) (hr0_3 : Kd.C k30 w A0_3 l0_3.length l0_3) (hc0_3 : l0_3.length ≤ c0_3) (h : laws_szEx.f k_ a0_0 a0_1 a0_2 l0_3 a1 = some r),
  Calls Try.prog 33 #[.agg #[.int .i64 a0_0, .int .i64 a0_1, .int .i64 a0_2, .slice A0_3 l0_3.length c0_3], .int .i64 a1] w fun e w' => e = .returned (.int .i64 r) ∧ Below w.heap.size w w') : ∀ (a0_0 : Int) (a0_1 : Int) (a0_2 : Int) (A0_3 : Option Addr) (c0_3 : Nat) (l0_3 : List (S30)) (a1 : Int) (r : Int) (w : World) (hr0_3 : Kd.C k30 w A0_3 l0_3.length l0_3) (hc0_3 : l0_3.length ≤ c0_3) (h : laws_szEx.f k a0_0 a0_1 a0_2 l0_3 a1 = some r),
  Calls Try.prog 33 #[.agg #[.int .i64 a0_0, .int .i64 a0_1, .int .i64 a0_2, .slice A0_3 l0_3.length c0_3], .int .i64 a1] w fun e w' => e = .returned (.int .i64 r) ∧ Below w.heap.size w w' := by
 intro a0_0 a0_1 a0_2 A0_3 c0_3 l0_3 a1 r w hr0_3 hc0_3 h
 cases k with
 | zero => exact absurd h (by simp [laws_szEx.f])
 | succ k =>
 simp only [laws_szEx.f] at h
 have hu30 := Try.underlying30
 have HR0_3 := m0_ hr0_3
 have HC0_3 := m0_ hc0_3
 clear hr0_3 hc0_3
 have HB := m0_ (Below.refl w.heap.size w)
 have H : ((laws_szExS.f k l0_3 a1).bind fun t104 => (if t104 < 0 then (some (-1)) else (some t104))) = some r := h
 clear h
 replace H := Option.bind_eq_some_iff.mp H
 obtain ⟨t104, A30, H⟩ := H
 replace H : (if t104 < 0 then (some (-1)) else (some t104)) = some r := H
 have A3 := m0_ A30
 clear A30
 by_cases c4 : t104 < 0
 ·rw [if_pos c4] at H
  have c4b0 : decide (t104 < 0) = true := decide_eq_true c4
  clear c4
  obtain rfl := Option.some.inj H
  go_enter Try.func33, Try.ntmps33
  go_wp2_with (first | ((with_reducible refine gate_dst (N := 2) rfl ?_);refine box_event ?hg (N := 2) ?hd (cs := #[.int .i64 a0_0, .int .i64 a0_1, .int .i64 a0_2, .slice A0_3 l0_3.length c0_3]) (t := 30) ?hr ?_;(case hd => rfl);(case hg => rfl);(case hr => first | (go_simp;done) | (go_simp;rfl));intro gb103 hg w5 hbox hb;have BK103 := m0_ (hbox);have GW103 := m0_ ((by rw [hg];exact (below_size (by exact HB.out)) : w.heap.size ≤ gb103));have GE103 := m0_ ((by rw [hg];exact (below_size (by exact HB.out)) : w.heap.size ≤ gb103));replace HB := m0_ (below_step (by exact HB.out) hb);clear hb hbox hg;obtain ⟨hcz6_0, hcz6_1, hcz6_2, hcz6_3, hfz6_0, hfz6_1, hfz6_2, hfz6_3⟩ := bx4 BK103.out) | ((with_reducible refine gate_callee (f := 68) rfl ?_);refine goesL_ (some 8) rfl rfl Try.func68 (by kernel_rfl) rfl #[.slice A0_3 l0_3.length c0_3, .int .i64 a1] rfl (by (try simp only [List.map_toArray, List.map_cons, List.map_nil]);first | done | rfl | (simp only [List.length_drop, List.length_take];rfl)) ?_;(with_reducible refine (ih_68 k (by omega) _ _ l0_3 a1 t104 _ ?side1 ?side2 A3.out).mono ?_);(case side1 => repeat (first | exact (Kd.C_below HR0_3.out HB.out) | (with_reducible refine Kd.C_alloc ?_ _) | (with_reducible refine Kd.C_drewN ?_ _) | (with_reducible refine Kd.C_drew ?_)));(case side2 => exact HC0_3.out);rintro e w7 ⟨rfl, hb⟩;refine ⟨_, rfl, ?_⟩;replace BK103 := m0_ (blk_below BK103.out hb);replace HB := m0_ (below_step (by exact HB.out) hb);(try clear hb);(try clear hb2);(try clear hk);(try clear hi)))
  go_ret
  exact ⟨by first | rfl | (simp [errW_none, errW_some] <;> rfl) | (simp [*, errW_none, errW_some] <;> rfl), by repeat (first | (with_reducible first | exact HB.out | apply below_alloc | apply pw_below_drewN | apply below_drew1 | refine below_set ?_ GE103.out) | exact HB.out)⟩
 ·rw [if_neg c4] at H
  have c4b0 : decide (t104 < 0) = false := decide_eq_false c4
  clear c4
  obtain rfl := Option.some.inj H
  go_enter Try.func33, Try.ntmps33
  go_wp2_with (first | ((with_reducible refine gate_dst (N := 2) rfl ?_);refine box_event ?hg (N := 2) ?hd (cs := #[.int .i64 a0_0, .int .i64 a0_1, .int .i64 a0_2, .slice A0_3 l0_3.length c0_3]) (t := 30) ?hr ?_;(case hd => rfl);(case hg => rfl);(case hr => first | (go_simp;done) | (go_simp;rfl));intro gb103 hg w8 hbox hb;have BK103 := m0_ (hbox);have GW103 := m0_ ((by rw [hg];exact (below_size (by exact HB.out)) : w.heap.size ≤ gb103));have GE103 := m0_ ((by rw [hg];exact (below_size (by exact HB.out)) : w.heap.size ≤ gb103));replace HB := m0_ (below_step (by exact HB.out) hb);clear hb hbox hg;obtain ⟨hcz9_0, hcz9_1, hcz9_2, hcz9_3, hfz9_0, hfz9_1, hfz9_2, hfz9_3⟩ := bx4 BK103.out) | ((with_reducible refine gate_callee (f := 68) rfl ?_);refine goesL_ (some 8) rfl rfl Try.func68 (by kernel_rfl) rfl #[.slice A0_3 l0_3.length c0_3, .int .i64 a1] rfl (by (try simp only [List.map_toArray, List.map_cons, List.map_nil]);first | done | rfl | (simp only [List.length_drop, List.length_take];rfl)) ?_;(with_reducible refine (ih_68 k (by omega) _ _ l0_3 a1 t104 _ ?side1 ?side2 A3.out).mono ?_);(case side1 => repeat (first | exact (Kd.C_below HR0_3.out HB.out) | (with_reducible refine Kd.C_alloc ?_ _) | (with_reducible refine Kd.C_drewN ?_ _) | (with_reducible refine Kd.C_drew ?_)));(case side2 => exact HC0_3.out);rintro e w10 ⟨rfl, hb⟩;refine ⟨_, rfl, ?_⟩;replace BK103 := m0_ (blk_below BK103.out hb);replace HB := m0_ (below_step (by exact HB.out) hb);(try clear hb);(try clear hb2);(try clear hk);(try clear hi)))
  go_ret
  exact ⟨by first | rfl | (simp [errW_none, errW_some] <;> rfl) | (simp [*, errW_none, errW_some] <;> rfl), by repeat (first | (with_reducible first | exact HB.out | apply below_alloc | apply pw_below_drewN | apply below_drew1 | refine below_set ?_ GE103.out) | exact HB.out)⟩

theorem laws_szExS.calls_all (k : Nat) : (∀ (A0 : Option Addr) (c0 : Nat) (l0 : List (S30)) (a1 : Int) (r : Int) (w : World) (hr0 : Kd.C k30 w A0 l0.length l0) (hc0 : l0.length ≤ c0) (h : laws_szExS.f k l0 a1 = some r),
  Calls Try.prog 68 #[.slice A0 l0.length c0, .int .i64 a1] w fun e w' => e = .returned (.int .i64 r) ∧ Below w.heap.size w w') ∧ (∀ (a0_0 : Int) (a0_1 : Int) (a0_2 : Int) (A0_3 : Option Addr) (c0_3 : Nat) (l0_3 : List (S30)) (a1 : Int) (r : Int) (w : World) (hr0_3 : Kd.C k30 w A0_3 l0_3.length l0_3) (hc0_3 : l0_3.length ≤ c0_3) (h : laws_szEx.f k a0_0 a0_1 a0_2 l0_3 a1 = some r),
  Calls Try.prog 33 #[.agg #[.int .i64 a0_0, .int .i64 a0_1, .int .i64 a0_2, .slice A0_3 l0_3.length c0_3], .int .i64 a1] w fun e w' => e = .returned (.int .i64 r) ∧ Below w.heap.size w w') := by
 induction k using Nat.strongRecOn with
 | _ k ih =>
 exact ⟨laws_szExS.calls_step k (fun k_ h_ => (ih k_ h_).1) (fun k_ h_ => (ih k_ h_).2), laws_szEx.calls_step k (fun k_ h_ => (ih k_ h_).1) (fun k_ h_ => (ih k_ h_).2)⟩
theorem laws_szEx.calls (k : Nat) : ∀ (a0_0 : Int) (a0_1 : Int) (a0_2 : Int) (A0_3 : Option Addr) (c0_3 : Nat) (l0_3 : List (S30)) (a1 : Int) (r : Int) (w : World) (hr0_3 : Kd.C k30 w A0_3 l0_3.length l0_3) (hc0_3 : l0_3.length ≤ c0_3) (h : laws_szEx.f k a0_0 a0_1 a0_2 l0_3 a1 = some r),
  Calls Try.prog 33 #[.agg #[.int .i64 a0_0, .int .i64 a0_1, .int .i64 a0_2, .slice A0_3 l0_3.length c0_3], .int .i64 a1] w fun e w' => e = .returned (.int .i64 r) ∧ Below w.heap.size w w' := (laws_szExS.calls_all k).2

mutual
def laws_toExS.l0 : Nat → List (S30) → List (S37) → Int → Option ((List (S37)))
 | 0, _, _, _ => none
 | k + 1, x0, x3, x4 => if x4 < (x0.length : Int) then (if 0 ≤ x4 then ((laws_toEx.f k ((rd_T30 x0 x4).f0) ((rd_T30 x0 x4).f1) ((rd_T30 x0 x4).f2) ((rd_T30 x0 x4).f3)).bind fun bt105 => (if x4 < (x3.length : Int) then (laws_toExS.l0 k x0 (x3.set (x4 : Int).toNat (⟨bt105.1, bt105.2.1, bt105.2.2.1, bt105.2.2.2⟩ : S37)) (wrap64 (x4 + 1))) else (none))) else (none)) else (some x3)
def laws_toExS.f : Nat → List (S30) → Option ((List (S37)))
 | 0, _ => none
 | k + 1, l0 => if 0 ≤ (l0.length : Int) then (if ((l0.length : Int) : Int).toNat ≤ 5864062014805 then (laws_toExS.l0 k l0 (List.replicate ((l0.length : Int) : Int).toNat z37) 0) else (none)) else (none)
def laws_toEx.f : Nat → Int → Int → Int → List (S30) → Option (Int × Int × Int × (List (S37)))
 | 0, _, _, _, _ => none
 | k + 1, a0_0, a0_1, a0_2, l0_3 => (laws_toExS.f k l0_3).bind fun t115 => (some (a0_0, a0_1, a0_2, t115))
end
set_option maxHeartbeats 8000000 in
set_option maxRecDepth 100000 in
theorem laws_toExS.calls_step (k : Nat) (ih_69 : ∀ k_, k_ < k → ∀ (A0 : Option Addr) (c0 : Nat) (l0 : List (S30)) (r : List (S37)) (w : World) (hr0 : Kd.C k30 w A0 l0.length l0) (hc0 : l0.length ≤ c0) (h : laws_toExS.f k_ l0 = some r),
  Calls Try.prog 69 #[.slice A0 l0.length c0] w fun e w' => ∃ v0_ : Value, e = .returned (v0_) ∧ Kd.R k37 37 w' w.heap.size (fun _ => True) v0_ r ∧ Below w.heap.size w w') (ih_35 : ∀ k_, k_ < k → ∀ (a0_0 : Int) (a0_1 : Int) (a0_2 : Int) (A0_3 : Option Addr) (c0_3 : Nat) (l0_3 : List (S30)) (r1 : Int) (r2 : Int) (r3 : Int) (r4 : List (S37)) (w : World) (hr0_3 : Kd.C k30 w A0_3 l0_3.length l0_3) (hc0_3 : l0_3.length ≤ c0_3) (h : laws_toEx.f k_ a0_0 a0_1 a0_2 l0_3 = some (r1, r2, r3, r4)),
  Calls Try.prog 35 #[.agg #[.int .i64 a0_0, .int .i64 a0_1, .int .i64 a0_2, .slice A0_3 l0_3.length c0_3]] w fun e w' => ∃ v3_ : Value, e = .returned (.agg #[.int .i64 r1, .int .i64 r2, .int .i64 r3, v3_]) ∧ Kd.R k37 37 w' w.heap.size (fun _ => True) v3_ r4 ∧ Below w.heap.size w w') : ∀ (A0 : Option Addr) (c0 : Nat) (l0 : List (S30)) (r : List (S37)) (w : World) (hr0 : Kd.C k30 w A0 l0.length l0) (hc0 : l0.length ≤ c0) (h : laws_toExS.f k l0 = some r),
  Calls Try.prog 69 #[.slice A0 l0.length c0] w fun e w' => ∃ v0_ : Value, e = .returned (v0_) ∧ Kd.R k37 37 w' w.heap.size (fun _ => True) v0_ r ∧ Below w.heap.size w w' := by
 intro A0 c0 l0 r w hr0 hc0 h
 cases k with
 | zero => exact absurd h (by simp [laws_toExS.f])
 | succ k =>
 simp only [laws_toExS.f] at h
 have hu30 := Try.underlying30
 have hu37 := Try.underlying37
 have HR0 := m0_ hr0
 have HC0 := m0_ hc0
 clear hr0 hc0
 have HB := m0_ (Below.refl w.heap.size w)
 have H : (if 0 ≤ (l0.length : Int) then (if ((l0.length : Int) : Int).toNat ≤ 5864062014805 then (laws_toExS.l0 k l0 (List.replicate ((l0.length : Int) : Int).toNat z37) 0) else (none)) else (none)) = some r := h
 clear h
 by_cases c2 : 0 ≤ (l0.length : Int)
 rotate_left
 ·rw [if_neg c2] at H
  exact absurd H (by simp)
 rw [if_pos c2] at H
 have c2b0 := eq_true c2
 have c2b1 : decide (0 ≤ (l0.length : Int)) = true := decide_eq_true c2
 clear c2
 by_cases c3 : ((l0.length : Int) : Int).toNat ≤ 5864062014805
 rotate_left
 ·rw [if_neg c3] at H
  exact absurd H (by simp)
 rw [if_pos c3] at H
 have c3b0 := eq_true c3
 have c3b1 : decide (((l0.length : Int) : Int).toNat ≤ 5864062014805) = true := decide_eq_true c3
 clear c3
 obtain ⟨y101, hy101⟩ : ∃ y_ : List (S37), y_ = (List.replicate ((l0.length : Int) : Int).toNat z37) := ⟨_, rfl⟩
 replace H : (laws_toExS.l0 k l0 y101 0) = some r := by first | (rw [hy101];with_reducible exact H) | (have H2_ := (Option.bind_some _ _).symm.trans H;rw [hy101];with_reducible exact H2_) | (have H2_ := (Option.bind_some _ _).symm.trans H;with_reducible exact H2_) | with_reducible exact H | (rw [hy101];exact H) | exact H
 have Ny101 := m0_ hy101
 clear hy101
 have H' := m0_ H
 clear H
 go_enter Try.func69, Try.ntmps69
 go_wp2_with (first | ((with_reducible refine gate_dst (N := 7) rfl ?_);refine Kd.R_make k37 _ 37 rfl (N := 7) rfl 35 _ _ rfl (l0.length : Int) rfl rfl Try.underlying35 (.agg #[(.int .i64 0), (.int .i64 0), (.int .i64 0), (.slice none 0 0)]) 48 info37 rfl (by decide) (by omega) z37 (ok := fun _ => True) (okp := fun _ => True) (k37_mkM _ _ _ z37 (Kd.R_nil _ _ _ _ _)) (fun _ hk => hk) trivial (of_decide_eq_true (by first | (with_reducible assumption) | assumption)) (Nat.le_trans (Nat.mul_le_mul_right _ (of_decide_eq_true (by first | (with_reducible assumption) | assumption) : (l0.length : Int).toNat ≤ 5864062014805)) (by omega)) (Below.refl _ _) (Nat.le_refl _) ?_;intro v102 w4 ho5 hb hg_ hnew_;clear hg_ hnew_;(first | rw [← Ny101.out] at ho5 | (simp only [Int.reduceToNat] at ho5;rw [← Ny101.out] at ho5));have n0_ := m0_ (Kd.R_lower ho5 (below_size (by repeat (first | (with_reducible first | exact HB.out | apply below_alloc | apply pw_below_drewN | apply below_drew1) | exact HB.out))));have n1_ := m0_ (below_step (by repeat (first | (with_reducible first | exact HB.out | apply below_alloc | apply pw_below_drewN | apply below_drew1) | exact HB.out)) hb);clear HB;have HO103 := n0_;have HB := n1_;clear n0_ n1_;clear hb ho5))
 go_loopg [4] k (fun kq v4 w' => ∃ (x3_1 : List (S37)) (x4_1 : Int), v4 = .int .i64 x4_1 ∧ Aside0 (laws_toExS.l0 kq l0 x3_1 x4_1 = some r) ∧ Aside0 (kq ≤ k) ∧ Aside0 (Kd.R k37 37 w' w.heap.size (fun _ => True) v102 x3_1) ∧ Aside0 (Below w.heap.size w w'))
 case atStart => exact ⟨(y101), (0), (by first | rfl | (simp;done) | (simp [*];done)), H', ⟨Nat.le_refl _⟩, ⟨by (with_reducible repeat (first | apply Kd.R_alloc | apply Kd.R_drewN | apply Kd.R_drew));exact HO103.out⟩, ⟨by repeat (first | (with_reducible first | exact HB.out | apply below_alloc | apply pw_below_drewN | apply below_drew1) | exact HB.out)⟩⟩
 case round =>
  clear H'
  try clear c2
  try clear c2b0
  try clear c2b1
  try clear p2
  try clear c3
  try clear c3b0
  try clear c3b1
  obtain ⟨x3_1, x4_1, rfl, HA, HK1, HO_3, HB⟩ := hrel
  cases gk with
  | zero => exact absurd HA.out (by simp [laws_toExS.l0])
  | succ k1 =>
   have H := HA.out
   clear HA
   simp only [laws_toExS.l0] at H
   by_cases c6 : x4_1 < (l0.length : Int)
   rotate_left
   ·rw [if_neg c6] at H
    have c6b0 : decide (x4_1 < (l0.length : Int)) = false := decide_eq_false c6
    clear c6
    obtain rfl := Option.some.inj H
    go_wp2
    go_ret
    exact ⟨_, by first | rfl | (simp [errW_none, errW_some] <;> rfl) | (simp [*, errW_none, errW_some] <;> rfl), by (with_reducible repeat (first | apply Kd.R_alloc | apply Kd.R_drewN | apply Kd.R_drew));exact HO_3.out, by repeat (first | (with_reducible first | exact HB.out | apply below_alloc | apply pw_below_drewN | apply below_drew1) | exact HB.out)⟩
   rw [if_pos c6] at H
   have c6b0 : decide (x4_1 < (l0.length : Int)) = true := decide_eq_true c6
   clear c6
   by_cases c7 : 0 ≤ x4_1
   rotate_left
   ·rw [if_neg c7] at H
    exact absurd H (by simp)
   rw [if_pos c7] at H
   have c7b0 : decide (0 ≤ x4_1) = true := decide_eq_true c7
   clear c7
   replace H := Option.bind_eq_some_iff.mp H
   obtain ⟨⟨t105, t106, t107, t108⟩, A80, H⟩ := H
   replace H : (if x4_1 < (x3_1.length : Int) then (laws_toExS.l0 k1 l0 (x3_1.set (x4_1 : Int).toNat (⟨t105, t106, t107, t108⟩ : S37)) (wrap64 (x4_1 + 1))) else (none)) = some r := H
   have A8 := m0_ A80
   clear A80
   by_cases c9 : x4_1 < (x3_1.length : Int)
   rotate_left
   ·rw [if_neg c9] at H
    exact absurd H (by simp)
   rw [if_pos c9] at H
   have c9b0 : decide (x4_1 < (x3_1.length : Int)) = true := decide_eq_true c9
   clear c9
   obtain ⟨y111, hy111⟩ : ∃ y_ : List (S37), y_ = (x3_1.set (x4_1 : Int).toNat (⟨t105, t106, t107, t108⟩ : S37)) := ⟨_, rfl⟩
   replace H : (laws_toExS.l0 k1 l0 y111 (wrap64 (x4_1 + 1))) = some r := by first | (rw [hy111];with_reducible exact H) | (have H2_ := (Option.bind_some _ _).symm.trans H;rw [hy111];with_reducible exact H2_) | (have H2_ := (Option.bind_some _ _).symm.trans H;with_reducible exact H2_) | with_reducible exact H | (rw [hy111];exact H) | exact H
   have Ny111 := m0_ hy111
   clear hy111
   have H' := m0_ H
   clear H
   have p104 : 0 ≤ (x4_1 : Int) := of_decide_eq_true (by first | (with_reducible assumption) | assumption)
   have q104 : x4_1 < (l0.length : Int) := of_decide_eq_true (by first | (with_reducible assumption) | assumption)
   obtain ⟨ad104, A104_3, c104_3, e104, hx104_0, hx104_1, hx104_2, hx104_3, hl104_3, hi104_3⟩ := at_T30 HR0.out x4_1 p104 q104
   cases e104
   replace hx104_0 := (HB.out.cell (World.block_lt_of_cell? w _ hx104_0)).trans hx104_0
   replace hx104_1 := (HB.out.cell (World.block_lt_of_cell? w _ hx104_1)).trans hx104_1
   replace hx104_2 := (HB.out.cell (World.block_lt_of_cell? w _ hx104_2)).trans hx104_2
   replace hx104_3 := (HB.out.cell (World.block_lt_of_cell? w _ hx104_3)).trans hx104_3
   have HR104_3 := m0_ hi104_3
   have HC104_3 := m0_ hl104_3
   clear hi104_3 hl104_3
   replace p104 := eq_true p104
   replace q104 := eq_true q104
   go_wp2_with (first | ((with_reducible refine gate_callee (f := 35) rfl ?_);refine goesL_ (some 20) rfl rfl Try.func35 (by kernel_rfl) rfl #[.agg #[.int .i64 ((rd_T30 l0 x4_1).f0), .int .i64 ((rd_T30 l0 x4_1).f1), .int .i64 ((rd_T30 l0 x4_1).f2), .slice A104_3 ((rd_T30 l0 x4_1).f3).length c104_3]] rfl (by (try simp only [List.map_toArray, List.map_cons, List.map_nil]);first | done | rfl | (simp only [List.length_drop, List.length_take];rfl)) ?_;(with_reducible refine (ih_35 k1 (by have := HK1.out;omega) ((rd_T30 l0 x4_1).f0) ((rd_T30 l0 x4_1).f1) ((rd_T30 l0 x4_1).f2) _ _ ((rd_T30 l0 x4_1).f3) t105 t106 t107 t108 _ ?side1 ?side2 A8.out).mono ?_);(case side1 => repeat (first | exact (Kd.C_below HR104_3.out HB.out) | (with_reducible refine Kd.C_alloc ?_ _) | (with_reducible refine Kd.C_drewN ?_ _) | (with_reducible refine Kd.C_drew ?_)));(case side2 => exact HC104_3.out);rintro e w11 ⟨v109, rfl, ho0, hb⟩;refine ⟨_, rfl, ?_⟩;have n0_ := m0_ (Kd.R_elder' (by (with_reducible repeat (first | apply Kd.R_alloc | apply Kd.R_drewN | apply Kd.R_drew));exact HO_3.out) (Kd.R_base ho0) hb);have n1_ := m0_ (Kd.R_lower (Kd.R_new' ho0 (Kd.R_lt (by (with_reducible repeat (first | apply Kd.R_alloc | apply Kd.R_drewN | apply Kd.R_drew));exact HO_3.out))) (below_size (by repeat (first | (with_reducible first | exact HB.out | apply below_alloc | apply pw_below_drewN | apply below_drew1) | exact HB.out))));have n2_ := m0_ (below_step (by repeat (first | (with_reducible first | exact HB.out | apply below_alloc | apply pw_below_drewN | apply below_drew1) | exact HB.out)) hb);clear HO_3;clear HB;have HO_3 := n0_;have HO110 := n1_;have HB := n2_;clear n0_ n1_ n2_;(try clear hb);(try clear hb2);(try clear hk);(try clear hi);(try clear ho0);have p10 : 0 ≤ (x4_1 : Int) := of_decide_eq_true (by first | (with_reducible assumption) | assumption);have q10 : (x4_1 : Int) < ((x3_1.length : Int) : Int) := of_decide_eq_true (by first | (with_reducible assumption) | assumption);obtain ⟨go10, co10, eo10, gb10, gl10, cl10, HG10⟩ := Kd.R_form HO_3.out (by omega);(first | cases eo10 | (injection eo10 with ea_ en_ ec_;(first | subst ea_ | (injection ea_ with ea_;subst ea_));subst ec_;clear en_));have GB10 := m0_ gb10;have GG10 := m0_ HG10;clear gb10 gl10 HG10;obtain ⟨ce10, hcl10, hM10, hcc10, hfr10⟩ := Kd.R_elem HO_3.out z37 (x4_1 : Int) p10 q10;obtain ⟨ve10_3, rfl, ge10_3⟩ := k37_openM hM10;have hx10_0 : w11.cell? ⟨go10, (x4_1 : Int).toNat * 4, none⟩ = some (.int .i64 ((rd_T37 x3_1 x4_1).f0)) := hcc10 0 _ rfl;have hx10_1 : w11.cell? ⟨go10, (x4_1 : Int).toNat * 4 + 1, none⟩ = some (.int .i64 ((rd_T37 x3_1 x4_1).f1)) := hcc10 1 _ rfl;have hx10_2 : w11.cell? ⟨go10, (x4_1 : Int).toNat * 4 + 2, none⟩ = some (.int .i64 ((rd_T37 x3_1 x4_1).f2)) := hcc10 2 _ rfl;have hx10_3 : w11.cell? ⟨go10, (x4_1 : Int).toNat * 4 + 3, none⟩ = some (ve10_3) := hcc10 3 _ rfl;have hf10_0 : w11.frozen? ⟨go10, (x4_1 : Int).toNat * 4, none⟩ = false := hfr10 0;have hf10_1 : w11.frozen? ⟨go10, (x4_1 : Int).toNat * 4 + 1, none⟩ = false := hfr10 1;have hf10_2 : w11.frozen? ⟨go10, (x4_1 : Int).toNat * 4 + 2, none⟩ = false := hfr10 2;have hf10_3 : w11.frozen? ⟨go10, (x4_1 : Int).toNat * 4 + 3, none⟩ = false := hfr10 3;clear hcl10 hcc10 hfr10 hM10;replace p10 := eq_true p10;replace q10 := eq_true q10;obtain ⟨Ao14, co14, eo14⟩ := Kd.R_slice HO110.out;subst eo14;have n_ := m0_ (Kd.R_mono (ok' := (fun k_ => some k_ ≠ (.slice Ao14 t108.length co14 : Value).ownBlock)) HO_3.out (fun k_ hk => hk.2));clear HO_3;have HO_3 := n_;clear n_;have HX12 := m0_ (show Kd.R k37 37 w11 w.heap.size (fun _ => True) (.slice (some ⟨go10, 0, none⟩) x3_1.length co10) x3_1 from (by (with_reducible repeat (first | apply Kd.R_alloc | apply Kd.R_drewN | apply Kd.R_drew));exact Kd.R_mono HO_3.out (fun _ hk => trivial)));obtain ⟨ce12, hcl12, hM12, hcc12, hfr12⟩ := Kd.R_elem HX12.out z37 (x4_1 : Int) (of_decide_eq_true (by first | (with_reducible assumption) | assumption)) (by have h_ : (x4_1 : Int) < ((x3_1.length : Int) : Int) := of_decide_eq_true (by first | (with_reducible assumption) | assumption);first | exact h_ | (have e_ := (Kd.R_reads' HO_3.out).1;omega) | simpa using h_);obtain ⟨ve12_3, rfl, ge12_3⟩ := k37_openM hM12;have HP12 := Kd.R_seg HX12.out (x4_1 : Int) (of_decide_eq_true (by first | (with_reducible assumption) | assumption)) (by have h_ : (x4_1 : Int) < ((x3_1.length : Int) : Int) := of_decide_eq_true (by first | (with_reducible assumption) | assumption);first | exact h_ | (have e_ := (Kd.R_reads' HO_3.out).1;omega) | simpa using h_) (seg := [.int .i64 t105, .int .i64 t106, .int .i64 t107, .slice Ao14 t108.length co14]) (j := 0) hcl12 hcc12 (show 4 ≤ 4 from by decide) (x' := (⟨t105, t106, t107, t108⟩ : S37)) (k37_mkM _ _ _ (⟨t105, t106, t107, t108⟩ : S37) (Kd.R_mono (HO110.out) (fun k_ hk => ⟨trivial, fun e_ => (hk.2) (by rw [e_];rfl)⟩))) (fun _ hk => hk);have hx12_0 := hcc12 0 _ rfl;(try simp only [show (k37).sz = 4 from rfl, Nat.mul_one, Nat.add_zero] at hx12_0);have hf12_0 := hfr12 0;(try simp only [show (k37).sz = 4 from rfl, Nat.mul_one, Nat.add_zero] at hf12_0);have hx12_1 := hcc12 1 _ rfl;(try simp only [show (k37).sz = 4 from rfl, Nat.mul_one, Nat.add_zero] at hx12_1);have hf12_1 := hfr12 1;(try simp only [show (k37).sz = 4 from rfl, Nat.mul_one, Nat.add_zero] at hf12_1);have hx12_2 := hcc12 2 _ rfl;(try simp only [show (k37).sz = 4 from rfl, Nat.mul_one, Nat.add_zero] at hx12_2);have hf12_2 := hfr12 2;(try simp only [show (k37).sz = 4 from rfl, Nat.mul_one, Nat.add_zero] at hf12_2);have hx12_3 := hcc12 3 _ rfl;(try simp only [show (k37).sz = 4 from rfl, Nat.mul_one, Nat.add_zero] at hx12_3);have hf12_3 := hfr12 3;(try simp only [show (k37).sz = 4 from rfl, Nat.mul_one, Nat.add_zero] at hf12_3);clear hcl12 hcc12 hfr12 hM12) | ((with_reducible refine gate_store (t := 37) (p := 21) rfl ?_);refine store_event (t := 37) (p := 21) (v := ?vo_w13) (w1 := ((((w11.setCell ⟨go10, (x4_1 : Int).toNat * 4, none⟩ (.int .i64 t105)).setCell ⟨go10, (x4_1 : Int).toNat * 4 + 1, none⟩ (.int .i64 t106)).setCell ⟨go10, (x4_1 : Int).toNat * 4 + 2, none⟩ (.int .i64 t107)).setCell ⟨go10, (x4_1 : Int).toNat * 4 + 3, none⟩ (.slice Ao14 t108.length co14))) ?hg ?ho ?hn ?hr ?_;(case ho => rfl);(case hg => rfl);(case hn => rfl);(case hr => first | (go_simp;done) | (go_simp;rfl));intro w13 hw;have hg : w11.grownBy w13 (some go10) := (by rw [hw];exact HP12.2);have hp_ : Kd.R k37 37 w13 w.heap.size (fun _ => True) (.slice (some ⟨go10, 0, none⟩) x3_1.length co10) y111 := (by rw [hw, Ny111.out];exact HP12.1);clear HP12;have n0_ := m0_ (hp_);have n1_ := m0_ ((by rw [hw];exact below_set (below_set (below_set (below_set (HB.out) GB10.out) GB10.out) GB10.out) GB10.out : Below w.heap.size w w13));clear HO_3;clear HB;clear HO110;have HO_3 := n0_;have HB := n1_;clear n0_ n1_;clear hg hw hp_))
   go_roundg k1
   case measure => have := HK1.out;omega
   case rel => exact ⟨(y111), (wrap64 (x4_1 + 1)), (by first | rfl | (simp;done) | (simp [*];done)), H', ⟨by have := HK1.out;omega⟩, ⟨by (with_reducible repeat (first | apply Kd.R_alloc | apply Kd.R_drewN | apply Kd.R_drew));exact HO_3.out⟩, ⟨by repeat (first | (with_reducible first | exact HB.out | apply below_alloc | apply pw_below_drewN | apply below_drew1) | exact HB.out)⟩⟩


set_option maxHeartbeats 8000000 in
set_option maxRecDepth 100000 in
theorem laws_toEx.calls_step (k : Nat) (ih_69 : ∀ k_, k_ < k → ∀ (A0 : Option Addr) (c0 : Nat) (l0 : List (S30)) (r : List (S37)) (w : World) (hr0 : Kd.C k30 w A0 l0.length l0) (hc0 : l0.length ≤ c0) (h : laws_toExS.f k_ l0 = some r),
  Calls Try.prog 69 #[.slice A0 l0.length c0] w fun e w' => ∃ v0_ : Value, e = .returned (v0_) ∧ Kd.R k37 37 w' w.heap.size (fun _ => True) v0_ r ∧ Below w.heap.size w w') (ih_35 : ∀ k_, k_ < k → ∀ (a0_0 : Int) (a0_1 : Int) (a0_2 : Int) (A0_3 : Option Addr) (c0_3 : Nat) (l0_3 : List (S30)) (r1 : Int) (r2 : Int) (r3 : Int) (r4 : List (S37)) (w : World) (hr0_3 : Kd.C k30 w A0_3 l0_3.length l0_3) (hc0_3 : l0_3.length ≤ c0_3) (h : laws_toEx.f k_ a0_0 a0_1 a0_2 l0_3 = some (r1, r2, r3, r4)),
  Calls Try.prog 35 #[.agg #[.int .i64 a0_0, .int .i64 a0_1, .int .i64 a0_2, .slice A0_3 l0_3.length c0_3]] w fun e w' => ∃ v3_ : Value, e = .returned (.agg #[.int .i64 r1, .int .i64 r2, .int .i64 r3, v3_]) ∧ Kd.R k37 37 w' w.heap.size (fun _ => True) v3_ r4 ∧ Below w.heap.size w w') : ∀ (a0_0 : Int) (a0_1 : Int) (a0_2 : Int) (A0_3 : Option Addr) (c0_3 : Nat) (l0_3 : List (S30)) (r1 : Int) (r2 : Int) (r3 : Int) (r4 : List (S37)) (w : World) (hr0_3 : Kd.C k30 w A0_3 l0_3.length l0_3) (hc0_3 : l0_3.length ≤ c0_3) (h : laws_toEx.f k a0_0 a0_1 a0_2 l0_3 = some (r1, r2, r3, r4)),
  Calls Try.prog 35 #[.agg #[.int .i64 a0_0, .int .i64 a0_1, .int .i64 a0_2, .slice A0_3 l0_3.length c0_3]] w fun e w' => ∃ v3_ : Value, e = .returned (.agg #[.int .i64 r1, .int .i64 r2, .int .i64 r3, v3_]) ∧ Kd.R k37 37 w' w.heap.size (fun _ => True) v3_ r4 ∧ Below w.heap.size w w' := by
 intro a0_0 a0_1 a0_2 A0_3 c0_3 l0_3 r1 r2 r3 r4 w hr0_3 hc0_3 h
 cases k with
 | zero => exact absurd h (by simp [laws_toEx.f])
 | succ k =>
 simp only [laws_toEx.f] at h
 have hu30 := Try.underlying30
 have hu37 := Try.underlying37
 have HR0_3 := m0_ hr0_3
 have HC0_3 := m0_ hc0_3
 clear hr0_3 hc0_3
 have HB := m0_ (Below.refl w.heap.size w)
 have H : ((laws_toExS.f k l0_3).bind fun t115 => (some (a0_0, a0_1, a0_2, t115))) = some (r1, r2, r3, r4) := h
 clear h
 replace H := Option.bind_eq_some_iff.mp H
 obtain ⟨t115, A20, H⟩ := H
 replace H : (some (a0_0, a0_1, a0_2, t115)) = some (r1, r2, r3, r4) := H
 have A2 := m0_ A20
 clear A20
 simp only [Option.some.injEq, Prod.mk.injEq] at H
 obtain ⟨rfl, rfl, rfl, rfl⟩ := H
 go_enter Try.func35, Try.ntmps35
 go_wp2_with (first | ((with_reducible refine gate_dst (N := 1) rfl ?_);refine box_event ?hg (N := 1) ?hd (cs := #[.int .i64 a0_0, .int .i64 a0_1, .int .i64 a0_2, .slice A0_3 l0_3.length c0_3]) (t := 30) ?hr ?_;(case hd => rfl);(case hg => rfl);(case hr => first | (go_simp;done) | (go_simp;rfl));intro gb112 hg w3 hbox hb;have n0_ := m0_ (below_step (by repeat (first | (with_reducible first | exact HB.out | apply below_alloc | apply pw_below_drewN | apply below_drew1) | exact HB.out)) hb);have n1_ := m0_ (hbox);have n2_ := m0_ ((by rw [hg];exact (below_size (by repeat (first | (with_reducible first | exact HB.out | apply below_alloc | apply pw_below_drewN | apply below_drew1) | exact HB.out))) : w.heap.size ≤ gb112));have n3_ := m0_ ((by rw [hg];exact (below_size (by repeat (first | (with_reducible first | exact HB.out | apply below_alloc | apply pw_below_drewN | apply below_drew1) | exact HB.out))) : w.heap.size ≤ gb112));clear HB;have HB := n0_;have BK112 := n1_;have GW112 := n2_;have GE112 := n3_;clear n0_ n1_ n2_ n3_;clear hb hbox hg) | ((with_reducible refine gate_dst (N := 2) rfl ?_);refine box_event ?hg (N := 2) ?hd (cs := #[.int .i64 0, .int .i64 0, .int .i64 0, .slice none 0 0]) (t := 37) ?hr ?_;(case hd => rfl);(case hg => rfl);(case hr => first | (go_simp;done) | (go_simp;rfl));intro gb113 hg w4 hbox hb;have n0_ := m0_ (blk_below BK112.out hb);have n1_ := m0_ (below_step (by repeat (first | (with_reducible first | exact HB.out | apply below_alloc | apply pw_below_drewN | apply below_drew1 | refine below_set ?_ GE112.out) | exact HB.out)) hb);have n2_ := m0_ (hbox);have n3_ := m0_ ((by rw [hg];exact (below_size (by repeat (first | (with_reducible first | exact HB.out | apply below_alloc | apply pw_below_drewN | apply below_drew1 | refine below_set ?_ GE112.out) | exact HB.out))) : w.heap.size ≤ gb113));have n4_ := m0_ ((by rw [hg];exact (below_size (by repeat (first | (with_reducible first | exact HB.out | apply below_alloc | apply pw_below_drewN | apply below_drew1 | refine below_set ?_ GE112.out) | exact HB.out))) : w.heap.size ≤ gb113));have n5_ := m0_ ((by rw [hg];exact Nat.ne_of_lt (blk_lt BK112.out) : gb112 ≠ gb113));have n6_ := m0_ ((by rw [hg];exact Nat.ne_of_gt (blk_lt BK112.out) : gb113 ≠ gb112));clear BK112;clear HB;have BK112 := n0_;have HB := n1_;have BK113 := n2_;have GW113 := n3_;have GE113 := n4_;have NB112_113 := n5_;have NB113_112 := n6_;clear n0_ n1_ n2_ n3_ n4_ n5_ n6_;clear hb hbox hg) | ((with_reducible refine gate_dst (N := 3) rfl ?_);refine box_event ?hg (N := 3) ?hd (cs := #[.int .i64 0, .int .i64 0, .int .i64 0, .slice none 0 0]) (t := 37) ?hr ?_;(case hd => rfl);(case hg => rfl);(case hr => first | (go_simp;done) | (go_simp;rfl));intro gb114 hg w5 hbox hb;have n0_ := m0_ (blk_below BK112.out hb);have n1_ := m0_ (blk_below BK113.out hb);have n2_ := m0_ (below_step (by repeat (first | (with_reducible first | exact HB.out | apply below_alloc | apply pw_below_drewN | apply below_drew1 | refine below_set ?_ GE112.out | refine below_set ?_ GE113.out) | exact HB.out)) hb);have n3_ := m0_ (hbox);have n4_ := m0_ ((by rw [hg];exact (below_size (by repeat (first | (with_reducible first | exact HB.out | apply below_alloc | apply pw_below_drewN | apply below_drew1 | refine below_set ?_ GE112.out | refine below_set ?_ GE113.out) | exact HB.out))) : w.heap.size ≤ gb114));have n5_ := m0_ ((by rw [hg];exact (below_size (by repeat (first | (with_reducible first | exact HB.out | apply below_alloc | apply pw_below_drewN | apply below_drew1 | refine below_set ?_ GE112.out | refine below_set ?_ GE113.out) | exact HB.out))) : w.heap.size ≤ gb114));have n6_ := m0_ ((by rw [hg];exact Nat.ne_of_lt (blk_lt BK112.out) : gb112 ≠ gb114));have n7_ := m0_ ((by rw [hg];exact Nat.ne_of_gt (blk_lt BK112.out) : gb114 ≠ gb112));have n8_ := m0_ ((by rw [hg];exact Nat.ne_of_lt (blk_lt BK113.out) : gb113 ≠ gb114));have n9_ := m0_ ((by rw [hg];exact Nat.ne_of_gt (blk_lt BK113.out) : gb114 ≠ gb113));clear BK112;clear BK113;clear HB;have BK112 := n0_;have BK113 := n1_;have HB := n2_;have BK114 := n3_;have GW114 := n4_;have GE114 := n5_;have NB112_114 := n6_;have NB114_112 := n7_;have NB113_114 := n8_;have NB114_113 := n9_;clear n0_ n1_ n2_ n3_ n4_ n5_ n6_ n7_ n8_ n9_;clear hb hbox hg;have hnb6 := NB112_113.out;have hnc6 := NB113_112.out;have hnb7 := NB112_114.out;have hnc7 := NB114_112.out;obtain ⟨hcz8_0, hcz8_1, hcz8_2, hcz8_3, hfz8_0, hfz8_1, hfz8_2, hfz8_3⟩ := bx4 BK112.out;have hnb9 := NB114_113.out;have hnc9 := NB113_114.out;obtain ⟨hcz10_0, hcz10_1, hcz10_2, hcz10_3, hfz10_0, hfz10_1, hfz10_2, hfz10_3⟩ := bx4 BK114.out) | ((with_reducible refine gate_callee (f := 69) rfl ?_);refine goesL_ (some 15) rfl rfl Try.func69 (by kernel_rfl) rfl #[.slice A0_3 l0_3.length c0_3] rfl (by (try simp only [List.map_toArray, List.map_cons, List.map_nil]);first | done | rfl | (simp only [List.length_drop, List.length_take];rfl)) ?_;(with_reducible refine (ih_69 k (by omega) _ _ l0_3 t115 _ ?side1 ?side2 A2.out).mono ?_);(case side1 => exact Kd.C_below HR0_3.out (by repeat (first | (with_reducible first | exact HB.out | apply below_alloc | apply pw_below_drewN | apply below_drew1 | refine below_set ?_ GE112.out | refine below_set ?_ GE113.out | refine below_set ?_ GE114.out) | exact HB.out)));(case side2 => exact HC0_3.out);rintro e w11 ⟨v116, rfl, ho0, hb⟩;refine ⟨_, rfl, ?_⟩;have n0_ := m0_ (Kd.R_lower (Kd.R_newB (Kd.R_newB ho0 (g := gb113) (o := .cells #[.int .i64 0, .int .i64 0, .int .i64 0, .slice none 0 0] 37 (0, 0)) (by (with_reducible repeat (first | refine blk_drewN ?_ _ | refine blk_drew ?_ | refine blk_alloc ?_ _));refine blk_far ?_ NB113_114.out _;(with_reducible repeat (first | refine blk_drewN ?_ _ | refine blk_drew ?_ | refine blk_alloc ?_ _));refine blk_far ?_ NB113_114.out _;(with_reducible repeat (first | refine blk_drewN ?_ _ | refine blk_drew ?_ | refine blk_alloc ?_ _));refine blk_far ?_ NB113_114.out _;(with_reducible repeat (first | refine blk_drewN ?_ _ | refine blk_drew ?_ | refine blk_alloc ?_ _));exact BK113.out)) (g := gb114) (o := .cells #[.int .i64 a0_0, .int .i64 a0_1, .int .i64 a0_2, .slice none 0 0] 37 (0, 0)) (by (with_reducible repeat (first | refine blk_drewN ?_ _ | refine blk_drew ?_ | refine blk_alloc ?_ _));refine blk_put (cs := #[.int .i64 a0_0, .int .i64 a0_1, .int .i64 0, .slice none 0 0]) ?_ 2 _ rfl;(with_reducible repeat (first | refine blk_drewN ?_ _ | refine blk_drew ?_ | refine blk_alloc ?_ _));refine blk_put (cs := #[.int .i64 a0_0, .int .i64 0, .int .i64 0, .slice none 0 0]) ?_ 1 _ rfl;(with_reducible repeat (first | refine blk_drewN ?_ _ | refine blk_drew ?_ | refine blk_alloc ?_ _));refine blk_put (cs := #[.int .i64 0, .int .i64 0, .int .i64 0, .slice none 0 0]) ?_ 0 _ rfl;(with_reducible repeat (first | refine blk_drewN ?_ _ | refine blk_drew ?_ | refine blk_alloc ?_ _));exact BK114.out)) (below_size (by repeat (first | (with_reducible first | exact HB.out | apply below_alloc | apply pw_below_drewN | apply below_drew1 | refine below_set ?_ GE112.out | refine below_set ?_ GE113.out | refine below_set ?_ GE114.out) | exact HB.out))));have n1_ := m0_ (blk_below (g := gb112) (o := .cells #[.int .i64 a0_0, .int .i64 a0_1, .int .i64 a0_2, .slice A0_3 l0_3.length c0_3] 30 (0, 0)) (by (with_reducible repeat (first | refine blk_drewN ?_ _ | refine blk_drew ?_ | refine blk_alloc ?_ _));refine blk_far ?_ NB112_114.out _;(with_reducible repeat (first | refine blk_drewN ?_ _ | refine blk_drew ?_ | refine blk_alloc ?_ _));refine blk_far ?_ NB112_114.out _;(with_reducible repeat (first | refine blk_drewN ?_ _ | refine blk_drew ?_ | refine blk_alloc ?_ _));refine blk_far ?_ NB112_114.out _;(with_reducible repeat (first | refine blk_drewN ?_ _ | refine blk_drew ?_ | refine blk_alloc ?_ _));exact BK112.out) hb);have n2_ := m0_ (blk_below (g := gb113) (o := .cells #[.int .i64 0, .int .i64 0, .int .i64 0, .slice none 0 0] 37 (0, 0)) (by (with_reducible repeat (first | refine blk_drewN ?_ _ | refine blk_drew ?_ | refine blk_alloc ?_ _));refine blk_far ?_ NB113_114.out _;(with_reducible repeat (first | refine blk_drewN ?_ _ | refine blk_drew ?_ | refine blk_alloc ?_ _));refine blk_far ?_ NB113_114.out _;(with_reducible repeat (first | refine blk_drewN ?_ _ | refine blk_drew ?_ | refine blk_alloc ?_ _));refine blk_far ?_ NB113_114.out _;(with_reducible repeat (first | refine blk_drewN ?_ _ | refine blk_drew ?_ | refine blk_alloc ?_ _));exact BK113.out) hb);have n3_ := m0_ (blk_below (g := gb114) (o := .cells #[.int .i64 a0_0, .int .i64 a0_1, .int .i64 a0_2, .slice none 0 0] 37 (0, 0)) (by (with_reducible repeat (first | refine blk_drewN ?_ _ | refine blk_drew ?_ | refine blk_alloc ?_ _));refine blk_put (cs := #[.int .i64 a0_0, .int .i64 a0_1, .int .i64 0, .slice none 0 0]) ?_ 2 _ rfl;(with_reducible repeat (first | refine blk_drewN ?_ _ | refine blk_drew ?_ | refine blk_alloc ?_ _));refine blk_put (cs := #[.int .i64 a0_0, .int .i64 0, .int .i64 0, .slice none 0 0]) ?_ 1 _ rfl;(with_reducible repeat (first | refine blk_drewN ?_ _ | refine blk_drew ?_ | refine blk_alloc ?_ _));refine blk_put (cs := #[.int .i64 0, .int .i64 0, .int .i64 0, .slice none 0 0]) ?_ 0 _ rfl;(with_reducible repeat (first | refine blk_drewN ?_ _ | refine blk_drew ?_ | refine blk_alloc ?_ _));exact BK114.out) hb);have n4_ := m0_ (below_step (by repeat (first | (with_reducible first | exact HB.out | apply below_alloc | apply pw_below_drewN | apply below_drew1 | refine below_set ?_ GE112.out | refine below_set ?_ GE113.out | refine below_set ?_ GE114.out) | exact HB.out)) hb);clear BK112;clear BK113;clear BK114;clear HB;have HO117 := n0_;have BK112 := n1_;have BK113 := n2_;have BK114 := n3_;have HB := n4_;clear n0_ n1_ n2_ n3_ n4_;(try clear hb);(try clear hb2);(try clear hk);(try clear hi);(try clear ho0);obtain ⟨Ao12, co12, eo12⟩ := Kd.R_slice HO117.out;subst eo12;obtain ⟨hcz13_0, hcz13_1, hcz13_2, hcz13_3, hfz13_0, hfz13_1, hfz13_2, hfz13_3⟩ := bx4 BK114.out;obtain ⟨hcz14_0, hcz14_1, hcz14_2, hcz14_3, hfz14_0, hfz14_1, hfz14_2, hfz14_3⟩ := bx4 BK113.out))
 refine bodyPost_ret (results_cell_row rfl _ _ gb113 37 #[.int .i64 a0_0, .int .i64 a0_1, .int .i64 a0_2, .slice Ao12 t115.length co12] (0, 0) _ rfl (by (with_reducible repeat (first | refine blk_drewN ?_ _ | refine blk_drew ?_ | refine blk_alloc ?_ _));refine blk_put (cs := #[.int .i64 a0_0, .int .i64 a0_1, .int .i64 a0_2, .slice none 0 0]) ?_ 3 _ rfl;(with_reducible repeat (first | refine blk_drewN ?_ _ | refine blk_drew ?_ | refine blk_alloc ?_ _));refine blk_put (cs := #[.int .i64 a0_0, .int .i64 a0_1, .int .i64 0, .slice none 0 0]) ?_ 2 _ rfl;(with_reducible repeat (first | refine blk_drewN ?_ _ | refine blk_drew ?_ | refine blk_alloc ?_ _));refine blk_put (cs := #[.int .i64 a0_0, .int .i64 0, .int .i64 0, .slice none 0 0]) ?_ 1 _ rfl;(with_reducible repeat (first | refine blk_drewN ?_ _ | refine blk_drew ?_ | refine blk_alloc ?_ _));refine blk_put (cs := #[.int .i64 0, .int .i64 0, .int .i64 0, .slice none 0 0]) ?_ 0 _ rfl;(with_reducible repeat (first | refine blk_drewN ?_ _ | refine blk_drew ?_ | refine blk_alloc ?_ _));refine blk_far ?_ NB113_114.out _;(with_reducible repeat (first | refine blk_drewN ?_ _ | refine blk_drew ?_ | refine blk_alloc ?_ _));exact BK113.out) Try.underlying37 rfl (by kernel_rfl)) rfl ?_
 exact ⟨_, by first | rfl | (simp [errW_none, errW_some] <;> rfl) | (simp [*, errW_none, errW_some] <;> rfl), by (with_reducible repeat (first | apply Kd.R_alloc | apply Kd.R_drewN | apply Kd.R_drew));exact Kd.R_mono (Kd.R_far (p := ⟨gb113, 3, none⟩) (Kd.R_far (p := ⟨gb113, 2, none⟩) (Kd.R_far (p := ⟨gb113, 1, none⟩) (Kd.R_far (p := ⟨gb113, 0, none⟩) (Kd.R_far (p := ⟨gb114, 3, none⟩) (Kd.R_mono (Kd.R_mono HO117.out (fun k_ hk => (⟨hk, hk.2⟩ : _ ∧ k_ ≠ gb114))) (fun k_ hk => (⟨hk, hk.1.1.2⟩ : _ ∧ k_ ≠ gb113))) (fun _ hk => hk.1.2) (.slice Ao12 t115.length co12)) (fun _ hk => hk.2) (.int .i64 a0_0)) (fun _ hk => hk.2) (.int .i64 a0_1)) (fun _ hk => hk.2) (.int .i64 a0_2)) (fun _ hk => hk.2) (.slice Ao12 t115.length co12)) (fun _ hk => trivial), by repeat (first | (with_reducible first | exact HB.out | apply below_alloc | apply pw_below_drewN | apply below_drew1 | refine below_set ?_ GE112.out | refine below_set ?_ GE113.out | refine below_set ?_ GE114.out) | exact HB.out)⟩

theorem laws_toExS.calls_all (k : Nat) : (∀ (A0 : Option Addr) (c0 : Nat) (l0 : List (S30)) (r : List (S37)) (w : World) (hr0 : Kd.C k30 w A0 l0.length l0) (hc0 : l0.length ≤ c0) (h : laws_toExS.f k l0 = some r),
  Calls Try.prog 69 #[.slice A0 l0.length c0] w fun e w' => ∃ v0_ : Value, e = .returned (v0_) ∧ Kd.R k37 37 w' w.heap.size (fun _ => True) v0_ r ∧ Below w.heap.size w w') ∧ (∀ (a0_0 : Int) (a0_1 : Int) (a0_2 : Int) (A0_3 : Option Addr) (c0_3 : Nat) (l0_3 : List (S30)) (r1 : Int) (r2 : Int) (r3 : Int) (r4 : List (S37)) (w : World) (hr0_3 : Kd.C k30 w A0_3 l0_3.length l0_3) (hc0_3 : l0_3.length ≤ c0_3) (h : laws_toEx.f k a0_0 a0_1 a0_2 l0_3 = some (r1, r2, r3, r4)),
  Calls Try.prog 35 #[.agg #[.int .i64 a0_0, .int .i64 a0_1, .int .i64 a0_2, .slice A0_3 l0_3.length c0_3]] w fun e w' => ∃ v3_ : Value, e = .returned (.agg #[.int .i64 r1, .int .i64 r2, .int .i64 r3, v3_]) ∧ Kd.R k37 37 w' w.heap.size (fun _ => True) v3_ r4 ∧ Below w.heap.size w w') := by
 induction k using Nat.strongRecOn with
 | _ k ih =>
 exact ⟨laws_toExS.calls_step k (fun k_ h_ => (ih k_ h_).1) (fun k_ h_ => (ih k_ h_).2), laws_toEx.calls_step k (fun k_ h_ => (ih k_ h_).1) (fun k_ h_ => (ih k_ h_).2)⟩
theorem laws_toEx.calls (k : Nat) : ∀ (a0_0 : Int) (a0_1 : Int) (a0_2 : Int) (A0_3 : Option Addr) (c0_3 : Nat) (l0_3 : List (S30)) (r1 : Int) (r2 : Int) (r3 : Int) (r4 : List (S37)) (w : World) (hr0_3 : Kd.C k30 w A0_3 l0_3.length l0_3) (hc0_3 : l0_3.length ≤ c0_3) (h : laws_toEx.f k a0_0 a0_1 a0_2 l0_3 = some (r1, r2, r3, r4)),
  Calls Try.prog 35 #[.agg #[.int .i64 a0_0, .int .i64 a0_1, .int .i64 a0_2, .slice A0_3 l0_3.length c0_3]] w fun e w' => ∃ v3_ : Value, e = .returned (.agg #[.int .i64 r1, .int .i64 r2, .int .i64 r3, v3_]) ∧ Kd.R k37 37 w' w.heap.size (fun _ => True) v3_ r4 ∧ Below w.heap.size w w' := (laws_toExS.calls_all k).2

mutual
def laws_eqExS.l0 : Nat → List (S37) → List (S37) → Int → Option (Bool)
 | 0, _, _, _ => none
 | k + 1, x0, x1, x5 => if x5 < (x0.length : Int) then (if 0 ≤ x5 then (if x5 < (x1.length : Int) then ((laws_eqEx.f k ((rd_T37 x0 x5).f0) ((rd_T37 x0 x5).f1) ((rd_T37 x0 x5).f2) ((rd_T37 x0 x5).f3) ((rd_T37 x1 x5).f0) ((rd_T37 x1 x5).f1) ((rd_T37 x1 x5).f2) ((rd_T37 x1 x5).f3)).bind fun t103 => (if t103 = true then (laws_eqExS.l0 k x0 x1 (wrap64 (x5 + 1))) else (some false))) else (none)) else (none)) else (some true)
def laws_eqExS.f : Nat → List (S37) → List (S37) → Option (Bool)
 | 0, _, _ => none
 | k + 1, l0, l1 => if (l0.length : Int) = (l1.length : Int) then (laws_eqExS.l0 k l0 l1 0) else (some false)
def laws_eqEx.f : Nat → Int → Int → Int → List (S37) → Int → Int → Int → List (S37) → Option (Bool)
 | 0, _, _, _, _, _, _, _, _ => none
 | k + 1, a0_0, a0_1, a0_2, l0_3, a1_0, a1_1, a1_2, l1_3 => if a0_0 = a1_0 then (if a0_1 = a1_1 then (if a0_2 = a1_2 then ((laws_eqExS.f k l0_3 l1_3).bind fun t106 => (if t106 = true then (some true) else (some false))) else (some false)) else (some false)) else (some false)
end
def laws_eqExS.T6 : Bool × List (List Nat × List Nat) := (true, [([], []), ([], []), ([0, 1], [0, 1]), ([2], [2]), ([], []), ([], []), ([4, 5], [4, 5]), ([6], [6]), ([3, 7], [3, 7]), ([8], [8])])
def laws_eqExS.B6 : List Nat := [0, 0, 3, 7, 0, 0, 48, 112, 255, 511]
theorem laws_eqExS.tab6 : rtab .any (opsOf Try.f70 6) = laws_eqExS.T6 := by kernel_rfl
theorem laws_eqExS.bits6 : waitsOk laws_eqExS.T6.2 laws_eqExS.B6 = true := by kernel_rfl
set_option maxHeartbeats 8000000 in
set_option maxRecDepth 100000 in
theorem laws_eqExS.calls_step (k : Nat) (ih_70 : ∀ k_, k_ < k → ∀ (A0 : Option Addr) (c0 : Nat) (l0 : List (S37)) (A1 : Option Addr) (c1 : Nat) (l1 : List (S37)) (r : Bool) (w : World) (hr0 : Kd.C k37 w A0 l0.length l0) (hc0 : l0.length ≤ c0) (hr1 : Kd.C k37 w A1 l1.length l1) (hc1 : l1.length ≤ c1) (h : laws_eqExS.f k_ l0 l1 = some r),
  Calls Try.prog 70 #[.slice A0 l0.length c0, .slice A1 l1.length c1] w fun e w' => e = .returned (.bool r) ∧ Below w.heap.size w w') (ih_37 : ∀ k_, k_ < k → ∀ (a0_0 : Int) (a0_1 : Int) (a0_2 : Int) (A0_3 : Option Addr) (c0_3 : Nat) (l0_3 : List (S37)) (a1_0 : Int) (a1_1 : Int) (a1_2 : Int) (A1_3 : Option Addr) (c1_3 : Nat) (l1_3 : List (S37)) (r : Bool) (w : World) (hr0_3 : Kd.C k37 w A0_3 l0_3.length l0_3) (hc0_3 : l0_3.length ≤ c0_3) (hr1_3 : Kd.C k37 w A1_3 l1_3.length l1_3) (hc1_3 : l1_3.length ≤ c1_3) (h : laws_eqEx.f k_ a0_0 a0_1 a0_2 l0_3 a1_0 a1_1 a1_2 l1_3 = some r),
  Calls Try.prog 37 #[.agg #[.int .i64 a0_0, .int .i64 a0_1, .int .i64 a0_2, .slice A0_3 l0_3.length c0_3], .agg #[.int .i64 a1_0, .int .i64 a1_1, .int .i64 a1_2, .slice A1_3 l1_3.length c1_3]] w fun e w' => e = .returned (.bool r) ∧ Below w.heap.size w w') : ∀ (A0 : Option Addr) (c0 : Nat) (l0 : List (S37)) (A1 : Option Addr) (c1 : Nat) (l1 : List (S37)) (r : Bool) (w : World) (hr0 : Kd.C k37 w A0 l0.length l0) (hc0 : l0.length ≤ c0) (hr1 : Kd.C k37 w A1 l1.length l1) (hc1 : l1.length ≤ c1) (h : laws_eqExS.f k l0 l1 = some r),
  Calls Try.prog 70 #[.slice A0 l0.length c0, .slice A1 l1.length c1] w fun e w' => e = .returned (.bool r) ∧ Below w.heap.size w w' := by
 intro A0 c0 l0 A1 c1 l1 r w hr0 hc0 hr1 hc1 h
 cases k with
 | zero => exact absurd h (by simp [laws_eqExS.f])
 | succ k =>
 simp only [laws_eqExS.f] at h
 have hu37 := Try.underlying37
 have HR0 := m0_ hr0
 have HC0 := m0_ hc0
 clear hr0 hc0
 have HR1 := m0_ hr1
 have HC1 := m0_ hc1
 clear hr1 hc1
 have HB := m0_ (Below.refl w.heap.size w)
 have H : (if (l0.length : Int) = (l1.length : Int) then (laws_eqExS.l0 k l0 l1 0) else (some false)) = some r := h
 clear h
 by_cases c3 : (l0.length : Int) = (l1.length : Int)
 rotate_left
 ·rw [if_neg c3] at H
  have c3b0 : ((l0.length : Int) == (l1.length : Int)) = false := beq_eq_false_iff_ne.mpr c3
  have c3b1 : ((l0.length : Int) != (l1.length : Int)) = true := bne_iff_ne.mpr c3
  have c3b2 : (l0.length == l1.length) = false := by first | simpa using c3 | (simp at c3 ⊢;omega)
  obtain rfl := Option.some.inj H
  go_enter Try.func70, Try.ntmps70
  go_wp2
  go_ret
  exact ⟨by first | rfl | (simp [errW_none, errW_some] <;> rfl) | (simp [*, errW_none, errW_some] <;> rfl), by repeat (first | (with_reducible first | exact HB.out | apply below_alloc | apply pw_below_drewN | apply below_drew1) | exact HB.out)⟩
 rw [if_pos c3] at H
 have c3b0 : ((l0.length : Int) == (l1.length : Int)) = true := beq_iff_eq.mpr c3
 have c3b1 : ((l0.length : Int) != (l1.length : Int)) = false := bne_eq_false_iff_eq.mpr c3
 have c3b2 : (l0.length == l1.length) = true := by first | simpa using c3 | (simp at c3 ⊢;omega)
 clear c3
 have H' := m0_ H
 clear H
 go_enter Try.func70, Try.ntmps70
 go_wp2
 go_loopg [5] k (fun kq v5 w' => ∃ (x5_1 : Int), v5 = .int .i64 x5_1 ∧ Aside0 (laws_eqExS.l0 kq l0 l1 x5_1 = some r) ∧ Aside0 (kq ≤ k) ∧ Aside0 (Below w.heap.size w w'))
 case atStart => exact ⟨(0), (by first | rfl | (simp;done) | (simp [*];done)), H', ⟨Nat.le_refl _⟩, ⟨by repeat (first | (with_reducible first | exact HB.out | apply below_alloc | apply pw_below_drewN | apply below_drew1) | exact HB.out)⟩⟩
 case round =>
  clear H'
  try clear c1
  try clear p2
  try clear c3
  try clear c3b0
  try clear c3b1
  try clear c3b2
  obtain ⟨x5_1, rfl, HA, HK1, HB⟩ := hrel
  cases gk with
  | zero => exact absurd HA.out (by simp [laws_eqExS.l0])
  | succ k1 =>
   have H := HA.out
   clear HA
   simp only [laws_eqExS.l0] at H
   by_cases c4 : x5_1 < (l0.length : Int)
   rotate_left
   ·rw [if_neg c4] at H
    have c4b0 : decide (x5_1 < (l0.length : Int)) = false := decide_eq_false c4
    clear c4
    obtain rfl := Option.some.inj H
    go_wp2
    go_ret
    exact ⟨by first | rfl | (simp [errW_none, errW_some] <;> rfl) | (simp [*, errW_none, errW_some] <;> rfl), by repeat (first | (with_reducible first | exact HB.out | apply below_alloc | apply pw_below_drewN | apply below_drew1) | exact HB.out)⟩
   rw [if_pos c4] at H
   have c4b0 : decide (x5_1 < (l0.length : Int)) = true := decide_eq_true c4
   clear c4
   by_cases c5 : 0 ≤ x5_1
   rotate_left
   ·rw [if_neg c5] at H
    exact absurd H (by simp)
   rw [if_pos c5] at H
   have c5b0 : decide (0 ≤ x5_1) = true := decide_eq_true c5
   clear c5
   by_cases c6 : x5_1 < (l1.length : Int)
   rotate_left
   ·rw [if_neg c6] at H
    exact absurd H (by simp)
   rw [if_pos c6] at H
   have c6b0 : decide (x5_1 < (l1.length : Int)) = true := decide_eq_true c6
   clear c6
   replace H := Option.bind_eq_some_iff.mp H
   obtain ⟨t103, A70, H⟩ := H
   replace H : (if t103 = true then (laws_eqExS.l0 k1 l0 l1 (wrap64 (x5_1 + 1))) else (some false)) = some r := H
   have A7 := m0_ A70
   clear A70
   by_cases c8 : t103 = true
   rotate_left
   ·replace c8 := Bool.eq_false_iff.mpr c8
    subst c8
    have H1 : (some false) = some r := by rw [if_neg (show ¬ (false = true) by decide)] at H;exact H
    clear H
    have H := H1
    clear H1
    obtain rfl := Option.some.inj H
    try go_wp2
    replace HB := m0_ (below_drew1 HB.out)
    have p101 : 0 ≤ (x5_1 : Int) := of_decide_eq_true (by first | (with_reducible assumption) | assumption)
    have q101 : x5_1 < (l0.length : Int) := of_decide_eq_true (by first | (with_reducible assumption) | assumption)
    obtain ⟨ad101, A101_3, c101_3, e101, hx101_0, hx101_1, hx101_2, hx101_3, hl101_3, hi101_3⟩ := at_T37 HR0.out x5_1 p101 q101
    have hw101_3 := hx101_3
    have hw101_2 := hx101_2
    have hw101_1 := hx101_1
    have hw101_0 := hx101_0
    cases e101
    replace hx101_0 := (HB.out.cell (World.block_lt_of_cell? w _ hx101_0)).trans hx101_0
    replace hx101_1 := (HB.out.cell (World.block_lt_of_cell? w _ hx101_1)).trans hx101_1
    replace hx101_2 := (HB.out.cell (World.block_lt_of_cell? w _ hx101_2)).trans hx101_2
    replace hx101_3 := (HB.out.cell (World.block_lt_of_cell? w _ hx101_3)).trans hx101_3
    have HR101_3 := m0_ hi101_3
    have HC101_3 := m0_ hl101_3
    clear hi101_3 hl101_3
    replace p101 := eq_true p101
    replace q101 := eq_true q101
    have p102 : 0 ≤ (x5_1 : Int) := of_decide_eq_true (by first | (with_reducible assumption) | assumption)
    have q102 : x5_1 < (l1.length : Int) := of_decide_eq_true (by first | (with_reducible assumption) | assumption)
    obtain ⟨ad102, A102_3, c102_3, e102, hx102_0, hx102_1, hx102_2, hx102_3, hl102_3, hi102_3⟩ := at_T37 HR1.out x5_1 p102 q102
    have hw102_3 := hx102_3
    have hw102_2 := hx102_2
    have hw102_1 := hx102_1
    have hw102_0 := hx102_0
    cases e102
    replace hx102_0 := (HB.out.cell (World.block_lt_of_cell? w _ hx102_0)).trans hx102_0
    replace hx102_1 := (HB.out.cell (World.block_lt_of_cell? w _ hx102_1)).trans hx102_1
    replace hx102_2 := (HB.out.cell (World.block_lt_of_cell? w _ hx102_2)).trans hx102_2
    replace hx102_3 := (HB.out.cell (World.block_lt_of_cell? w _ hx102_3)).trans hx102_3
    have HR102_3 := m0_ hi102_3
    have HC102_3 := m0_ hl102_3
    clear hi102_3 hl102_3
    replace p102 := eq_true p102
    replace q102 := eq_true q102
    refine start_ (n := 10) (S := fun w' => w'.cell? (ad101.add ((x5_1).toNat * 4)) = some (.int .i64 ((rd_T37 l0 x5_1).f0)) ∧ w'.cell? ⟨(ad101.add ((x5_1).toNat * 4)).block, (ad101.add ((x5_1).toNat * 4)).off + 1, none⟩ = some (.int .i64 ((rd_T37 l0 x5_1).f1)) ∧ w'.cell? ⟨(ad101.add ((x5_1).toNat * 4)).block, (ad101.add ((x5_1).toNat * 4)).off + 2, none⟩ = some (.int .i64 ((rd_T37 l0 x5_1).f2)) ∧ w'.cell? ⟨(ad101.add ((x5_1).toNat * 4)).block, (ad101.add ((x5_1).toNat * 4)).off + 3, none⟩ = some (.slice A101_3 ((rd_T37 l0 x5_1).f3).length c101_3) ∧ w'.cell? (ad102.add ((x5_1).toNat * 4)) = some (.int .i64 ((rd_T37 l1 x5_1).f0)) ∧ w'.cell? ⟨(ad102.add ((x5_1).toNat * 4)).block, (ad102.add ((x5_1).toNat * 4)).off + 1, none⟩ = some (.int .i64 ((rd_T37 l1 x5_1).f1)) ∧ w'.cell? ⟨(ad102.add ((x5_1).toNat * 4)).block, (ad102.add ((x5_1).toNat * 4)).off + 2, none⟩ = some (.int .i64 ((rd_T37 l1 x5_1).f2)) ∧ w'.cell? ⟨(ad102.add ((x5_1).toNat * 4)).block, (ad102.add ((x5_1).toNat * 4)).off + 3, none⟩ = some (.slice A102_3 ((rd_T37 l1 x5_1).f3).length c102_3)) (ds := []) #[false, false, false, false, false, false, false, false, false, false] (by kernel_rfl) rfl rfl ⟨((HB.out.cell (World.block_lt_of_cell? w _ hw101_0)).trans hw101_0), ((HB.out.cell (World.block_lt_of_cell? w _ hw101_1)).trans hw101_1), ((HB.out.cell (World.block_lt_of_cell? w _ hw101_2)).trans hw101_2), ((HB.out.cell (World.block_lt_of_cell? w _ hw101_3)).trans hw101_3), ((HB.out.cell (World.block_lt_of_cell? w _ hw102_0)).trans hw102_0), ((HB.out.cell (World.block_lt_of_cell? w _ hw102_1)).trans hw102_1), ((HB.out.cell (World.block_lt_of_cell? w _ hw102_2)).trans hw102_2), ((HB.out.cell (World.block_lt_of_cell? w _ hw102_3)).trans hw102_3)⟩ (fun hHeld => ?_);refine with_tabW laws_eqExS.tab6 laws_eqExS.bits6 (fun HT_ HW_ => ?_)
    generalize wr.drew = w11 at HB HR101_3 HR102_3 hx101_0 hx101_1 hx101_2 hx101_3 hx102_0 hx102_1 hx102_2 hx102_3 hHeld ⊢
    refine pv_ 0 17 #[true, false, false, false, false, false, false, false, false, false] (any_of HT_.out (by kernel_rfl)) ?_
    refine pv_ 1 18 #[true, true, false, false, false, false, false, false, false, false] (any_of HT_.out (by kernel_rfl)) ?_
    refine pv_ 2 19 #[true, true, true, false, false, false, false, false, false, false] (any_of HT_.out (by kernel_rfl)) ?_
    refine pv_ 4 21 #[true, true, true, false, true, false, false, false, false, false] (any_of HT_.out (by kernel_rfl)) ?_
    refine pv_ 5 22 #[true, true, true, false, true, true, false, false, false, false] (any_of HT_.out (by kernel_rfl)) ?_
    refine pv_ 6 23 #[true, true, true, false, true, true, true, false, false, false] (any_of HT_.out (by kernel_rfl)) ?_
    refine take_ (i := 3) (N := some 20) (v := ?_) (a' := ?_) #[true, true, true, true, true, true, true, false, false, false] rfl rfl (take_ofW HT_.out HW_.out (by kernel_rfl)) (fun _ _ _ h => h) (Or.inl ⟨by rfl, ?_⟩) hHeld ?_ ?_
    rotate_left
    ·rintro w' ⟨s0, s1, s2, s3, s4, s5, s6, s7⟩
     go_simp
     with_reducible rfl
    rotate_left
    ·simp only [Act.put, List.setIfInBounds_toArray, List.set_cons_zero, List.set_cons_succ, i64_w, i32_w]
     rfl
    refine take_ (i := 7) (N := some 24) (v := ?_) (a' := ?_) #[true, true, true, true, true, true, true, true, false, false] rfl rfl (take_ofW HT_.out HW_.out (by kernel_rfl)) (fun _ _ _ h => h) (Or.inl ⟨by rfl, ?_⟩) hHeld ?_ ?_
    rotate_left
    ·rintro w' ⟨s0, s1, s2, s3, s4, s5, s6, s7⟩
     go_simp
     with_reducible rfl
    rotate_left
    ·simp only [Act.put, List.setIfInBounds_toArray, List.set_cons_zero, List.set_cons_succ, i64_w, i32_w]
     rfl
    refine one_ (i := 8) (N := some 25) #[true, true, true, true, true, true, true, true, true, false] rfl rfl (one_of HT_.out (by kernel_rfl)) (by decide) (fun K hK => ?_)
    refine goes_ Try.func37 (by kernel_rfl) rfl #[.agg #[.int .i64 ((rd_T37 l0 x5_1).f0), .int .i64 ((rd_T37 l0 x5_1).f1), .int .i64 ((rd_T37 l0 x5_1).f2), .slice A101_3 ((rd_T37 l0 x5_1).f3).length c101_3], .agg #[.int .i64 ((rd_T37 l1 x5_1).f0), .int .i64 ((rd_T37 l1 x5_1).f1), .int .i64 ((rd_T37 l1 x5_1).f2), .slice A102_3 ((rd_T37 l1 x5_1).f3).length c102_3]] (by rfl) rfl rfl (by (try simp only [List.map_toArray, List.map_cons, List.map_nil]);first | done | rfl | (simp only [List.length_drop, List.length_take];rfl)) ?_
    with_reducible refine (ih_37 k1 (by have := HK1.out;omega) ((rd_T37 l0 x5_1).f0) ((rd_T37 l0 x5_1).f1) ((rd_T37 l0 x5_1).f2) _ _ ((rd_T37 l0 x5_1).f3) ((rd_T37 l1 x5_1).f0) ((rd_T37 l1 x5_1).f1) ((rd_T37 l1 x5_1).f2) _ _ ((rd_T37 l1 x5_1).f3) false _ ?side1 ?side2 ?side3 ?side4 A7.out).mono ?_
    (case side1 => repeat (first | exact (Kd.C_below HR101_3.out HB.out) | (with_reducible refine Kd.C_alloc ?_ _) | (with_reducible refine Kd.C_drewN ?_ _) | (with_reducible refine Kd.C_drew ?_)))
    (case side2 => exact HC101_3.out)
    (case side3 => repeat (first | exact (Kd.C_below HR102_3.out HB.out) | (with_reducible refine Kd.C_alloc ?_ _) | (with_reducible refine Kd.C_drewN ?_ _) | (with_reducible refine Kd.C_drew ?_)))
    (case side4 => exact HC102_3.out)
    rintro e w12 ⟨rfl, hb⟩
    refine ⟨_, rfl, ?_⟩
    replace HB := m0_ (below_step (by exact HB.out) hb)
    (try clear hb)
    (try clear hb2)
    (try clear hk)
    (try clear hi)
    refine hK.out _ _ ⟨((HB.out.cell (World.block_lt_of_cell? w _ hw101_0)).trans hw101_0), ((HB.out.cell (World.block_lt_of_cell? w _ hw101_1)).trans hw101_1), ((HB.out.cell (World.block_lt_of_cell? w _ hw101_2)).trans hw101_2), ((HB.out.cell (World.block_lt_of_cell? w _ hw101_3)).trans hw101_3), ((HB.out.cell (World.block_lt_of_cell? w _ hw102_0)).trans hw102_0), ((HB.out.cell (World.block_lt_of_cell? w _ hw102_1)).trans hw102_1), ((HB.out.cell (World.block_lt_of_cell? w _ hw102_2)).trans hw102_2), ((HB.out.cell (World.block_lt_of_cell? w _ hw102_3)).trans hw102_3)⟩ (fun hHeld => ?_)
    clear hK K
    refine norm_ (a' := ?_) ?_ ?_
    rotate_left
    ·show Act.put _ (some 25) _ = _
     simp only [Act.put, List.setIfInBounds_toArray, List.set_cons_zero, List.set_cons_succ, i64_w, i32_w]
     rfl
    refine pv_ 9 26 #[true, true, true, true, true, true, true, true, true, true] (any_of HT_.out (by kernel_rfl)) ?_
    refine done_ (done_of HT_.out (by kernel_rfl)) ?_
    try go_wp2
    go_ret
    exact ⟨by first | rfl | (simp [errW_none, errW_some] <;> rfl) | (simp [*, errW_none, errW_some] <;> rfl), by repeat (first | (with_reducible first | exact HB.out | apply below_alloc | apply pw_below_drewN | apply below_drew1) | exact HB.out)⟩
   subst c8
   have H1 : (laws_eqExS.l0 k1 l0 l1 (wrap64 (x5_1 + 1))) = some r := by rw [if_pos rfl] at H;exact H
   clear H
   have H := H1
   clear H1
   have H' := m0_ H
   clear H
   try go_wp2
   replace HB := m0_ (below_drew1 HB.out)
   have p101 : 0 ≤ (x5_1 : Int) := of_decide_eq_true (by first | (with_reducible assumption) | assumption)
   have q101 : x5_1 < (l0.length : Int) := of_decide_eq_true (by first | (with_reducible assumption) | assumption)
   obtain ⟨ad101, A101_3, c101_3, e101, hx101_0, hx101_1, hx101_2, hx101_3, hl101_3, hi101_3⟩ := at_T37 HR0.out x5_1 p101 q101
   have hw101_3 := hx101_3
   have hw101_2 := hx101_2
   have hw101_1 := hx101_1
   have hw101_0 := hx101_0
   cases e101
   replace hx101_0 := (HB.out.cell (World.block_lt_of_cell? w _ hx101_0)).trans hx101_0
   replace hx101_1 := (HB.out.cell (World.block_lt_of_cell? w _ hx101_1)).trans hx101_1
   replace hx101_2 := (HB.out.cell (World.block_lt_of_cell? w _ hx101_2)).trans hx101_2
   replace hx101_3 := (HB.out.cell (World.block_lt_of_cell? w _ hx101_3)).trans hx101_3
   have HR101_3 := m0_ hi101_3
   have HC101_3 := m0_ hl101_3
   clear hi101_3 hl101_3
   replace p101 := eq_true p101
   replace q101 := eq_true q101
   have p102 : 0 ≤ (x5_1 : Int) := of_decide_eq_true (by first | (with_reducible assumption) | assumption)
   have q102 : x5_1 < (l1.length : Int) := of_decide_eq_true (by first | (with_reducible assumption) | assumption)
   obtain ⟨ad102, A102_3, c102_3, e102, hx102_0, hx102_1, hx102_2, hx102_3, hl102_3, hi102_3⟩ := at_T37 HR1.out x5_1 p102 q102
   have hw102_3 := hx102_3
   have hw102_2 := hx102_2
   have hw102_1 := hx102_1
   have hw102_0 := hx102_0
   cases e102
   replace hx102_0 := (HB.out.cell (World.block_lt_of_cell? w _ hx102_0)).trans hx102_0
   replace hx102_1 := (HB.out.cell (World.block_lt_of_cell? w _ hx102_1)).trans hx102_1
   replace hx102_2 := (HB.out.cell (World.block_lt_of_cell? w _ hx102_2)).trans hx102_2
   replace hx102_3 := (HB.out.cell (World.block_lt_of_cell? w _ hx102_3)).trans hx102_3
   have HR102_3 := m0_ hi102_3
   have HC102_3 := m0_ hl102_3
   clear hi102_3 hl102_3
   replace p102 := eq_true p102
   replace q102 := eq_true q102
   refine start_ (n := 10) (S := fun w' => w'.cell? (ad101.add ((x5_1).toNat * 4)) = some (.int .i64 ((rd_T37 l0 x5_1).f0)) ∧ w'.cell? ⟨(ad101.add ((x5_1).toNat * 4)).block, (ad101.add ((x5_1).toNat * 4)).off + 1, none⟩ = some (.int .i64 ((rd_T37 l0 x5_1).f1)) ∧ w'.cell? ⟨(ad101.add ((x5_1).toNat * 4)).block, (ad101.add ((x5_1).toNat * 4)).off + 2, none⟩ = some (.int .i64 ((rd_T37 l0 x5_1).f2)) ∧ w'.cell? ⟨(ad101.add ((x5_1).toNat * 4)).block, (ad101.add ((x5_1).toNat * 4)).off + 3, none⟩ = some (.slice A101_3 ((rd_T37 l0 x5_1).f3).length c101_3) ∧ w'.cell? (ad102.add ((x5_1).toNat * 4)) = some (.int .i64 ((rd_T37 l1 x5_1).f0)) ∧ w'.cell? ⟨(ad102.add ((x5_1).toNat * 4)).block, (ad102.add ((x5_1).toNat * 4)).off + 1, none⟩ = some (.int .i64 ((rd_T37 l1 x5_1).f1)) ∧ w'.cell? ⟨(ad102.add ((x5_1).toNat * 4)).block, (ad102.add ((x5_1).toNat * 4)).off + 2, none⟩ = some (.int .i64 ((rd_T37 l1 x5_1).f2)) ∧ w'.cell? ⟨(ad102.add ((x5_1).toNat * 4)).block, (ad102.add ((x5_1).toNat * 4)).off + 3, none⟩ = some (.slice A102_3 ((rd_T37 l1 x5_1).f3).length c102_3)) (ds := []) #[false, false, false, false, false, false, false, false, false, false] (by kernel_rfl) rfl rfl ⟨((HB.out.cell (World.block_lt_of_cell? w _ hw101_0)).trans hw101_0), ((HB.out.cell (World.block_lt_of_cell? w _ hw101_1)).trans hw101_1), ((HB.out.cell (World.block_lt_of_cell? w _ hw101_2)).trans hw101_2), ((HB.out.cell (World.block_lt_of_cell? w _ hw101_3)).trans hw101_3), ((HB.out.cell (World.block_lt_of_cell? w _ hw102_0)).trans hw102_0), ((HB.out.cell (World.block_lt_of_cell? w _ hw102_1)).trans hw102_1), ((HB.out.cell (World.block_lt_of_cell? w _ hw102_2)).trans hw102_2), ((HB.out.cell (World.block_lt_of_cell? w _ hw102_3)).trans hw102_3)⟩ (fun hHeld => ?_);refine with_tabW laws_eqExS.tab6 laws_eqExS.bits6 (fun HT_ HW_ => ?_)
   generalize wr.drew = w9 at HB HR101_3 HR102_3 hx101_0 hx101_1 hx101_2 hx101_3 hx102_0 hx102_1 hx102_2 hx102_3 hHeld ⊢
   refine pv_ 0 17 #[true, false, false, false, false, false, false, false, false, false] (any_of HT_.out (by kernel_rfl)) ?_
   refine pv_ 1 18 #[true, true, false, false, false, false, false, false, false, false] (any_of HT_.out (by kernel_rfl)) ?_
   refine pv_ 2 19 #[true, true, true, false, false, false, false, false, false, false] (any_of HT_.out (by kernel_rfl)) ?_
   refine pv_ 4 21 #[true, true, true, false, true, false, false, false, false, false] (any_of HT_.out (by kernel_rfl)) ?_
   refine pv_ 5 22 #[true, true, true, false, true, true, false, false, false, false] (any_of HT_.out (by kernel_rfl)) ?_
   refine pv_ 6 23 #[true, true, true, false, true, true, true, false, false, false] (any_of HT_.out (by kernel_rfl)) ?_
   refine take_ (i := 3) (N := some 20) (v := ?_) (a' := ?_) #[true, true, true, true, true, true, true, false, false, false] rfl rfl (take_ofW HT_.out HW_.out (by kernel_rfl)) (fun _ _ _ h => h) (Or.inl ⟨by rfl, ?_⟩) hHeld ?_ ?_
   rotate_left
   ·rintro w' ⟨s0, s1, s2, s3, s4, s5, s6, s7⟩
    go_simp
    with_reducible rfl
   rotate_left
   ·simp only [Act.put, List.setIfInBounds_toArray, List.set_cons_zero, List.set_cons_succ, i64_w, i32_w]
    rfl
   refine take_ (i := 7) (N := some 24) (v := ?_) (a' := ?_) #[true, true, true, true, true, true, true, true, false, false] rfl rfl (take_ofW HT_.out HW_.out (by kernel_rfl)) (fun _ _ _ h => h) (Or.inl ⟨by rfl, ?_⟩) hHeld ?_ ?_
   rotate_left
   ·rintro w' ⟨s0, s1, s2, s3, s4, s5, s6, s7⟩
    go_simp
    with_reducible rfl
   rotate_left
   ·simp only [Act.put, List.setIfInBounds_toArray, List.set_cons_zero, List.set_cons_succ, i64_w, i32_w]
    rfl
   refine one_ (i := 8) (N := some 25) #[true, true, true, true, true, true, true, true, true, false] rfl rfl (one_of HT_.out (by kernel_rfl)) (by decide) (fun K hK => ?_)
   refine goes_ Try.func37 (by kernel_rfl) rfl #[.agg #[.int .i64 ((rd_T37 l0 x5_1).f0), .int .i64 ((rd_T37 l0 x5_1).f1), .int .i64 ((rd_T37 l0 x5_1).f2), .slice A101_3 ((rd_T37 l0 x5_1).f3).length c101_3], .agg #[.int .i64 ((rd_T37 l1 x5_1).f0), .int .i64 ((rd_T37 l1 x5_1).f1), .int .i64 ((rd_T37 l1 x5_1).f2), .slice A102_3 ((rd_T37 l1 x5_1).f3).length c102_3]] (by rfl) rfl rfl (by (try simp only [List.map_toArray, List.map_cons, List.map_nil]);first | done | rfl | (simp only [List.length_drop, List.length_take];rfl)) ?_
   with_reducible refine (ih_37 k1 (by have := HK1.out;omega) ((rd_T37 l0 x5_1).f0) ((rd_T37 l0 x5_1).f1) ((rd_T37 l0 x5_1).f2) _ _ ((rd_T37 l0 x5_1).f3) ((rd_T37 l1 x5_1).f0) ((rd_T37 l1 x5_1).f1) ((rd_T37 l1 x5_1).f2) _ _ ((rd_T37 l1 x5_1).f3) true _ ?side1 ?side2 ?side3 ?side4 A7.out).mono ?_
   (case side1 => repeat (first | exact (Kd.C_below HR101_3.out HB.out) | (with_reducible refine Kd.C_alloc ?_ _) | (with_reducible refine Kd.C_drewN ?_ _) | (with_reducible refine Kd.C_drew ?_)))
   (case side2 => exact HC101_3.out)
   (case side3 => repeat (first | exact (Kd.C_below HR102_3.out HB.out) | (with_reducible refine Kd.C_alloc ?_ _) | (with_reducible refine Kd.C_drewN ?_ _) | (with_reducible refine Kd.C_drew ?_)))
   (case side4 => exact HC102_3.out)
   rintro e w10 ⟨rfl, hb⟩
   refine ⟨_, rfl, ?_⟩
   replace HB := m0_ (below_step (by exact HB.out) hb)
   (try clear hb)
   (try clear hb2)
   (try clear hk)
   (try clear hi)
   refine hK.out _ _ ⟨((HB.out.cell (World.block_lt_of_cell? w _ hw101_0)).trans hw101_0), ((HB.out.cell (World.block_lt_of_cell? w _ hw101_1)).trans hw101_1), ((HB.out.cell (World.block_lt_of_cell? w _ hw101_2)).trans hw101_2), ((HB.out.cell (World.block_lt_of_cell? w _ hw101_3)).trans hw101_3), ((HB.out.cell (World.block_lt_of_cell? w _ hw102_0)).trans hw102_0), ((HB.out.cell (World.block_lt_of_cell? w _ hw102_1)).trans hw102_1), ((HB.out.cell (World.block_lt_of_cell? w _ hw102_2)).trans hw102_2), ((HB.out.cell (World.block_lt_of_cell? w _ hw102_3)).trans hw102_3)⟩ (fun hHeld => ?_)
   clear hK K
   refine norm_ (a' := ?_) ?_ ?_
   rotate_left
   ·show Act.put _ (some 25) _ = _
    simp only [Act.put, List.setIfInBounds_toArray, List.set_cons_zero, List.set_cons_succ, i64_w, i32_w]
    rfl
   refine pv_ 9 26 #[true, true, true, true, true, true, true, true, true, true] (any_of HT_.out (by kernel_rfl)) ?_
   refine done_ (done_of HT_.out (by kernel_rfl)) ?_
   try go_wp2
   go_roundg k1
   case measure => have := HK1.out;omega
   case rel => exact ⟨(wrap64 (x5_1 + 1)), (by first | rfl | (simp;done) | (simp [*];done)), H', ⟨by have := HK1.out;omega⟩, ⟨by repeat (first | (with_reducible first | exact HB.out | apply below_alloc | apply pw_below_drewN | apply below_drew1) | exact HB.out)⟩⟩


set_option maxHeartbeats 8000000 in
set_option maxRecDepth 100000 in
theorem laws_eqEx.calls_step (k : Nat) (ih_70 : ∀ k_, k_ < k → ∀ (A0 : Option Addr) (c0 : Nat) (l0 : List (S37)) (A1 : Option Addr) (c1 : Nat) (l1 : List (S37)) (r : Bool) (w : World) (hr0 : Kd.C k37 w A0 l0.length l0) (hc0 : l0.length ≤ c0) (hr1 : Kd.C k37 w A1 l1.length l1) (hc1 : l1.length ≤ c1) (h : laws_eqExS.f k_ l0 l1 = some r),
  Calls Try.prog 70 #[.slice A0 l0.length c0, .slice A1 l1.length c1] w fun e w' => e = .returned (.bool r) ∧ Below w.heap.size w w') (ih_37 : ∀ k_, k_ < k → ∀ (a0_0 : Int) (a0_1 : Int) (a0_2 : Int) (A0_3 : Option Addr) (c0_3 : Nat) (l0_3 : List (S37)) (a1_0 : Int) (a1_1 : Int) (a1_2 : Int) (A1_3 : Option Addr) (c1_3 : Nat) (l1_3 : List (S37)) (r : Bool) (w : World) (hr0_3 : Kd.C k37 w A0_3 l0_3.length l0_3) (hc0_3 : l0_3.length ≤ c0_3) (hr1_3 : Kd.C k37 w A1_3 l1_3.length l1_3) (hc1_3 : l1_3.length ≤ c1_3) (h : laws_eqEx.f k_ a0_0 a0_1 a0_2 l0_3 a1_0 a1_1 a1_2 l1_3 = some r),
  Calls Try.prog 37 #[.agg #[.int .i64 a0_0, .int .i64 a0_1, .int .i64 a0_2, .slice A0_3 l0_3.length c0_3], .agg #[.int .i64 a1_0, .int .i64 a1_1, .int .i64 a1_2, .slice A1_3 l1_3.length c1_3]] w fun e w' => e = .returned (.bool r) ∧ Below w.heap.size w w') : ∀ (a0_0 : Int) (a0_1 : Int) (a0_2 : Int) (A0_3 : Option Addr) (c0_3 : Nat) (l0_3 : List (S37)) (a1_0 : Int) (a1_1 : Int) (a1_2 : Int) (A1_3 : Option Addr) (c1_3 : Nat) (l1_3 : List (S37)) (r : Bool) (w : World) (hr0_3 : Kd.C k37 w A0_3 l0_3.length l0_3) (hc0_3 : l0_3.length ≤ c0_3) (hr1_3 : Kd.C k37 w A1_3 l1_3.length l1_3) (hc1_3 : l1_3.length ≤ c1_3) (h : laws_eqEx.f k a0_0 a0_1 a0_2 l0_3 a1_0 a1_1 a1_2 l1_3 = some r),
  Calls Try.prog 37 #[.agg #[.int .i64 a0_0, .int .i64 a0_1, .int .i64 a0_2, .slice A0_3 l0_3.length c0_3], .agg #[.int .i64 a1_0, .int .i64 a1_1, .int .i64 a1_2, .slice A1_3 l1_3.length c1_3]] w fun e w' => e = .returned (.bool r) ∧ Below w.heap.size w w' := by
 intro a0_0 a0_1 a0_2 A0_3 c0_3 l0_3 a1_0 a1_1 a1_2 A1_3 c1_3 l1_3 r w hr0_3 hc0_3 hr1_3 hc1_3 h
 cases k with
 | zero => exact absurd h (by simp [laws_eqEx.f])
 | succ k =>
 simp only [laws_eqEx.f] at h
 have hu37 := Try.underlying37
 have HR0_3 := m0_ hr0_3
 have HC0_3 := m0_ hc0_3
 clear hr0_3 hc0_3
 have HR1_3 := m0_ hr1_3
 have HC1_3 := m0_ hc1_3
 clear hr1_3 hc1_3
 have HB := m0_ (Below.refl w.heap.size w)
 have H : (if a0_0 = a1_0 then (if a0_1 = a1_1 then (if a0_2 = a1_2 then ((laws_eqExS.f k l0_3 l1_3).bind fun t106 => (if t106 = true then (some true) else (some false))) else (some false)) else (some false)) else (some false)) = some r := h
 clear h
 by_cases c3 : a0_0 = a1_0
 rotate_left
 ·rw [if_neg c3] at H
  have c3b0 : (a0_0 == a1_0) = false := beq_eq_false_iff_ne.mpr c3
  have c3b1 : (a0_0 != a1_0) = true := bne_iff_ne.mpr c3
  obtain rfl := Option.some.inj H
  go_enter Try.func37, Try.ntmps37
  go_wp2_with (first | ((with_reducible refine gate_dst (N := 2) rfl ?_);refine box_event ?hg (N := 2) ?hd (cs := #[.int .i64 a0_0, .int .i64 a0_1, .int .i64 a0_2, .slice A0_3 l0_3.length c0_3]) (t := 37) ?hr ?_;(case hd => rfl);(case hg => rfl);(case hr => first | (go_simp;done) | (go_simp;rfl));intro gb104 hg w30 hbox hb;have BK104 := m0_ (hbox);have GW104 := m0_ ((by rw [hg];exact (below_size (by exact HB.out)) : w.heap.size ≤ gb104));have GE104 := m0_ ((by rw [hg];exact (below_size (by exact HB.out)) : w.heap.size ≤ gb104));replace HB := m0_ (below_step (by exact HB.out) hb);clear hb hbox hg) | ((with_reducible refine gate_dst (N := 3) rfl ?_);refine box_event ?hg (N := 3) ?hd (cs := #[.int .i64 a1_0, .int .i64 a1_1, .int .i64 a1_2, .slice A1_3 l1_3.length c1_3]) (t := 37) ?hr ?_;(case hd => rfl);(case hg => rfl);(case hr => first | (go_simp;done) | (go_simp;rfl));intro gb105 hg w31 hbox hb;have BK105 := m0_ (hbox);have GW105 := m0_ ((by rw [hg];exact (below_size (by exact HB.out)) : w.heap.size ≤ gb105));have GE105 := m0_ ((by rw [hg];exact (below_size (by exact HB.out)) : w.heap.size ≤ gb105));replace HB := m0_ (below_step (by exact HB.out) hb);have NB104_105 := m0_ ((by rw [hg];exact Nat.ne_of_lt (blk_lt BK104.out) : gb104 ≠ gb105));have NB105_104 := m0_ ((by rw [hg];exact Nat.ne_of_gt (blk_lt BK104.out) : gb105 ≠ gb104));replace BK104 := m0_ (blk_below BK104.out hb);clear hb hbox hg;have hnb32 := NB104_105.out;have hnc32 := NB105_104.out;obtain ⟨hcz33_0, hcz33_1, hcz33_2, hcz33_3, hfz33_0, hfz33_1, hfz33_2, hfz33_3⟩ := bx4 BK104.out;obtain ⟨hcz34_0, hcz34_1, hcz34_2, hcz34_3, hfz34_0, hfz34_1, hfz34_2, hfz34_3⟩ := bx4 BK105.out))
  go_ret
  exact ⟨by first | rfl | (simp [errW_none, errW_some] <;> rfl) | (simp [*, errW_none, errW_some] <;> rfl), by repeat (first | (with_reducible first | exact HB.out | apply below_alloc | apply pw_below_drewN | apply below_drew1 | refine below_set ?_ GE104.out | refine below_set ?_ GE105.out) | exact HB.out)⟩
 rw [if_pos c3] at H
 have c3b0 : (a0_0 == a1_0) = true := beq_iff_eq.mpr c3
 have c3b1 : (a0_0 != a1_0) = false := bne_eq_false_iff_eq.mpr c3
 clear c3
 by_cases c4 : a0_1 = a1_1
 rotate_left
 ·rw [if_neg c4] at H
  have c4b0 : (a0_1 == a1_1) = false := beq_eq_false_iff_ne.mpr c4
  have c4b1 : (a0_1 != a1_1) = true := bne_iff_ne.mpr c4
  obtain rfl := Option.some.inj H
  go_enter Try.func37, Try.ntmps37
  go_wp2_with (first | ((with_reducible refine gate_dst (N := 2) rfl ?_);refine box_event ?hg (N := 2) ?hd (cs := #[.int .i64 a0_0, .int .i64 a0_1, .int .i64 a0_2, .slice A0_3 l0_3.length c0_3]) (t := 37) ?hr ?_;(case hd => rfl);(case hg => rfl);(case hr => first | (go_simp;done) | (go_simp;rfl));intro gb104 hg w25 hbox hb;have BK104 := m0_ (hbox);have GW104 := m0_ ((by rw [hg];exact (below_size (by exact HB.out)) : w.heap.size ≤ gb104));have GE104 := m0_ ((by rw [hg];exact (below_size (by exact HB.out)) : w.heap.size ≤ gb104));replace HB := m0_ (below_step (by exact HB.out) hb);clear hb hbox hg) | ((with_reducible refine gate_dst (N := 3) rfl ?_);refine box_event ?hg (N := 3) ?hd (cs := #[.int .i64 a1_0, .int .i64 a1_1, .int .i64 a1_2, .slice A1_3 l1_3.length c1_3]) (t := 37) ?hr ?_;(case hd => rfl);(case hg => rfl);(case hr => first | (go_simp;done) | (go_simp;rfl));intro gb105 hg w26 hbox hb;have BK105 := m0_ (hbox);have GW105 := m0_ ((by rw [hg];exact (below_size (by exact HB.out)) : w.heap.size ≤ gb105));have GE105 := m0_ ((by rw [hg];exact (below_size (by exact HB.out)) : w.heap.size ≤ gb105));replace HB := m0_ (below_step (by exact HB.out) hb);have NB104_105 := m0_ ((by rw [hg];exact Nat.ne_of_lt (blk_lt BK104.out) : gb104 ≠ gb105));have NB105_104 := m0_ ((by rw [hg];exact Nat.ne_of_gt (blk_lt BK104.out) : gb105 ≠ gb104));replace BK104 := m0_ (blk_below BK104.out hb);clear hb hbox hg;have hnb27 := NB104_105.out;have hnc27 := NB105_104.out;obtain ⟨hcz28_0, hcz28_1, hcz28_2, hcz28_3, hfz28_0, hfz28_1, hfz28_2, hfz28_3⟩ := bx4 BK104.out;obtain ⟨hcz29_0, hcz29_1, hcz29_2, hcz29_3, hfz29_0, hfz29_1, hfz29_2, hfz29_3⟩ := bx4 BK105.out))
  go_ret
  exact ⟨by first | rfl | (simp [errW_none, errW_some] <;> rfl) | (simp [*, errW_none, errW_some] <;> rfl), by repeat (first | (with_reducible first | exact HB.out | apply below_alloc | apply pw_below_drewN | apply below_drew1 | refine below_set ?_ GE104.out | refine below_set ?_ GE105.out) | exact HB.out)⟩
 rw [if_pos c4] at H
 have c4b0 : (a0_1 == a1_1) = true := beq_iff_eq.mpr c4
 have c4b1 : (a0_1 != a1_1) = false := bne_eq_false_iff_eq.mpr c4
 clear c4
 by_cases c5 : a0_2 = a1_2
 rotate_left
 ·rw [if_neg c5] at H
  have c5b0 : (a0_2 == a1_2) = false := beq_eq_false_iff_ne.mpr c5
  have c5b1 : (a0_2 != a1_2) = true := bne_iff_ne.mpr c5
  obtain rfl := Option.some.inj H
  go_enter Try.func37, Try.ntmps37
  go_wp2_with (first | ((with_reducible refine gate_dst (N := 2) rfl ?_);refine box_event ?hg (N := 2) ?hd (cs := #[.int .i64 a0_0, .int .i64 a0_1, .int .i64 a0_2, .slice A0_3 l0_3.length c0_3]) (t := 37) ?hr ?_;(case hd => rfl);(case hg => rfl);(case hr => first | (go_simp;done) | (go_simp;rfl));intro gb104 hg w20 hbox hb;have BK104 := m0_ (hbox);have GW104 := m0_ ((by rw [hg];exact (below_size (by exact HB.out)) : w.heap.size ≤ gb104));have GE104 := m0_ ((by rw [hg];exact (below_size (by exact HB.out)) : w.heap.size ≤ gb104));replace HB := m0_ (below_step (by exact HB.out) hb);clear hb hbox hg) | ((with_reducible refine gate_dst (N := 3) rfl ?_);refine box_event ?hg (N := 3) ?hd (cs := #[.int .i64 a1_0, .int .i64 a1_1, .int .i64 a1_2, .slice A1_3 l1_3.length c1_3]) (t := 37) ?hr ?_;(case hd => rfl);(case hg => rfl);(case hr => first | (go_simp;done) | (go_simp;rfl));intro gb105 hg w21 hbox hb;have BK105 := m0_ (hbox);have GW105 := m0_ ((by rw [hg];exact (below_size (by exact HB.out)) : w.heap.size ≤ gb105));have GE105 := m0_ ((by rw [hg];exact (below_size (by exact HB.out)) : w.heap.size ≤ gb105));replace HB := m0_ (below_step (by exact HB.out) hb);have NB104_105 := m0_ ((by rw [hg];exact Nat.ne_of_lt (blk_lt BK104.out) : gb104 ≠ gb105));have NB105_104 := m0_ ((by rw [hg];exact Nat.ne_of_gt (blk_lt BK104.out) : gb105 ≠ gb104));replace BK104 := m0_ (blk_below BK104.out hb);clear hb hbox hg;have hnb22 := NB104_105.out;have hnc22 := NB105_104.out;obtain ⟨hcz23_0, hcz23_1, hcz23_2, hcz23_3, hfz23_0, hfz23_1, hfz23_2, hfz23_3⟩ := bx4 BK104.out;obtain ⟨hcz24_0, hcz24_1, hcz24_2, hcz24_3, hfz24_0, hfz24_1, hfz24_2, hfz24_3⟩ := bx4 BK105.out))
  go_ret
  exact ⟨by first | rfl | (simp [errW_none, errW_some] <;> rfl) | (simp [*, errW_none, errW_some] <;> rfl), by repeat (first | (with_reducible first | exact HB.out | apply below_alloc | apply pw_below_drewN | apply below_drew1 | refine below_set ?_ GE104.out | refine below_set ?_ GE105.out) | exact HB.out)⟩
 rw [if_pos c5] at H
 have c5b0 : (a0_2 == a1_2) = true := beq_iff_eq.mpr c5
 have c5b1 : (a0_2 != a1_2) = false := bne_eq_false_iff_eq.mpr c5
 clear c5
 replace H := Option.bind_eq_some_iff.mp H
 obtain ⟨t106, A60, H⟩ := H
 replace H : (if t106 = true then (some true) else (some false)) = some r := H
 have A6 := m0_ A60
 clear A60
 by_cases c7 : t106 = true
 ·subst c7
  have H1 : (some true) = some r := by rw [if_pos rfl] at H;exact H
  clear H
  have H := H1
  clear H1
  obtain rfl := Option.some.inj H
  go_enter Try.func37, Try.ntmps37
  go_wp2_with (first | ((with_reducible refine gate_dst (N := 2) rfl ?_);refine box_event ?hg (N := 2) ?hd (cs := #[.int .i64 a0_0, .int .i64 a0_1, .int .i64 a0_2, .slice A0_3 l0_3.length c0_3]) (t := 37) ?hr ?_;(case hd => rfl);(case hg => rfl);(case hr => first | (go_simp;done) | (go_simp;rfl));intro gb104 hg w8 hbox hb;have BK104 := m0_ (hbox);have GW104 := m0_ ((by rw [hg];exact (below_size (by exact HB.out)) : w.heap.size ≤ gb104));have GE104 := m0_ ((by rw [hg];exact (below_size (by exact HB.out)) : w.heap.size ≤ gb104));replace HB := m0_ (below_step (by exact HB.out) hb);clear hb hbox hg) | ((with_reducible refine gate_dst (N := 3) rfl ?_);refine box_event ?hg (N := 3) ?hd (cs := #[.int .i64 a1_0, .int .i64 a1_1, .int .i64 a1_2, .slice A1_3 l1_3.length c1_3]) (t := 37) ?hr ?_;(case hd => rfl);(case hg => rfl);(case hr => first | (go_simp;done) | (go_simp;rfl));intro gb105 hg w9 hbox hb;have BK105 := m0_ (hbox);have GW105 := m0_ ((by rw [hg];exact (below_size (by exact HB.out)) : w.heap.size ≤ gb105));have GE105 := m0_ ((by rw [hg];exact (below_size (by exact HB.out)) : w.heap.size ≤ gb105));replace HB := m0_ (below_step (by exact HB.out) hb);have NB104_105 := m0_ ((by rw [hg];exact Nat.ne_of_lt (blk_lt BK104.out) : gb104 ≠ gb105));have NB105_104 := m0_ ((by rw [hg];exact Nat.ne_of_gt (blk_lt BK104.out) : gb105 ≠ gb104));replace BK104 := m0_ (blk_below BK104.out hb);clear hb hbox hg;have hnb10 := NB104_105.out;have hnc10 := NB105_104.out;obtain ⟨hcz11_0, hcz11_1, hcz11_2, hcz11_3, hfz11_0, hfz11_1, hfz11_2, hfz11_3⟩ := bx4 BK104.out;obtain ⟨hcz12_0, hcz12_1, hcz12_2, hcz12_3, hfz12_0, hfz12_1, hfz12_2, hfz12_3⟩ := bx4 BK105.out) | ((with_reducible refine gate_callee (f := 70) rfl ?_);refine goesL_ (some 24) rfl rfl Try.func70 (by kernel_rfl) rfl #[.slice A0_3 l0_3.length c0_3, .slice A1_3 l1_3.length c1_3] rfl (by (try simp only [List.map_toArray, List.map_cons, List.map_nil]);first | done | rfl | (simp only [List.length_drop, List.length_take];rfl)) ?_;(with_reducible refine (ih_70 k (by omega) _ _ l0_3 _ _ l1_3 true _ ?side1 ?side2 ?side3 ?side4 A6.out).mono ?_);(case side1 => repeat (first | exact (Kd.C_below HR0_3.out HB.out) | (with_reducible refine Kd.C_alloc ?_ _) | (with_reducible refine Kd.C_drewN ?_ _) | (with_reducible refine Kd.C_drew ?_)));(case side2 => exact HC0_3.out);(case side3 => repeat (first | exact (Kd.C_below HR1_3.out HB.out) | (with_reducible refine Kd.C_alloc ?_ _) | (with_reducible refine Kd.C_drewN ?_ _) | (with_reducible refine Kd.C_drew ?_)));(case side4 => exact HC1_3.out);rintro e w13 ⟨rfl, hb⟩;refine ⟨_, rfl, ?_⟩;replace BK104 := m0_ (blk_below BK104.out hb);replace BK105 := m0_ (blk_below BK105.out hb);replace HB := m0_ (below_step (by exact HB.out) hb);(try clear hb);(try clear hb2);(try clear hk);(try clear hi)))
  go_ret
  exact ⟨by first | rfl | (simp [errW_none, errW_some] <;> rfl) | (simp [*, errW_none, errW_some] <;> rfl), by repeat (first | (with_reducible first | exact HB.out | apply below_alloc | apply pw_below_drewN | apply below_drew1 | refine below_set ?_ GE104.out | refine below_set ?_ GE105.out) | exact HB.out)⟩
 replace c7 := Bool.eq_false_iff.mpr c7
 subst c7
 have H1 : (some false) = some r := by rw [if_neg (show ¬ (false = true) by decide)] at H;exact H
 clear H
 have H := H1
 clear H1
 obtain rfl := Option.some.inj H
 go_enter Try.func37, Try.ntmps37
 go_wp2_with (first | ((with_reducible refine gate_dst (N := 2) rfl ?_);refine box_event ?hg (N := 2) ?hd (cs := #[.int .i64 a0_0, .int .i64 a0_1, .int .i64 a0_2, .slice A0_3 l0_3.length c0_3]) (t := 37) ?hr ?_;(case hd => rfl);(case hg => rfl);(case hr => first | (go_simp;done) | (go_simp;rfl));intro gb104 hg w14 hbox hb;have BK104 := m0_ (hbox);have GW104 := m0_ ((by rw [hg];exact (below_size (by exact HB.out)) : w.heap.size ≤ gb104));have GE104 := m0_ ((by rw [hg];exact (below_size (by exact HB.out)) : w.heap.size ≤ gb104));replace HB := m0_ (below_step (by exact HB.out) hb);clear hb hbox hg) | ((with_reducible refine gate_dst (N := 3) rfl ?_);refine box_event ?hg (N := 3) ?hd (cs := #[.int .i64 a1_0, .int .i64 a1_1, .int .i64 a1_2, .slice A1_3 l1_3.length c1_3]) (t := 37) ?hr ?_;(case hd => rfl);(case hg => rfl);(case hr => first | (go_simp;done) | (go_simp;rfl));intro gb105 hg w15 hbox hb;have BK105 := m0_ (hbox);have GW105 := m0_ ((by rw [hg];exact (below_size (by exact HB.out)) : w.heap.size ≤ gb105));have GE105 := m0_ ((by rw [hg];exact (below_size (by exact HB.out)) : w.heap.size ≤ gb105));replace HB := m0_ (below_step (by exact HB.out) hb);have NB104_105 := m0_ ((by rw [hg];exact Nat.ne_of_lt (blk_lt BK104.out) : gb104 ≠ gb105));have NB105_104 := m0_ ((by rw [hg];exact Nat.ne_of_gt (blk_lt BK104.out) : gb105 ≠ gb104));replace BK104 := m0_ (blk_below BK104.out hb);clear hb hbox hg;have hnb16 := NB104_105.out;have hnc16 := NB105_104.out;obtain ⟨hcz17_0, hcz17_1, hcz17_2, hcz17_3, hfz17_0, hfz17_1, hfz17_2, hfz17_3⟩ := bx4 BK104.out;obtain ⟨hcz18_0, hcz18_1, hcz18_2, hcz18_3, hfz18_0, hfz18_1, hfz18_2, hfz18_3⟩ := bx4 BK105.out) | ((with_reducible refine gate_callee (f := 70) rfl ?_);refine goesL_ (some 24) rfl rfl Try.func70 (by kernel_rfl) rfl #[.slice A0_3 l0_3.length c0_3, .slice A1_3 l1_3.length c1_3] rfl (by (try simp only [List.map_toArray, List.map_cons, List.map_nil]);first | done | rfl | (simp only [List.length_drop, List.length_take];rfl)) ?_;(with_reducible refine (ih_70 k (by omega) _ _ l0_3 _ _ l1_3 false _ ?side1 ?side2 ?side3 ?side4 A6.out).mono ?_);(case side1 => repeat (first | exact (Kd.C_below HR0_3.out HB.out) | (with_reducible refine Kd.C_alloc ?_ _) | (with_reducible refine Kd.C_drewN ?_ _) | (with_reducible refine Kd.C_drew ?_)));(case side2 => exact HC0_3.out);(case side3 => repeat (first | exact (Kd.C_below HR1_3.out HB.out) | (with_reducible refine Kd.C_alloc ?_ _) | (with_reducible refine Kd.C_drewN ?_ _) | (with_reducible refine Kd.C_drew ?_)));(case side4 => exact HC1_3.out);rintro e w19 ⟨rfl, hb⟩;refine ⟨_, rfl, ?_⟩;replace BK104 := m0_ (blk_below BK104.out hb);replace BK105 := m0_ (blk_below BK105.out hb);replace HB := m0_ (below_step (by exact HB.out) hb);(try clear hb);(try clear hb2);(try clear hk);(try clear hi)))
 go_ret
 exact ⟨by first | rfl | (simp [errW_none, errW_some] <;> rfl) | (simp [*, errW_none, errW_some] <;> rfl), by repeat (first | (with_reducible first | exact HB.out | apply below_alloc | apply pw_below_drewN | apply below_drew1 | refine below_set ?_ GE104.out | refine below_set ?_ GE105.out) | exact HB.out)⟩

theorem laws_eqExS.calls_all (k : Nat) : (∀ (A0 : Option Addr) (c0 : Nat) (l0 : List (S37)) (A1 : Option Addr) (c1 : Nat) (l1 : List (S37)) (r : Bool) (w : World) (hr0 : Kd.C k37 w A0 l0.length l0) (hc0 : l0.length ≤ c0) (hr1 : Kd.C k37 w A1 l1.length l1) (hc1 : l1.length ≤ c1) (h : laws_eqExS.f k l0 l1 = some r),
  Calls Try.prog 70 #[.slice A0 l0.length c0, .slice A1 l1.length c1] w fun e w' => e = .returned (.bool r) ∧ Below w.heap.size w w') ∧ (∀ (a0_0 : Int) (a0_1 : Int) (a0_2 : Int) (A0_3 : Option Addr) (c0_3 : Nat) (l0_3 : List (S37)) (a1_0 : Int) (a1_1 : Int) (a1_2 : Int) (A1_3 : Option Addr) (c1_3 : Nat) (l1_3 : List (S37)) (r : Bool) (w : World) (hr0_3 : Kd.C k37 w A0_3 l0_3.length l0_3) (hc0_3 : l0_3.length ≤ c0_3) (hr1_3 : Kd.C k37 w A1_3 l1_3.length l1_3) (hc1_3 : l1_3.length ≤ c1_3) (h : laws_eqEx.f k a0_0 a0_1 a0_2 l0_3 a1_0 a1_1 a1_2 l1_3 = some r),
  Calls Try.prog 37 #[.agg #[.int .i64 a0_0, .int .i64 a0_1, .int .i64 a0_2, .slice A0_3 l0_3.length c0_3], .agg #[.int .i64 a1_0, .int .i64 a1_1, .int .i64 a1_2, .slice A1_3 l1_3.length c1_3]] w fun e w' => e = .returned (.bool r) ∧ Below w.heap.size w w') := by
 induction k using Nat.strongRecOn with
 | _ k ih =>
 exact ⟨laws_eqExS.calls_step k (fun k_ h_ => (ih k_ h_).1) (fun k_ h_ => (ih k_ h_).2), laws_eqEx.calls_step k (fun k_ h_ => (ih k_ h_).1) (fun k_ h_ => (ih k_ h_).2)⟩
theorem laws_eqEx.calls (k : Nat) : ∀ (a0_0 : Int) (a0_1 : Int) (a0_2 : Int) (A0_3 : Option Addr) (c0_3 : Nat) (l0_3 : List (S37)) (a1_0 : Int) (a1_1 : Int) (a1_2 : Int) (A1_3 : Option Addr) (c1_3 : Nat) (l1_3 : List (S37)) (r : Bool) (w : World) (hr0_3 : Kd.C k37 w A0_3 l0_3.length l0_3) (hc0_3 : l0_3.length ≤ c0_3) (hr1_3 : Kd.C k37 w A1_3 l1_3.length l1_3) (hc1_3 : l1_3.length ≤ c1_3) (h : laws_eqEx.f k a0_0 a0_1 a0_2 l0_3 a1_0 a1_1 a1_2 l1_3 = some r),
  Calls Try.prog 37 #[.agg #[.int .i64 a0_0, .int .i64 a0_1, .int .i64 a0_2, .slice A0_3 l0_3.length c0_3], .agg #[.int .i64 a1_0, .int .i64 a1_1, .int .i64 a1_2, .slice A1_3 l1_3.length c1_3]] w fun e w' => e = .returned (.bool r) ∧ Below w.heap.size w w' := (laws_eqExS.calls_all k).2

end Go.Proofs.Ytdljhokealbnnaa.M
namespace Go.Proofs.Ytdljhokealbnnaa.M
set_option linter.unusedVariables false
set_option linter.unusedSimpArgs false
open Go Go.RowKit Go.Proofs.YtdljhokealbnnaaW.PrintWords Go.Proofs.YtdljhokealbnnaaW.PrintLast Go.Proofs.YtdljhokealbnnaaW.PrintMore

theorem keep_setRow {w : World} {g : Nat} (cs : Array Value) : KeepBut w (w.setRow g cs) g none := ⟨by simp [World.setRow], fun k _ hk _ => setRow_other w g k cs hk⟩
theorem store_blk {P : Program} {ops : Array Oper} {rest : List Oper} {o : Oper} {a : Act} {Q : Exit → Act → World → Prop} {W w0 : World} {base : Nat} (hgd : o.guard = none) (hN : o.dst = none) {t e : TypeId} {p : Tmp} {v : Operand} (ho : o.op = .store t (.tmp p) v) {g off : Nat} {cur cur' : Array Value} {u : Value} {seg : List Value}
    (hp : a.eval (.tmp p) = .pointer (some ⟨g, off, none⟩)) (hx : a.eval v = u) (hg : W.heap[g]? = some (.cells cur e (0, 0))) (hu : u.cells.toList = seg) (ht : (P.info? t).map (·.size) = some seg.length) (h1 : ∀ q ∈ seg, q.oneCell' = true) (hfit : off + seg.length ≤ cur.size) (hcur : (cur.toList.take off ++ seg ++ cur.toList.drop (off + seg.length)).toArray = cur')
    (hB : Below base w0 W) (hbg : base ≤ g)
    (h : ∀ w', w'.heap[g]? = some (.cells cur' e (0, 0)) → KeepBut W w' g none → Below base w0 w' → wpList P ops Q rest a w') : wpList P ops Q (o :: rest) a W := by
  obtain ⟨i, hi, hsz⟩ := Option.map_eq_some_iff.1 ht
  have hc : u.cells.size = i.size := by rw [hsz, ← hu, Array.length_toList]
  have hst := run_storeCells_at P g off e seg 0 cur W hg (by simpa using hfit) h1
  refine wpList_plain hgd fun K hK => ?_
  have hrun : (execOp a.eval o).run P W = .ok .skip (W.setRow g (cur.toList.take off ++ seg ++ cur.toList.drop (off + seg.length)).toArray) := by
    rw [Nat.add_zero] at hst
    simp [execOp, ho, hp, hx, Instr.storeAt, Instr.sureAddr, storeVar, sizeOf, typeInfo, hi, hc, hu, hst, Result.andThen]
  unfold Oper.wp
  rw [hrun]
  show K (a.put o.dst undef) _
  rw [hN]
  refine hK _ _ (h _ ?_ (keep_setRow _) (below_setRow hB hbg _))
  rw [setRow_heap W g cur _ e _ hg, hcur]
theorem blk_keep {w w1 : World} {g g' : Nat} {o : Obj} (h : w.heap[g']? = some o) (hk : KeepBut w w1 g none) (hne : g' ≠ g) : w1.heap[g']? = some o := (hk.2 g' (blk_lt h) hne (by simp)).trans h
end Go.Proofs.Ytdljhokealbnnaa.M
namespace Go.Proofs.Ytdljhokealbnnaa.M
open Go.RowKit Go.Proofs.YtdljhokealbnnaaW.PrintWords Go.Proofs.YtdljhokealbnnaaW.PrintLast Go.Proofs.YtdljhokealbnnaaW.PrintMore
attribute [local go_sem] max2_int min2_int max_two min_two max_three min_three max_four min_four
set_option linter.unusedVariables false
set_option linter.unusedSimpArgs false

def slices_Equal_int_int.l0 : Nat → List Int → List Int → Int → Int → Option (Bool)
 | 0, _, _, _, _ => none
 | k + 1, x0, x1, x12, x13 => if x13 < x12 then (if 0 ≤ x13 then (if x13 < (x0.length : Int) then (if x13 < (x1.length : Int) then (if (rd x0 x13) = (rd x1 x13) then (slices_Equal_int_int.l0 k x0 x1 x12 (wrap64 (x13 + 1))) else (some false)) else (none)) else (none)) else (none)) else (some true)
def slices_Equal_int_int.f (k : Nat) (l0 : List Int) (l1 : List Int) : Option (Bool) := if (l0.length : Int) = (l1.length : Int) then (slices_Equal_int_int.l0 k l0 l1 (l0.length : Int) 0) else (some false)
set_option maxHeartbeats 8000000 in
set_option maxRecDepth 100000 in
theorem slices_Equal_int_int.calls (k : Nat) (A0 : Option Addr) (c0 : Nat) (l0 : List Int) (A1 : Option Addr) (c1 : Nat) (l1 : List Int) (r : Bool) (w : World) (hr0 : Kd.C (Kd.int .i64) w A0 l0.length l0) (hc0 : l0.length ≤ c0) (hr1 : Kd.C (Kd.int .i64) w A1 l1.length l1) (hc1 : l1.length ≤ c1) (h : slices_Equal_int_int.f k l0 l1 = some r) :
  Calls Try.prog 83 #[.slice A0 l0.length c0, .slice A1 l1.length c1] w fun e w' => e = .returned (.bool r) ∧ Drawn0 w w' := by
 have HR0 := m0_ hr0
 have HC0 := m0_ hc0
 clear hr0 hc0
 have HR1 := m0_ hr1
 have HC1 := m0_ hc1
 clear hr1 hc1
 have H : (if (l0.length : Int) = (l1.length : Int) then (slices_Equal_int_int.l0 k l0 l1 (l0.length : Int) 0) else (some false)) = some r := h
 clear h
 by_cases c3 : (l0.length : Int) = (l1.length : Int)
 rotate_left
 ·rw [if_neg c3] at H
  have c3b0 : ((l0.length : Int) == (l1.length : Int)) = false := beq_eq_false_iff_ne.mpr c3
  have c3b1 : ((l0.length : Int) != (l1.length : Int)) = true := bne_iff_ne.mpr c3
  have c3b2 : (l0.length == l1.length) = false := by first | simpa using c3 | (simp at c3 ⊢;omega)
  obtain rfl := Option.some.inj H
  go_enter Try.func83, Try.ntmps83
  go_wp2
  repeat (go_quiet (fail);try go_wp2)
  go_ret
  exact ⟨by first | rfl | (simp;done) | (simp [*];done), by repeat (first | exact Drawn0.refl _ | apply Drawn0.step)⟩
 rw [if_pos c3] at H
 have c3b0 : ((l0.length : Int) == (l1.length : Int)) = true := beq_iff_eq.mpr c3
 have c3b1 : ((l0.length : Int) != (l1.length : Int)) = false := bne_eq_false_iff_eq.mpr c3
 have c3b2 : (l0.length == l1.length) = true := by first | simpa using c3 | (simp at c3 ⊢;omega)
 clear c3
 have H' := m0_ H
 clear H
 go_enter Try.func83, Try.ntmps83
 go_wp2
 repeat (go_quiet (fail);try go_wp2)
 go_loopg [13] k (fun kq v13 w' => ∃ (x13_1 : Int), v13 = .int .i64 x13_1 ∧ Aside0 (slices_Equal_int_int.l0 kq l0 l1 (l0.length : Int) x13_1 = some r) ∧ Aside0 (kq ≤ k) ∧ Drawn0 w w')
 case atStart => exact ⟨(0), (by first | rfl | (simp;done) | (simp [*];done)), H', ⟨Nat.le_refl _⟩, by repeat (first | exact Drawn0.refl _ | apply Drawn0.step)⟩
 case round =>
  clear H'
  try clear c1
  try clear p2
  try clear c3
  try clear c3b0
  try clear c3b1
  try clear c3b2
  obtain ⟨x13_1, rfl, HA, HK1, ⟨m1, rfl⟩⟩ := hrel
  cases gk with
  | zero => exact absurd HA.out (by simp [slices_Equal_int_int.l0])
  | succ k1 =>
   have H := HA.out
   clear HA
   simp only [slices_Equal_int_int.l0] at H
   by_cases c4 : x13_1 < (l0.length : Int)
   rotate_left
   ·rw [if_neg c4] at H
    have c4b0 : decide (x13_1 < (l0.length : Int)) = false := decide_eq_false c4
    clear c4
    obtain rfl := Option.some.inj H
    go_wp2
    repeat (go_quiet (fail);try go_wp2)
    go_ret
    exact ⟨by first | rfl | (simp;done) | (simp [*];done), by repeat (first | exact Drawn0.refl _ | apply Drawn0.step)⟩
   rw [if_pos c4] at H
   have c4b0 : decide (x13_1 < (l0.length : Int)) = true := decide_eq_true c4
   clear c4
   by_cases c5 : 0 ≤ x13_1
   rotate_left
   ·rw [if_neg c5] at H
    exact absurd H (by simp)
   rw [if_pos c5] at H
   have c5b0 : decide (0 ≤ x13_1) = true := decide_eq_true c5
   clear c5
   by_cases c6 : x13_1 < (l0.length : Int)
   rotate_left
   ·rw [if_neg c6] at H
    exact absurd H (by simp)
   rw [if_pos c6] at H
   have c6b0 : decide (x13_1 < (l0.length : Int)) = true := decide_eq_true c6
   clear c6
   by_cases c7 : x13_1 < (l1.length : Int)
   rotate_left
   ·rw [if_neg c7] at H
    exact absurd H (by simp)
   rw [if_pos c7] at H
   have c7b0 : decide (x13_1 < (l1.length : Int)) = true := decide_eq_true c7
   clear c7
   by_cases c8 : (rd l0 x13_1) = (rd l1 x13_1)
   rotate_left
   ·rw [if_neg c8] at H
    have c8b0 : ((rd l0 x13_1) == (rd l1 x13_1)) = false := beq_eq_false_iff_ne.mpr c8
    have c8b1 : ((rd l0 x13_1) != (rd l1 x13_1)) = true := bne_iff_ne.mpr c8
    obtain rfl := Option.some.inj H
    have p101 : 0 ≤ (x13_1 : Int) := of_decide_eq_true (by first | (with_reducible assumption) | assumption)
    have q101 : x13_1 < (l0.length : Int) := of_decide_eq_true (by first | (with_reducible assumption) | assumption)
    obtain ⟨ad101, e101, hx101_0⟩ := Kd.at_int HR0.out x13_1 p101 q101
    cases e101
    replace p101 := eq_true p101
    replace q101 := eq_true q101
    have p102 : 0 ≤ (x13_1 : Int) := of_decide_eq_true (by first | (with_reducible assumption) | assumption)
    have q102 : x13_1 < (l1.length : Int) := of_decide_eq_true (by first | (with_reducible assumption) | assumption)
    obtain ⟨ad102, e102, hx102_0⟩ := Kd.at_int HR1.out x13_1 p102 q102
    cases e102
    replace p102 := eq_true p102
    replace q102 := eq_true q102
    go_wp2
    repeat (go_quiet (fail);try go_wp2)
    go_ret
    exact ⟨by first | rfl | (simp;done) | (simp [*];done), by repeat (first | exact Drawn0.refl _ | apply Drawn0.step)⟩
   rw [if_pos c8] at H
   have c8b0 : ((rd l0 x13_1) == (rd l1 x13_1)) = true := beq_iff_eq.mpr c8
   have c8b1 : ((rd l0 x13_1) != (rd l1 x13_1)) = false := bne_eq_false_iff_eq.mpr c8
   clear c8
   have H' := m0_ H
   clear H
   have p101 : 0 ≤ (x13_1 : Int) := of_decide_eq_true (by first | (with_reducible assumption) | assumption)
   have q101 : x13_1 < (l0.length : Int) := of_decide_eq_true (by first | (with_reducible assumption) | assumption)
   obtain ⟨ad101, e101, hx101_0⟩ := Kd.at_int HR0.out x13_1 p101 q101
   cases e101
   replace p101 := eq_true p101
   replace q101 := eq_true q101
   have p102 : 0 ≤ (x13_1 : Int) := of_decide_eq_true (by first | (with_reducible assumption) | assumption)
   have q102 : x13_1 < (l1.length : Int) := of_decide_eq_true (by first | (with_reducible assumption) | assumption)
   obtain ⟨ad102, e102, hx102_0⟩ := Kd.at_int HR1.out x13_1 p102 q102
   cases e102
   replace p102 := eq_true p102
   replace q102 := eq_true q102
   go_wp2
   repeat (go_quiet (fail);try go_wp2)
   go_roundg k1
   case measure => have := HK1.out;omega
   case rel => exact ⟨(wrap64 (x13_1 + 1)), (by first | rfl | (simp;done) | (simp [*];done)), H', ⟨by have := HK1.out;omega⟩, by repeat (first | exact Drawn0.refl _ | apply Drawn0.step)⟩

end Go.Proofs.Ytdljhokealbnnaa.M
namespace Go.Proofs.Ytdljhokealbnnaa.M
set_option linter.unusedVariables false
set_option linter.unusedSimpArgs false
open Go Go.RowKit Go.Proofs.YtdljhokealbnnaaW.PrintWords Go.Proofs.YtdljhokealbnnaaW.PrintLast Go.Proofs.YtdljhokealbnnaaW.PrintMore

theorem ints_l0 (a b : List Int) (hab : a.length = b.length) (hl : a.length ≤ 9223372036854775807) : ∀ d n : Nat, n + d = a.length → Ev (fun k => slices_Equal_int_int.l0 k a b (a.length : Int) (n : Int)) (decide (a.drop n = b.drop n)) := by
  intro d
  induction d with
  | zero =>
    intro n hn
    rw [List.drop_of_length_le (by omega), List.drop_of_length_le (by omega)]
    exact Ev.last (fun k => by simp only [slices_Equal_int_int.l0]; rw [if_neg (by omega)]; rfl)
  | succ d ih =>
    intro n hn
    have ea : a.drop n = rd a (n : Int) :: a.drop (n + 1) := by rw [List.drop_eq_getElem_cons (show n < a.length by omega)]; congr 1; show _ = a.getD n 0; rw [List.getD_eq_getElem?_getD, List.getElem?_eq_getElem (by omega)]; rfl
    have eb : b.drop n = rd b (n : Int) :: b.drop (n + 1) := by rw [List.drop_eq_getElem_cons (show n < b.length by omega)]; congr 1; show _ = b.getD n 0; rw [List.getD_eq_getElem?_getD, List.getElem?_eq_getElem (by omega)]; rfl
    rw [ea, eb]
    by_cases h : rd a (n : Int) = rd b (n : Int)
    · refine Ev.step (fun k => by simp only [slices_Equal_int_int.l0]; rw [if_pos (by omega), if_pos (by omega), if_pos (by omega), if_pos (by omega), if_pos h, w_succ (by omega)]) (Ev.val (ih (n + 1) (by omega)) ?_)
      simp [h]
    refine Ev.last (fun k => ?_)
    simp only [slices_Equal_int_int.l0]
    rw [if_pos (by omega), if_pos (by omega), if_pos (by omega), if_pos (by omega), if_neg h]
    simp [h]
theorem ints_eq (a b : List Int) (hl : a.length ≤ 9223372036854775807) : ∃ k, slices_Equal_int_int.f k a b = some (decide (a = b)) := by
  refine Ev.rounds (g := fun k => slices_Equal_int_int.f k a b) ?_
  unfold slices_Equal_int_int.f
  by_cases h : a.length = b.length
  · have := ints_l0 a b h hl a.length 0 (by omega)
    rw [List.drop_zero, List.drop_zero] at this
    exact Ev.pos (by omega) this
  · refine Ev.val (Ev.neg (by omega) (Ev.now _)) ?_
    have : ¬ a = b := fun e => h (by rw [e])
    simp [this]
def sameN (m : S104) (n0 n1 n2 : Int) (ks : List Int) : Bool := decide (m.f0 = n0) && (decide (m.f1 = n1) && (decide (m.f2 = n2) && decide (m.f3 = ks)))
def idxN (n0 n1 n2 : Int) (ks : List Int) : List S104 → Int → Int
  | [], _ => -1
  | m :: ms, i => if sameN m n0 n1 n2 ks = true then i else idxN n0 n1 n2 ks ms (i + 1)
set_option maxHeartbeats 4000000 in
set_option maxRecDepth 100000 in
theorem same_walk (m : S104) (A3 A4 A5 A6 A7 A8 : Option Addr) (c3 c4 c5 c6 c7 c8 : Nat) (g5 : Nat) (n0 n1 n2 : Int) (Ak : Option Addr) (ck : Nat) (ks : List Int) (w : World) (hl : m.f3.length ≤ 9223372036854775807) (hn : w.heap[g5]? = some (.cells #[.int .i64 n0, .int .i64 n1, .int .i64 n2, .slice Ak ks.length ck, .slice none 0 0, .slice none 0 0, .slice none 0 0, .slice none 0 0, .slice none 0 0, .int .i64 0] 104 (0, 0))) (hm : Kd.C (Kd.int .i64) w A3 m.f3.length m.f3) (hmc : m.f3.length ≤ c3) (hk : Kd.C (Kd.int .i64) w Ak ks.length ks) (hkc : ks.length ≤ ck) :
    Calls Try.prog 104 #[.agg #[.int .i64 m.f0, .int .i64 m.f1, .int .i64 m.f2, .slice A3 m.f3.length c3, .slice A4 m.f4.f0.length c4, .slice A5 m.f4.f1.length c5, .slice A6 m.f5.f0.length c6, .slice A7 m.f5.f1.length c7, .slice A8 m.f6.length c8, .int .i64 m.f7], .pointer (some ⟨g5, 0, none⟩)] w fun e w' => e = .returned (.bool (sameN m n0 n1 n2 ks)) ∧ Below w.heap.size w w' := by
  obtain ⟨kq, hq⟩ := ints_eq m.f3 ks hl
  have HQ := m0_ hq
  have HN := m0_ hn
  have HM := m0_ hm
  have HMC := m0_ hmc
  have HK := m0_ hk
  have HKC := m0_ hkc
  have HB := m0_ (Below.refl w.heap.size w)
  clear hq hn hm hmc hk hkc hl
  unfold sameN
  go_enter Try.func104, Try.ntmps104
  go_upto_region 1 with (first | ((with_reducible refine gate_dst (N := 2) rfl ?_); refine box_event ?hg (N := 2) ?hd (cs := #[.int .i64 m.f0, .int .i64 m.f1, .int .i64 m.f2, .slice A3 m.f3.length c3, .slice A4 m.f4.f0.length c4, .slice A5 m.f4.f1.length c5, .slice A6 m.f5.f0.length c6, .slice A7 m.f5.f1.length c7, .slice A8 m.f6.length c8, .int .i64 m.f7]) (t := 104) ?hr ?_; (case hd => rfl); (case hg => rfl); (case hr => first | (go_simp; done) | (go_simp; rfl)); intro gb2 hg wb2 hbox hb; have n0_ := m0_ (below_step HB.out hb); have n1_ := m0_ (hbox); have n2_ := m0_ ((by rw [hg]; exact below_size HB.out : w.heap.size ≤ gb2)); clear HB; have HB := n0_; have BK2 := n1_; have GE2 := n2_; clear n0_ n1_ n2_; have hb2_ := m0_ hb; clear hb hbox hg))
  have n0_ := m0_ (blk_below HN.out hb2_.out)
  clear HN
  have HN := n0_
  clear n0_
  have ha0 := (blk_cell BK2.out 0).trans (show _ = some (Value.int .i64 m.f0) from rfl)
  have ha1 := (blk_cell BK2.out 1).trans (show _ = some (Value.int .i64 m.f1) from rfl)
  have ha2 := (blk_cell BK2.out 2).trans (show _ = some (Value.int .i64 m.f2) from rfl)
  have ha3 := (blk_cell BK2.out 3).trans (show _ = some (Value.slice A3 m.f3.length c3) from rfl)
  have hn0 := (blk_cell HN.out 0).trans (show _ = some (Value.int .i64 n0) from rfl)
  have hn1 := (blk_cell HN.out 1).trans (show _ = some (Value.int .i64 n1) from rfl)
  have hn2 := (blk_cell HN.out 2).trans (show _ = some (Value.int .i64 n2) from rfl)
  have hn3 := (blk_cell HN.out 3).trans (show _ = some (Value.slice Ak ks.length ck) from rfl)
  by_cases e0_ : m.f0 = n0
  case neg =>
    have e0 := (beq_eq_false_iff_ne.2 e0_ : (m.f0 == n0) = false)
    have e0d := (decide_eq_false e0_ : decide (m.f0 = n0) = false)
    go_wp2
    go_ret
    exact ⟨by simp only [e0d, Bool.false_and]; rfl, HB.out⟩
  have e0 := (beq_iff_eq.2 e0_ : (m.f0 == n0) = true)
  have e0d := (decide_eq_true e0_ : decide (m.f0 = n0) = true)
  by_cases e1_ : m.f1 = n1
  case neg =>
    have e1 := (beq_eq_false_iff_ne.2 e1_ : (m.f1 == n1) = false)
    have e1d := (decide_eq_false e1_ : decide (m.f1 = n1) = false)
    go_wp2
    go_ret
    exact ⟨by simp only [e0d, e1d, Bool.false_and, Bool.and_false]; rfl, HB.out⟩
  have e1 := (beq_iff_eq.2 e1_ : (m.f1 == n1) = true)
  have e1d := (decide_eq_true e1_ : decide (m.f1 = n1) = true)
  by_cases e2_ : m.f2 = n2
  case neg =>
    have e2 := (beq_eq_false_iff_ne.2 e2_ : (m.f2 == n2) = false)
    have e2d := (decide_eq_false e2_ : decide (m.f2 = n2) = false)
    go_wp2
    go_ret
    exact ⟨by simp only [e0d, e1d, e2d, Bool.false_and, Bool.and_false]; rfl, HB.out⟩
  have e2 := (beq_iff_eq.2 e2_ : (m.f2 == n2) = true)
  have e2d := (decide_eq_true e2_ : decide (m.f2 = n2) = true)
  go_wp2_with (go_at_call 83; fail)
  refine (slices_Equal_int_int.calls kq A3 c3 m.f3 Ak ck ks _ _ (Kd.C_below HM.out HB.out) HMC.out (Kd.C_below HK.out HB.out) HKC.out HQ.out).mono ?_
  rintro e w' ⟨rfl, hd⟩
  have n0_ := m0_ (below_step HB.out hd.below)
  clear HB hd
  have HB := n0_
  clear n0_
  go_wp2
  go_ret
  exact ⟨by simp only [e0d, e1d, e2d, Bool.true_and]; rfl, HB.out⟩
set_option maxHeartbeats 4000000 in
set_option maxRecDepth 100000 in
theorem index_walk (A : Option Addr) (c : Nat) (xs : List S104) (g5 : Nat) (n0 n1 n2 : Int) (Ak : Option Addr) (ck : Nat) (ks : List Int) (w : World) (hl : xs.length ≤ 1000000) (hn : w.heap[g5]? = some (.cells #[.int .i64 n0, .int .i64 n1, .int .i64 n2, .slice Ak ks.length ck, .slice none 0 0, .slice none 0 0, .slice none 0 0, .slice none 0 0, .slice none 0 0, .int .i64 0] 104 (0, 0))) (hx : Kd.C k104 w A xs.length xs) (hxc : xs.length ≤ c) (hk : Kd.C (Kd.int .i64) w Ak ks.length ks) (hkc : ks.length ≤ ck) :
    Calls Try.prog 103 #[.slice A xs.length c, .func (.func 104) #[] #[.pointer (some ⟨g5, 0, none⟩)]] w fun e w' => e = .returned (.int .i64 (idxN n0 n1 n2 ks xs 0)) ∧ Below w.heap.size w w' := by
  have HN := m0_ hn
  have HX := m0_ hx
  have HXC := m0_ hxc
  have HK := m0_ hk
  have HKC := m0_ hkc
  have HL := m0_ hl
  clear hn hx hxc hk hkc hl
  go_enter Try.func103, Try.ntmps103
  go_wp2
  go_loopw [8] (fun v8 w' => ∃ n : Nat, n ≤ xs.length ∧ v8 = .int .i64 n ∧ Aside0 (idxN n0 n1 n2 ks (xs.drop n) n = idxN n0 n1 n2 ks xs 0) ∧ Aside0 (Below w.heap.size w w')) (fun v8 _ => xs.length - (intOf v8).toNat)
  case atStart => exact ⟨0, Nat.zero_le _, rfl, ⟨by rw [List.drop_zero]; rfl⟩, ⟨Below.refl _ _⟩⟩
  case round =>
    rename_i wr
    obtain ⟨n, hn, rfl, HE, HB⟩ := hrel
    have hl := HL.out
    by_cases hlt : n < xs.length
    rotate_left
    · have l1 : decide ((n : Int) < (xs.length : Int)) = false := decide_eq_false (by omega)
      have l2 : ¬ (n : Int) < (xs.length : Int) := by omega
      go_wp2
      go_ret
      have := HE.out
      rw [List.drop_of_length_le (by omega)] at this
      exact ⟨by rw [← this]; rfl, HB.out⟩
    obtain ⟨ad, A3, c3, A4, c4, A5, c5, A6, c6, A7, c7, A8, c8, e, h0, h1, h2, h3, h4, h5, h6, h7, h8, h9, hrest⟩ := at_T104 (Kd.C_below HX.out HB.out) (n : Int) (by omega) (by omega)
    have HRD := m0_ (show rd_T104 xs (n : Int) = xs[n] by show xs.getD n z104 = _; rw [List.getD_eq_getElem?_getD, List.getElem?_eq_getElem hlt]; rfl)
    have HR := m0_ hrest
    have HE2 := HE.out
    rw [List.drop_eq_getElem_cons hlt, ← HRD.out, idxN] at HE2
    have HE3 := m0_ HE2
    clear hrest HE HE2 HRD
    generalize rd_T104 xs (n : Int) = m at *
    simp only [Int.toNat_natCast] at h0 h1 h2 h3 h4 h5 h6 h7 h8 h9
    subst e
    have l1 : decide ((n : Int) < (xs.length : Int)) = true := decide_eq_true (by omega)
    have l2 : (n : Int) < (xs.length : Int) := by omega
    have l3 : (0 : Int) ≤ (n : Int) := by omega
    go_wp2_with fail
    refine (same_walk m A3 A4 A5 A6 A7 A8 c3 c4 c5 c6 c7 c8 g5 n0 n1 n2 Ak ck ks _ HR.out.2.1.2.1 (blk_below HN.out HB.out) HR.out.2.1 HR.out.1 (Kd.C_below HK.out HB.out) HKC.out).mono ?_
    rintro e w2 ⟨rfl, hb⟩
    have HB2 := m0_ (below_step HB.out hb)
    clear hb HB h0 h1 h2 h3 h4 h5 h6 h7 h8 h9
    cases hs : sameN m n0 n1 n2 ks with
    | true =>
      have HS := m0_ hs
      clear hs
      go_wp2
      go_ret
      have := HE3.out
      rw [if_pos HS.out] at this
      exact ⟨by rw [← this]; rfl, HB2.out⟩
    | false =>
      have HS := m0_ hs
      clear hs
      go_wp2
      go_roundw
      case rel =>
        refine ⟨n + 1, by omega, by go_num, ⟨?_⟩, HB2⟩
        have := HE3.out
        rw [if_neg (by rw [HS.out]; decide)] at this
        rw [← this]
        rfl
      case measure => simp [intOf]; omega
end Go.Proofs.Ytdljhokealbnnaa.M
namespace Go.Proofs.Ytdljhokealbnnaa.M
set_option linter.unusedVariables false
set_option linter.unusedSimpArgs false
open Go.RowKit Go.Proofs.YtdljhokealbnnaaW.PrintWords Go.Proofs.YtdljhokealbnnaaW.PrintLast

theorem maxLen_le {n : Nat} (h : n ≤ maxLen) : n ≤ 9223372036854775807 := by unfold maxLen at h; omega
def leftOf (a : Int) (n : Nat) : Int := if (n : Int) ≤ a then a - n else -1
theorem leftOf_neg {a : Int} {n : Nat} (h : ¬ (n : Int) ≤ a) : leftOf a n = -1 := if_neg h
theorem leftOf_pos {a : Int} {n : Nat} (h : (n : Int) ≤ a) : leftOf a n = a - n := if_pos h
theorem indL {P : S30 → Prop} (h : ∀ x, (∀ y ∈ x.f3, P y) → P x) : ∀ x, P x := by
  have key : ∀ n, ∀ x : S30, SizeOf.sizeOf x ≤ n → P x := by
    intro n
    induction n with
    | zero => intro x hx; cases x; simp at hx
    | succ n ih =>
      intro x hx
      refine h x (fun y hy => ih y ?_)
      have := List.sizeOf_lt_of_mem hy
      cases x
      simp at *
      omega
  exact fun x => key _ x (Nat.le_refl _)
theorem indI {P : S37 → Prop} (h : ∀ x, (∀ y ∈ x.f3, P y) → P x) : ∀ x, P x := by
  have key : ∀ n, ∀ x : S37, SizeOf.sizeOf x ≤ n → P x := by
    intro n
    induction n with
    | zero => intro x hx; cases x; simp at hx
    | succ n ih =>
      intro x hx
      refine h x (fun y hy => ih y ?_)
      have := List.sizeOf_lt_of_mem hy
      cases x
      simp at *
      omega
  exact fun x => key _ x (Nat.le_refl _)

mutual
def allX : S30 → Nat
  | ⟨_, _, _, l⟩ => l.length + kidsX l
def kidsX : List S30 → Nat
  | [] => 0
  | x :: xs => allX x + kidsX xs
end
theorem allX_is (x : S30) : allX x = x.f3.length + kidsX x.f3 := by cases x; simp [allX]
theorem kidsX_cons (x : S30) (l : List S30) : kidsX (x :: l) = allX x + kidsX l := by simp [kidsX]
theorem kidsX_nil : kidsX [] = 0 := by simp [kidsX]

def SzOk (x : S30) : Prop := ∀ a : Int, 0 ≤ a → a ≤ 1048576 → Ev (fun k => laws_szEx.f k x.f0 x.f1 x.f2 x.f3 a) (leftOf a (allX x))
theorem szExS_l0_ev (l : List S30) (hl : l.length ≤ 9223372036854775807) (hs : ∀ x ∈ l, SzOk x) : ∀ (d n : Nat) (a : Int), n + d = l.length → 0 ≤ a → a ≤ 1048576 → Ev (fun k => laws_szExS.l0 k l a (n : Int)) (leftOf a (kidsX (l.drop n))) := by
  intro d
  induction d with
  | zero =>
    intro n a hn h0 h1
    rw [List.drop_of_length_le (by omega), kidsX_nil, leftOf_pos (by omega)]
    exact Ev.last (fun k => by simp only [laws_szExS.l0]; rw [if_neg (by omega)]; simp)
  | succ d ih =>
    intro n a hn h0 h1
    have hr : rd_T30 l (n : Int) = l.getD n z30 := rfl
    have hx : SzOk (l.getD n z30) := by
      rw [List.getD_eq_getElem?_getD, List.getElem?_eq_getElem (by omega)]
      exact hs _ (List.getElem_mem _)
    rw [drop_at l z30 n (by omega)]
    refine Ev.step (fun k => by simp only [laws_szExS.l0]; rw [if_pos (by omega), if_pos (by omega), hr, w_succ (by omega)]) ?_
    generalize l.getD n z30 = x at *
    refine Ev.bind (hx a h0 h1) ?_
    rw [kidsX_cons]
    by_cases h : (allX x : Int) ≤ a
    · rw [leftOf_pos h]
      refine Ev.neg (by omega) (Ev.val (ih (n + 1) (a - allX x) (by omega) (by omega) (by omega)) ?_)
      unfold leftOf
      by_cases h2 : ((kidsX (l.drop (n + 1)) : Nat) : Int) ≤ a - allX x
      · rw [if_pos h2, if_pos (by omega)]
        omega
      · rw [if_neg h2, if_neg (by omega)]
    · rw [leftOf_neg h, leftOf_neg (by omega)]
      exact Ev.pos (by omega) (Ev.now _)
theorem szEx_ev : ∀ x : S30, good30 x → SzOk x := by
  refine indL (fun x ih g a h0 h1 => ?_)
  have hl := maxLen_le g.fields.2.2.2.1
  have hk : ∀ y ∈ x.f3, SzOk y := fun y hy => ih y hy (g.fields.2.2.2.2 y hy)
  have hS : Ev (fun k => laws_szExS.f k x.f3 a) (leftOf a (allX x)) := by
    rw [allX_is]
    have hw : wrap64 (a - (x.f3.length : Int)) = a - x.f3.length := w_small (by omega) (by omega)
    refine Ev.step (fun k => by simp only [laws_szExS.f]; rw [hw]) ?_
    by_cases h : (x.f3.length : Int) ≤ a
    · refine Ev.neg (by omega) (Ev.val (szExS_l0_ev x.f3 hl hk x.f3.length 0 (a - x.f3.length) (by omega) (by omega) (by omega)) ?_)
      rw [List.drop_zero]
      unfold leftOf
      by_cases h2 : ((kidsX x.f3 : Nat) : Int) ≤ a - x.f3.length
      · rw [if_pos h2, if_pos (by omega)]
        omega
      · rw [if_neg h2, if_neg (by omega)]
    · rw [leftOf_neg (by omega)]
      exact Ev.pos (by omega) (Ev.now _)
  refine Ev.step (fun k => by simp only [laws_szEx.f]; rfl) (Ev.bind hS ?_)
  by_cases h : (allX x : Int) ≤ a
  · rw [leftOf_pos h]
    exact Ev.neg (by omega) (Ev.now _)
  · rw [leftOf_neg h]
    exact Ev.pos (by omega) (Ev.now _)

mutual
def cvX : S30 → S37
  | ⟨a, b, c, l⟩ => ⟨a, b, c, cvXs l⟩
def cvXs : List S30 → List S37
  | [] => []
  | x :: xs => cvX x :: cvXs xs
end
theorem cvXs_map (l : List S30) : cvXs l = l.map cvX := by
  induction l with
  | nil => simp [cvXs]
  | cons x l ih => simp [cvXs, ih]
theorem cvX_f0 (x : S30) : (cvX x).f0 = x.f0 := by cases x; simp [cvX]
theorem cvX_f1 (x : S30) : (cvX x).f1 = x.f1 := by cases x; simp [cvX]
theorem cvX_f2 (x : S30) : (cvX x).f2 = x.f2 := by cases x; simp [cvX]
theorem cvX_f3 (x : S30) : (cvX x).f3 = x.f3.map cvX := by cases x; simp [cvX, cvXs_map]
theorem kidsX_mem {l : List S30} {x : S30} (h : x ∈ l) : allX x ≤ kidsX l := by
  induction l with
  | nil => simp at h
  | cons y l ih =>
    rw [kidsX_cons]
    rcases List.mem_cons.1 h with rfl | h
    · omega
    · have := ih h
      omega
theorem allX_mem {x y : S30} (h : y ∈ x.f3) : allX y + 1 ≤ allX x := by
  have := kidsX_mem h
  have h2 := List.length_pos_of_mem h
  rw [allX_is x]
  omega
def ToOk (x : S30) : Prop := Ev (fun k => laws_toEx.f k x.f0 x.f1 x.f2 x.f3) ((cvX x).f0, (cvX x).f1, (cvX x).f2, (cvX x).f3)
theorem toExS_l0_ev (l : List S30) (hl : l.length ≤ 1048576) (hs : ∀ x ∈ l, ToOk x) : ∀ (d n : Nat) (m : List S37), n + d = l.length → m.length = l.length → m.take n = (l.take n).map cvX → Ev (fun k => laws_toExS.l0 k l m (n : Int)) (l.map cvX) := by
  intro d
  induction d with
  | zero =>
    intro n m hn hm ht
    refine Ev.last (fun k => by simp only [laws_toExS.l0]; rw [if_neg (by omega)]; rw [List.take_of_length_le (by omega), List.take_of_length_le (by omega)] at ht; rw [ht])
  | succ d ih =>
    intro n m hn hm ht
    have hr : rd_T30 l (n : Int) = l.getD n z30 := rfl
    have hn' : n < l.length := by omega
    have hg : l.getD n z30 = l[n] := by rw [List.getD_eq_getElem?_getD, List.getElem?_eq_getElem hn']; rfl
    have hx : ToOk (l.getD n z30) := by
      rw [hg]
      exact hs _ (List.getElem_mem _)
    refine Ev.step (fun k => by simp only [laws_toExS.l0]; rw [if_pos (by omega), if_pos (by omega), hr, w_succ (by omega)]) ?_
    refine Ev.bind hx ?_
    refine Ev.pos (by omega) ?_
    refine ih (n + 1) _ (by omega) (by simp [hm]) ?_
    rw [Int.toNat_natCast, take_set _ _ _ (by omega), ht, List.take_succ_eq_append_getElem hn', List.map_append, hg]
    show _ ++ [(⟨(cvX l[n]).f0, (cvX l[n]).f1, (cvX l[n]).f2, (cvX l[n]).f3⟩ : S37)] = _ ++ [cvX l[n]]
    cases cvX l[n]
    rfl
theorem toEx_ev : ∀ x : S30, allX x ≤ 1048576 → ToOk x := by
  refine indL (fun x ih g => ?_)
  have hk : ∀ y ∈ x.f3, ToOk y := fun y hy => ih y hy (by have := allX_mem hy; omega)
  have hl : x.f3.length ≤ 1048576 := by rw [allX_is] at g; omega
  have hS : Ev (fun k => laws_toExS.f k x.f3) (x.f3.map cvX) := by
    refine Ev.step (fun k => by simp only [laws_toExS.f]; rw [if_pos (by omega), if_pos (by omega), Int.toNat_natCast]) ?_
    exact toExS_l0_ev x.f3 hl hk x.f3.length 0 _ (by omega) (by simp) (by simp)
  unfold ToOk
  rw [cvX_f0, cvX_f1, cvX_f2, cvX_f3]
  exact Ev.step (fun k => by simp only [laws_toEx.f]; rfl) (Ev.bindS hS rfl)

mutual
def allY : S37 → Nat
  | ⟨_, _, _, l⟩ => l.length + kidsY l
def kidsY : List S37 → Nat
  | [] => 0
  | x :: xs => allY x + kidsY xs
end
theorem allY_is (x : S37) : allY x = x.f3.length + kidsY x.f3 := by cases x; simp [allY]
theorem kidsY_cons (x : S37) (l : List S37) : kidsY (x :: l) = allY x + kidsY l := by simp [kidsY]
theorem kidsY_nil : kidsY [] = 0 := by simp [kidsY]
theorem kidsY_mem {l : List S37} {x : S37} (h : x ∈ l) : allY x ≤ kidsY l := by
  induction l with
  | nil => simp at h
  | cons y l ih =>
    rw [kidsY_cons]
    rcases List.mem_cons.1 h with rfl | h
    · omega
    · have := ih h
      omega
theorem allY_mem {x y : S37} (h : y ∈ x.f3) : allY y + 1 ≤ allY x := by
  have := kidsY_mem h
  have h2 := List.length_pos_of_mem h
  rw [allY_is x]
  omega
theorem allY_len {x : S37} : x.f3.length ≤ allY x := by rw [allY_is]; omega
theorem kidsY_map (l : List S30) (h : ∀ x ∈ l, allY (cvX x) = allX x) : kidsY (l.map cvX) = kidsX l := by
  induction l with
  | nil => simp [kidsX_nil, kidsY_nil]
  | cons x l ih =>
    rw [List.map_cons, kidsX_cons, kidsY_cons, h x (by simp), ih (fun y hy => h y (by simp [hy]))]
theorem allY_cv : ∀ x : S30, allY (cvX x) = allX x := by
  refine indL (fun x ih => ?_)
  rw [allY_is, allX_is, cvX_f3, kidsY_map _ ih, List.length_map]
theorem rdI (l : List S37) (n : Nat) (h : n < l.length) : rd_T37 l (n : Int) = l[n] := by
  show l.getD n z37 = _
  rw [List.getD_eq_getElem?_getD, List.getElem?_eq_getElem h]
  rfl

def EqOk (x : S37) : Prop := Ev (fun k => laws_eqEx.f k x.f0 x.f1 x.f2 x.f3 x.f0 x.f1 x.f2 x.f3) true
theorem eqExS_l0_ev (l : List S37) (hl : l.length ≤ 1048576) (hs : ∀ x ∈ l, EqOk x) : ∀ (d n : Nat), n + d = l.length → Ev (fun k => laws_eqExS.l0 k l l (n : Int)) true := by
  intro d
  induction d with
  | zero =>
    intro n hn
    exact Ev.last (fun k => by simp only [laws_eqExS.l0]; rw [if_neg (by omega)])
  | succ d ih =>
    intro n hn
    have hx : EqOk l[n] := hs _ (List.getElem_mem _)
    refine Ev.step (fun k => by simp only [laws_eqExS.l0]; rw [if_pos (by omega), if_pos (by omega), if_pos (by omega), rdI l n (by omega), w_succ (by omega)]) ?_
    exact Ev.bind hx (Ev.pos rfl (ih (n + 1) (by omega)))
theorem eqEx_ev : ∀ x : S37, allY x ≤ 1048576 → EqOk x := by
  refine indI (fun x ih g => ?_)
  have hk : ∀ y ∈ x.f3, EqOk y := fun y hy => ih y hy (by have := allY_mem hy; omega)
  have hl : x.f3.length ≤ 1048576 := by have := allY_len (x := x); omega
  have hS : Ev (fun k => laws_eqExS.f k x.f3 x.f3) true := by
    refine Ev.step (fun k => by simp only [laws_eqExS.f]; rw [if_pos trivial]) ?_
    exact eqExS_l0_ev x.f3 hl hk x.f3.length 0 (by omega)
  unfold EqOk
  refine Ev.step (fun k => by simp only [laws_eqEx.f]; rw [if_pos trivial, if_pos trivial, if_pos trivial]) ?_
  exact Ev.bindS hS rfl
end Go.Proofs.Ytdljhokealbnnaa.M
namespace Go.Proofs.Ytdljhokealbnnaa.M
set_option linter.unusedVariables false
set_option linter.unusedSimpArgs false
open Go Go.RowKit Go.Proofs.YtdljhokealbnnaaW.PrintWords Go.Proofs.YtdljhokealbnnaaW.PrintLast Go.Proofs.YtdljhokealbnnaaW.PrintMore

def mkN (f0 f1 f2 : Int) (ks : List Int) : S104 := ⟨f0, f1, f2, ks, z100, z102, [], 0⟩
def putN (f0 f1 f2 : Int) (r : List S104 × List Int) : List S104 × Int := if idxN f0 f1 f2 r.2 r.1 0 < 0 then (r.1 ++ [mkN f0 f1 f2 r.2], (r.1.length : Int)) else (r.1, idxN f0 f1 f2 r.2 r.1 0)
mutual
def addX : S37 → List S104 → List S104 × Int
  | ⟨f0, f1, f2, l⟩, ns => putN f0 f1 f2 (addL l ns [])
def addL : List S37 → List S104 → List Int → List S104 × List Int
  | [], ns, ks => (ns, ks)
  | x :: xs, ns, ks => addL xs (addX x ns).1 (ks ++ [(addX x ns).2])
end
theorem addX_is (x : S37) (ns : List S104) : addX x ns = putN x.f0 x.f1 x.f2 (addL x.f3 ns []) := by cases x; simp only [addX]
theorem addL_nil (ns : List S104) (ks : List Int) : addL [] ns ks = (ns, ks) := by simp only [addL]
theorem addL_cons (x : S37) (xs : List S37) (ns : List S104) (ks : List Int) : addL (x :: xs) ns ks = addL xs (addX x ns).1 (ks ++ [(addX x ns).2]) := by simp only [addL]
theorem addL_len : ∀ (l : List S37) (ns : List S104) (ks : List Int), (∀ x ∈ l, ∀ ns, (addX x ns).1.length ≤ ns.length + allY x + 1) → (addL l ns ks).1.length ≤ ns.length + kidsY l + l.length
  | [], ns, ks, _ => by rw [addL_nil]; simp
  | x :: l, ns, ks, h => by
    have h1 := h x (by simp) ns
    have h2 := addL_len l (addX x ns).1 (ks ++ [(addX x ns).2]) (fun y hy => h y (by simp [hy]))
    rw [addL_cons, kidsY_cons, List.length_cons]
    omega
theorem putN_len (f0 f1 f2 : Int) (r : List S104 × List Int) : (putN f0 f1 f2 r).1.length ≤ r.1.length + 1 := by
  unfold putN
  split
  · rw [List.length_append, List.length_singleton]
    exact Nat.le_refl _
  · exact Nat.le_succ _
theorem addX_len : ∀ (x : S37) (ns : List S104), (addX x ns).1.length ≤ ns.length + allY x + 1 := by
  refine indI (fun x ih ns => ?_)
  have h := addL_len x.f3 ns [] ih
  have h2 := putN_len x.f0 x.f1 x.f2 (addL x.f3 ns [])
  rw [addX_is, allY_is]
  omega
def nodeC (f0 f1 f2 : Int) (vk : Value) : Array Value := #[.int .i64 f0, .int .i64 f1, .int .i64 f2, vk, .slice none 0 0, .slice none 0 0, .slice none 0 0, .slice none 0 0, .slice none 0 0, .int .i64 0]
def graphC (mo : Int) (v : Value) : Array Value := #[.int .i64 mo, v, .int .i64 0, .int .i64 0, .bool false]
structure AddSt (w0 w W : World) (gg g3 g5 : Nat) (mo : Int) (xc : Array Value) (f0 f1 f2 : Int) (P0 : Nat → Prop) (v vk bv : Value) (ns : List S104) (ks : List Int) : Prop where
  ex : ∃ P : Nat → Prop, (∀ k, P k → (P0 k ∨ w.heap.size ≤ k) ∧ k ≠ gg ∧ k ≠ g3 ∧ k ≠ g5 ∧ vk.ownBlock ≠ some k) ∧ Kd.S k104 104 W w0.heap.size P v ns
  row : Kd.R (Kd.int .i64) 3 W w0.heap.size (fun _ => True) vk ks
  own : ∀ k, vk.ownBlock = some k → w.heap.size ≤ k ∧ k ≠ gg ∧ k ≠ g3 ∧ k ≠ g5
  gr : W.heap[gg]? = some (.cells (graphC mo v) 63 (0, 0))
  bx : W.heap[g3]? = some (.cells xc 37 (0, 0))
  bn : W.heap[g5]? = some (.cells (nodeC f0 f1 f2 bv) 104 (0, 0))
  below : Below w0.heap.size w0 W
  kept : Kept w W (fun k => P0 k ∨ k = gg)
section
variable {w0 w W : World} {gg g3 g5 : Nat} {mo : Int} {xc : Array Value} {f0 f1 f2 : Int} {P0 : Nat → Prop} {v vk bv : Value} {ns : List S104} {ks : List Int}
theorem AddSt.to_below {W1 : World} (h : AddSt w0 w W gg g3 g5 mo xc f0 f1 f2 P0 v vk bv ns ks) (hb : Below W.heap.size W W1) : AddSt w0 w W1 gg g3 g5 mo xc f0 f1 f2 P0 v vk bv ns ks := by
  obtain ⟨P, hP, hs⟩ := h.ex
  exact ⟨⟨P, hP, Kd.S_below hs hb⟩, Kd.R_below h.row hb, h.own, blk_below h.gr hb, blk_below h.bx hb, blk_below h.bn hb, below_step h.below hb, h.kept.below hb⟩
theorem AddSt.drew (h : AddSt w0 w W gg g3 g5 mo xc f0 f1 f2 P0 v vk bv ns ks) : AddSt w0 w W.drew gg g3 g5 mo xc f0 f1 f2 P0 v vk bv ns ks := h.to_below (below_drew (Below.refl _ _))
theorem AddSt.call {W2 : World} {P : Nat → Prop} {v2 : Value} {ns2 : List S104} (h : AddSt w0 w W gg g3 g5 mo xc f0 f1 f2 P0 v vk bv ns ks) (hP : ∀ k, P k → (P0 k ∨ w.heap.size ≤ k) ∧ k ≠ gg ∧ k ≠ g3 ∧ k ≠ g5 ∧ vk.ownBlock ≠ some k) (h3 : g3 ≠ gg) (h5 : g5 ≠ gg)
    (hg : W2.heap[gg]? = some (.cells (graphC mo v2) 63 (0, 0))) (hs : Kd.S k104 104 W2 w0.heap.size (fun k => P k ∨ W.heap.size ≤ k) v2 ns2) (hb : Below w0.heap.size w0 W2) (hk : Kept W W2 (fun k => P k ∨ k = gg)) : AddSt w0 w W2 gg g3 g5 mo xc f0 f1 f2 P0 v2 vk bv ns2 ks := by
  have l3 := blk_lt h.bx
  have l5 := blk_lt h.bn
  have lg := blk_lt h.gr
  have lk := Kd.R_lt h.row
  have lw := h.kept.1
  refine ⟨⟨fun k => P k ∨ W.heap.size ≤ k, fun k hk2 => ?_, hs⟩, ?_, h.own, hg, blk_kept h.bx hk ?_, blk_kept h.bn hk ?_, hb, h.kept.then_ hk ?_⟩
  · rcases hk2 with hk2 | hk2
    · exact hP k hk2
    · refine ⟨.inr (by omega), by omega, by omega, by omega, fun e => ?_⟩
      have := lk k e
      omega
  · refine Kd.R_mono (Kd.R_kept (Kd.R_tight rfl h.row) hk (fun k hk1 hk2 => ?_)) (fun _ _ => trivial)
    rcases hk2 with hk2 | hk2
    · exact (hP k hk2).2.2.2.2 hk1.symm
    · exact (h.own k hk1.symm).2.1 hk2
  · rintro (q | q)
    · exact (hP _ q).2.2.1 rfl
    · exact h3 q
  · rintro (q | q)
    · exact (hP _ q).2.2.2.1 rfl
    · exact h5 q
  rintro k (q | q)
  · rcases (hP k q).1 with q2 | q2
    · exact .inl (.inl q2)
    · exact .inr q2
  · exact .inl (.inr q)
theorem AddSt.grow {W1 : World} {v1 : Value} {ks1 : List Int} (h : AddSt w0 w W gg g3 g5 mo xc f0 f1 f2 P0 v vk bv ns ks) (ho : Kd.R (Kd.int .i64) 3 W1 w0.heap.size (fun _ => True) v1 ks1) (hb : Below w0.heap.size w0 W1) (hg : W.grownBy W1 vk.ownBlock) (hat : v1.ownBlock = vk.ownBlock ∨ ∃ b, v1.ownBlock = some b ∧ W.heap.size ≤ b) : AddSt w0 w W1 gg g3 g5 mo xc f0 f1 f2 P0 v v1 bv ns ks1 := by
  obtain ⟨P, hP, hs⟩ := h.ex
  have l3 := blk_lt h.bx
  have l5 := blk_lt h.bn
  have lg := blk_lt h.gr
  have lw := h.kept.1
  refine ⟨⟨fun k => P k ∧ k < W.heap.size, fun k hk => ⟨(hP k hk.1).1, (hP k hk.1).2.1, (hP k hk.1).2.2.1, (hP k hk.1).2.2.2.1, fun e => ?_⟩, Kd.S_grown (Kd.S_mono (Kd.S_bound hs) (fun k hk => ⟨hk.1, hk.2.2.1⟩)) hg (fun k hk e => (hP k hk.1).2.2.2.2 e.symm)⟩, ho, fun k e => ?_, blk_grown h.gr hg (fun e => (h.own _ e.symm).2.1 rfl), blk_grown h.bx hg (fun e => (h.own _ e.symm).2.2.1 rfl), blk_grown h.bn hg (fun e => (h.own _ e.symm).2.2.2 rfl), hb, Kept.of_grown hg h.kept (fun k hk => .inr (h.own k hk).1)⟩
  · rcases hat with q | ⟨b, q, q2⟩
    · rw [q] at e
      exact (hP k hk.1).2.2.2.2 e
    rw [q] at e
    injection e with e
    have := hk.2
    omega
  · rcases hat with q | ⟨b, q, q2⟩
    · rw [q] at e
      exact h.own k e
    rw [q] at e
    injection e with e
    subst e
    exact ⟨by omega, by omega, by omega, by omega⟩
theorem AddSt.set (h : AddSt w0 w W gg g3 g5 mo xc f0 f1 f2 P0 v vk bv ns ks) (h35 : g3 ≠ g5) (hg5 : gg ≠ g5) (hb5 : w0.heap.size ≤ g5) (hw5 : w.heap.size ≤ g5) : AddSt w0 w (W.setCell ⟨g5, 3, none⟩ vk) gg g3 g5 mo xc f0 f1 f2 P0 v vk vk ns ks := by
  obtain ⟨P, hP, hs⟩ := h.ex
  refine ⟨⟨P, hP, Kd.S_far hs (fun k hk => (hP k hk).2.2.2.1) vk⟩, Kd.R_mono (Kd.R_far (Kd.R_tight rfl h.row) (fun k hk => (h.own k hk.symm).2.2.2) vk) (fun _ _ => trivial), h.own, blk_far h.gr hg5 vk, blk_far h.bx h35 vk, blk_put h.bn 3 vk rfl, below_set h.below hb5, h.kept.setCell (.inr hw5) vk⟩
end
end Go.Proofs.Ytdljhokealbnnaa.M
namespace Go.Proofs.Ytdljhokealbnnaa.M
open Go.RowKit Go.Proofs.YtdljhokealbnnaaW.PrintWords Go.Proofs.YtdljhokealbnnaaW.PrintLast Go.Proofs.YtdljhokealbnnaaW.PrintMore
attribute [local go_sem] max2_int min2_int max_two min_two max_three min_three max_four min_four
set_option linter.unusedVariables false
set_option linter.unusedSimpArgs false

def spec_l7At.l0 : Nat → List ByteArray → ByteArray → Int → Option (Int)
 | 0, _, _, _ => none
 | k + 1, x0, x1, x5 => if x5 < (x0.length : Int) then (if 0 ≤ x5 then (if (rdOf ByteArray.empty x0 x5).toList = x1.toList then (some x5) else (spec_l7At.l0 k x0 x1 (wrap64 (x5 + 1)))) else (none)) else (some (-1))
def spec_l7At.f (k : Nat) (l0 : List ByteArray) (a1 : ByteArray) : Option (Int) := spec_l7At.l0 k l0 a1 0
set_option maxHeartbeats 8000000 in
set_option maxRecDepth 100000 in
theorem spec_l7At.calls (k : Nat) (A0 : Option Addr) (c0 : Nat) (l0 : List ByteArray) (a1 : ByteArray) (r : Int) (w : World) (hr0 : Kd.C Kd.string w A0 l0.length l0) (hc0 : l0.length ≤ c0) (h : spec_l7At.f k l0 a1 = some r) :
  Calls Try.prog 102 #[.slice A0 l0.length c0, .string a1] w fun e w' => e = .returned (.int .i64 r) ∧ Drawn0 w w' := by
 have HR0 := m0_ hr0
 have HC0 := m0_ hc0
 clear hr0 hc0
 have H : (spec_l7At.l0 k l0 a1 0) = some r := h
 clear h
 have H' := m0_ H
 clear H
 go_enter Try.func102, Try.ntmps102
 go_wp2
 go_loopg [5] k (fun kq v5 w' => ∃ (x5_1 : Int), v5 = .int .i64 x5_1 ∧ Aside0 (spec_l7At.l0 kq l0 a1 x5_1 = some r) ∧ Aside0 (kq ≤ k) ∧ Drawn0 w w')
 case atStart => exact ⟨(0), (by first | rfl | (simp;done) | (simp [*];done)), H', ⟨Nat.le_refl _⟩, by repeat (first | exact Drawn0.refl _ | apply Drawn0.step)⟩
 case round =>
  clear H'
  try clear c1
  try clear p2
  obtain ⟨x5_1, rfl, HA, HK1, ⟨m1, rfl⟩⟩ := hrel
  cases gk with
  | zero => exact absurd HA.out (by simp [spec_l7At.l0])
  | succ k1 =>
   have H := HA.out
   clear HA
   simp only [spec_l7At.l0] at H
   by_cases c3 : x5_1 < (l0.length : Int)
   rotate_left
   ·rw [if_neg c3] at H
    have c3b0 : decide (x5_1 < (l0.length : Int)) = false := decide_eq_false c3
    clear c3
    obtain rfl := Option.some.inj H
    go_wp2
    go_ret
    exact ⟨by first | rfl | (simp;done) | (simp [*];done), by repeat (first | exact Drawn0.refl _ | apply Drawn0.step)⟩
   rw [if_pos c3] at H
   have c3b0 : decide (x5_1 < (l0.length : Int)) = true := decide_eq_true c3
   clear c3
   by_cases c4 : 0 ≤ x5_1
   rotate_left
   ·rw [if_neg c4] at H
    exact absurd H (by simp)
   rw [if_pos c4] at H
   have c4b0 : decide (0 ≤ x5_1) = true := decide_eq_true c4
   clear c4
   by_cases c5 : (rdOf ByteArray.empty l0 x5_1).toList = a1.toList
   ·rw [if_pos c5] at H
    have c5b0 : ((rdOf ByteArray.empty l0 x5_1).toList == a1.toList) = true := beq_iff_eq.mpr c5
    have c5b1 : ((rdOf ByteArray.empty l0 x5_1).toList != a1.toList) = false := bne_eq_false_iff_eq.mpr c5
    clear c5
    obtain rfl := Option.some.inj H
    have p101 : 0 ≤ (x5_1 : Int) := of_decide_eq_true (by first | (with_reducible assumption) | assumption)
    have q101 : x5_1 < (l0.length : Int) := of_decide_eq_true (by first | (with_reducible assumption) | assumption)
    obtain ⟨ad101, e101, hx101_0⟩ := Kd.at_string HR0.out x5_1 p101 q101
    cases e101
    replace p101 := eq_true p101
    replace q101 := eq_true q101
    go_wp2
    go_ret
    exact ⟨by first | rfl | (simp;done) | (simp [*];done), by repeat (first | exact Drawn0.refl _ | apply Drawn0.step)⟩
   rw [if_neg c5] at H
   have c5b0 : ((rdOf ByteArray.empty l0 x5_1).toList == a1.toList) = false := beq_eq_false_iff_ne.mpr c5
   have c5b1 : ((rdOf ByteArray.empty l0 x5_1).toList != a1.toList) = true := bne_iff_ne.mpr c5
   have H' := m0_ H
   clear H
   have p101 : 0 ≤ (x5_1 : Int) := of_decide_eq_true (by first | (with_reducible assumption) | assumption)
   have q101 : x5_1 < (l0.length : Int) := of_decide_eq_true (by first | (with_reducible assumption) | assumption)
   obtain ⟨ad101, e101, hx101_0⟩ := Kd.at_string HR0.out x5_1 p101 q101
   cases e101
   replace p101 := eq_true p101
   replace q101 := eq_true q101
   go_wp2
   go_roundg k1
   case measure => have := HK1.out;omega
   case rel => exact ⟨(wrap64 (x5_1 + 1)), (by first | rfl | (simp;done) | (simp [*];done)), H', ⟨by have := HK1.out;omega⟩, by repeat (first | exact Drawn0.refl _ | apply Drawn0.step)⟩

def spec_l1Letter.f (a0 : Int) : Option (ByteArray) := if a0 < 0 then (some (⟨#[63]⟩ : ByteArray)) else (if a0 ≥ 5 then (some (⟨#[63]⟩ : ByteArray)) else (if 0 ≤ a0 then (if a0 ≤ (wrap64 (a0 + 1)) then (if (wrap64 (a0 + 1)) ≤ 5 then (some ((⟨#[97, 98, 99, 100, 101]⟩ : ByteArray).extract (a0 : Int).toNat ((wrap64 (a0 + 1)) : Int).toNat)) else (none)) else (none)) else (none)))
set_option maxHeartbeats 8000000 in
set_option maxRecDepth 100000 in
theorem spec_l1Letter.calls (a0 : Int) (r : ByteArray) (w : World) (h : spec_l1Letter.f a0 = some r) :
  Calls Try.prog 136 #[.int .i64 a0] w fun e w' => e = .returned (.string r) ∧ Drawn0 w w' := by
 have H : (if a0 < 0 then (some (⟨#[63]⟩ : ByteArray)) else (if a0 ≥ 5 then (some (⟨#[63]⟩ : ByteArray)) else (if 0 ≤ a0 then (if a0 ≤ (wrap64 (a0 + 1)) then (if (wrap64 (a0 + 1)) ≤ 5 then (some ((⟨#[97, 98, 99, 100, 101]⟩ : ByteArray).extract (a0 : Int).toNat ((wrap64 (a0 + 1)) : Int).toNat)) else (none)) else (none)) else (none)))) = some r := h
 clear h
 by_cases c2 : a0 < 0
 ·rw [if_pos c2] at H
  have c2b0 : decide (a0 < 0) = true := decide_eq_true c2
  clear c2
  obtain rfl := Option.some.inj H
  go_enter Try.func136, Try.ntmps136
  go_wp2
  go_ret
  exact ⟨by first | rfl | (simp;done) | (simp [*];done), by repeat (first | exact Drawn0.refl _ | apply Drawn0.step)⟩
 rw [if_neg c2] at H
 have c2b0 : decide (a0 < 0) = false := decide_eq_false c2
 clear c2
 by_cases c3 : a0 ≥ 5
 ·rw [if_pos c3] at H
  have c3b0 : decide (5 ≤ a0) = true := decide_eq_true c3
  clear c3
  obtain rfl := Option.some.inj H
  go_enter Try.func136, Try.ntmps136
  go_wp2
  go_ret
  exact ⟨by first | rfl | (simp;done) | (simp [*];done), by repeat (first | exact Drawn0.refl _ | apply Drawn0.step)⟩
 rw [if_neg c3] at H
 have c3b0 : decide (5 ≤ a0) = false := decide_eq_false c3
 clear c3
 by_cases c4 : 0 ≤ a0
 rotate_left
 ·rw [if_neg c4] at H
  exact absurd H (by simp)
 rw [if_pos c4] at H
 have c4b0 := eq_true c4
 have c4b1 : decide (0 ≤ a0) = true := decide_eq_true c4
 clear c4
 by_cases c5 : a0 ≤ (wrap64 (a0 + 1))
 ·rw [if_pos c5] at H
  have c5b0 := eq_true c5
  have c5b1 : decide (a0 ≤ (wrap64 (a0 + 1))) = true := decide_eq_true c5
  by_cases c6 : (wrap64 (a0 + 1)) ≤ 5
  ·rw [if_pos c6] at H
   have c6b0 := eq_true c6
   have c6b1 : decide ((wrap64 (a0 + 1)) ≤ 5) = true := decide_eq_true c6
   obtain rfl := Option.some.inj H
   go_enter Try.func136, Try.ntmps136
   go_wp2
   go_ret
   exact ⟨by first | rfl | (simp;done) | (simp [*];done), by repeat (first | exact Drawn0.refl _ | apply Drawn0.step)⟩
  ·rw [if_neg c6] at H
   exact absurd H (by simp)
 ·rw [if_neg c5] at H
  exact absurd H (by simp)

def spec_l2Words.f  : Option (List ByteArray) := some (([(⟨#[]⟩ : ByteArray), (⟨#[]⟩ : ByteArray), (⟨#[111, 114]⟩ : ByteArray), (⟨#[97, 110, 100]⟩ : ByteArray), (⟨#[115, 101, 113]⟩ : ByteArray), (⟨#[110, 111, 116]⟩ : ByteArray), (⟨#[101, 97, 99, 104]⟩ : ByteArray), (⟨#[112, 108, 117, 115]⟩ : ByteArray)] : List ByteArray))
set_option maxHeartbeats 8000000 in
set_option maxRecDepth 100000 in
theorem spec_l2Words.calls  (r : List ByteArray) (w : World) (h : spec_l2Words.f  = some r) :
  Calls Try.prog 137 #[] w fun e w' => ∃ v0_ : Value, e = .returned (v0_) ∧ Kd.R Kd.string 9 w' w.heap.size (fun _ => True) v0_ r ∧ Below w.heap.size w w' := by
 have HB := m0_ (Below.refl w.heap.size w)
 have H : (some (([(⟨#[]⟩ : ByteArray), (⟨#[]⟩ : ByteArray), (⟨#[111, 114]⟩ : ByteArray), (⟨#[97, 110, 100]⟩ : ByteArray), (⟨#[115, 101, 113]⟩ : ByteArray), (⟨#[110, 111, 116]⟩ : ByteArray), (⟨#[101, 97, 99, 104]⟩ : ByteArray), (⟨#[112, 108, 117, 115]⟩ : ByteArray)] : List ByteArray))) = some r := h
 clear h
 obtain ⟨y101, hy101⟩ : ∃ y_ : List ByteArray, y_ = (([(⟨#[]⟩ : ByteArray), (⟨#[]⟩ : ByteArray), (⟨#[111, 114]⟩ : ByteArray), (⟨#[97, 110, 100]⟩ : ByteArray), (⟨#[115, 101, 113]⟩ : ByteArray), (⟨#[110, 111, 116]⟩ : ByteArray), (⟨#[101, 97, 99, 104]⟩ : ByteArray), (⟨#[112, 108, 117, 115]⟩ : ByteArray)] : List ByteArray)) := ⟨_, rfl⟩
 replace H : (some y101) = some r := by first | (rw [hy101];with_reducible exact H) | (have H2_ := (Option.bind_some _ _).symm.trans H;rw [hy101];with_reducible exact H2_) | (have H2_ := (Option.bind_some _ _).symm.trans H;with_reducible exact H2_) | with_reducible exact H | (rw [hy101];exact H) | exact H
 have Ny101 := m0_ hy101
 clear hy101
 obtain rfl := Option.some.inj H
 go_enter Try.func137, Try.ntmps137
 go_wp2_with (first | ((with_reducible refine gate_dst (N := 1) rfl ?_);refine Kd.R_lit Kd.string _ 9 ?hg (N := 1) ?hd (xs := ([(⟨#[]⟩ : ByteArray), (⟨#[]⟩ : ByteArray), (⟨#[111, 114]⟩ : ByteArray), (⟨#[97, 110, 100]⟩ : ByteArray), (⟨#[115, 101, 113]⟩ : ByteArray), (⟨#[110, 111, 116]⟩ : ByteArray), (⟨#[101, 97, 99, 104]⟩ : ByteArray), (⟨#[112, 108, 117, 115]⟩ : ByteArray)] : List ByteArray)) (inner := [.string (⟨#[]⟩ : ByteArray), .string (⟨#[]⟩ : ByteArray), .string (⟨#[111, 114]⟩ : ByteArray), .string (⟨#[97, 110, 100]⟩ : ByteArray), .string (⟨#[115, 101, 113]⟩ : ByteArray), .string (⟨#[110, 111, 116]⟩ : ByteArray), .string (⟨#[101, 97, 99, 104]⟩ : ByteArray), .string (⟨#[112, 108, 117, 115]⟩ : ByteArray)]) (ok := fun _ => True) (okp := fun _ => True) ?hr ?hp (fun _ hk => hk) trivial (Below.refl _ _) (Nat.le_refl _) (by simp) ?_;(case hd => rfl);(case hg => rfl);(case hr => first | (go_simp;done) | (go_simp;rfl));(case hp => exact (Reps.one (show Kd.M Kd.string _ _ _ (⟨#[]⟩ : ByteArray) [.string (⟨#[]⟩ : ByteArray)] from rfl) (Reps.one (show Kd.M Kd.string _ _ _ (⟨#[]⟩ : ByteArray) [.string (⟨#[]⟩ : ByteArray)] from rfl) (Reps.one (show Kd.M Kd.string _ _ _ (⟨#[111, 114]⟩ : ByteArray) [.string (⟨#[111, 114]⟩ : ByteArray)] from rfl) (Reps.one (show Kd.M Kd.string _ _ _ (⟨#[97, 110, 100]⟩ : ByteArray) [.string (⟨#[97, 110, 100]⟩ : ByteArray)] from rfl) (Reps.one (show Kd.M Kd.string _ _ _ (⟨#[115, 101, 113]⟩ : ByteArray) [.string (⟨#[115, 101, 113]⟩ : ByteArray)] from rfl) (Reps.one (show Kd.M Kd.string _ _ _ (⟨#[110, 111, 116]⟩ : ByteArray) [.string (⟨#[110, 111, 116]⟩ : ByteArray)] from rfl) (Reps.one (show Kd.M Kd.string _ _ _ (⟨#[101, 97, 99, 104]⟩ : ByteArray) [.string (⟨#[101, 97, 99, 104]⟩ : ByteArray)] from rfl) (Reps.one (show Kd.M Kd.string _ _ _ (⟨#[112, 108, 117, 115]⟩ : ByteArray) [.string (⟨#[112, 108, 117, 115]⟩ : ByteArray)] from rfl) (Reps.none _ _))))))))));intro v102 w1 ho2 hb hg_ hnew_;clear hg_ hnew_;(first | rw [← Ny101.out] at ho2 | (simp only [Int.reduceToNat] at ho2;rw [← Ny101.out] at ho2));have HO103 := m0_ (Kd.R_lower ho2 (below_size (by exact HB.out)));replace HB := m0_ (below_step (by exact HB.out) hb);clear hb ho2))
 go_ret
 exact ⟨_, by first | rfl | (simp [errW_none, errW_some] <;> rfl) | (simp [*, errW_none, errW_some] <;> rfl), by (with_reducible repeat (first | apply Kd.R_alloc | apply Kd.R_drewN | apply Kd.R_drew));exact HO103.out, by repeat (first | (with_reducible first | exact HB.out | apply below_alloc | apply pw_below_drewN | apply below_drew1) | exact HB.out)⟩

mutual
def spec_l14Dec.l0 : Nat → Int → ByteArray → Option (ByteArray)
 | 0, _, _ => none
 | k + 1, x0, x3 => if x0 > 9 then ((some (([(wrap64 (48 + (Int.tmod x0 10))) % 256] : List Int) : List Int)).bind fun y102 => (if (strOfNums y102).size + x3.size ≤ 9223372036854775807 then (spec_l14Dec.l0 k (wrap64 (Int.tdiv x0 10)) ((strOfNums y102) ++ x3)) else (none))) else ((some (([(wrap64 (48 + x0)) % 256] : List Int) : List Int)).bind fun y105 => (if (strOfNums y105).size + x3.size ≤ 9223372036854775807 then (some ((strOfNums y105) ++ x3)) else (none)))
def spec_l14Dec.f : Nat → Int → Option (ByteArray)
 | 0, _ => none
 | k + 1, a0 => if a0 < (-9223372036854775807) then (some (⟨#[45, 57, 50, 50, 51, 51, 55, 50, 48, 51, 54, 56, 53, 52, 55, 55, 53, 56, 48, 56]⟩ : ByteArray)) else (if a0 < 0 then ((spec_l14Dec.f k (wrap64 (-a0))).bind fun t101 => (if 1 + t101.size ≤ 9223372036854775807 then (some ((⟨#[45]⟩ : ByteArray) ++ t101)) else (none))) else (spec_l14Dec.l0 k a0 (⟨#[]⟩ : ByteArray)))
end
set_option maxHeartbeats 8000000 in
set_option maxRecDepth 100000 in
theorem spec_l14Dec.calls (k : Nat) : ∀ (a0 : Int) (r : ByteArray) (w : World) (h : spec_l14Dec.f k a0 = some r),
  Calls Try.prog 138 #[.int .i64 a0] w fun e w' => e = .returned (.string r) ∧ Below w.heap.size w w' := by
 induction k using Nat.strongRecOn with
 | _ k ih =>
 intro a0 r w h
 cases k with
 | zero => exact absurd h (by simp [spec_l14Dec.f])
 | succ k =>
 simp only [spec_l14Dec.f] at h
 have HB := m0_ (Below.refl w.heap.size w)
 have H : (if a0 < (-9223372036854775807) then (some (⟨#[45, 57, 50, 50, 51, 51, 55, 50, 48, 51, 54, 56, 53, 52, 55, 55, 53, 56, 48, 56]⟩ : ByteArray)) else (if a0 < 0 then ((spec_l14Dec.f k (wrap64 (-a0))).bind fun t101 => (if 1 + t101.size ≤ 9223372036854775807 then (some ((⟨#[45]⟩ : ByteArray) ++ t101)) else (none))) else (spec_l14Dec.l0 k a0 (⟨#[]⟩ : ByteArray)))) = some r := h
 clear h
 by_cases c2 : a0 < (-9223372036854775807)
 ·rw [if_pos c2] at H
  have c2b0 : decide (a0 < (-9223372036854775807)) = true := decide_eq_true c2
  clear c2
  obtain rfl := Option.some.inj H
  go_enter Try.func138, Try.ntmps138
  go_wp2
  go_ret
  exact ⟨by first | rfl | (simp [errW_none, errW_some] <;> rfl) | (simp [*, errW_none, errW_some] <;> rfl), by repeat (first | (with_reducible first | exact HB.out | apply below_alloc | apply pw_below_drewN | apply below_drew1) | exact HB.out)⟩
 rw [if_neg c2] at H
 have c2b0 : decide (a0 < (-9223372036854775807)) = false := decide_eq_false c2
 clear c2
 by_cases c3 : a0 < 0
 ·rw [if_pos c3] at H
  have c3b0 : decide (a0 < 0) = true := decide_eq_true c3
  clear c3
  replace H := Option.bind_eq_some_iff.mp H
  obtain ⟨t101, A40, H⟩ := H
  replace H : (if 1 + t101.size ≤ 9223372036854775807 then (some ((⟨#[45]⟩ : ByteArray) ++ t101)) else (none)) = some r := H
  have A4 := m0_ A40
  clear A40
  by_cases c5 : 1 + t101.size ≤ 9223372036854775807
  ·rw [if_pos c5] at H
   have c5b0 := eq_true c5
   have c5b1 : decide (1 + t101.size ≤ 9223372036854775807) = true := decide_eq_true c5
   try have c5b2 : (9223372036854775807 < 1 + t101.size) = False := eq_false (Nat.not_lt.2 c5)
   obtain rfl := Option.some.inj H
   go_enter Try.func138, Try.ntmps138
   go_wp2_with (first | ((with_reducible refine gate_callee (f := 138) rfl ?_);refine goesL_ (some 10) rfl rfl Try.func138 (by kernel_rfl) rfl #[.int .i64 (wrap64 (-a0))] rfl (by (try simp only [List.map_toArray, List.map_cons, List.map_nil]);first | done | rfl | (simp only [List.length_drop, List.length_take];rfl)) ?_;(with_reducible refine (ih k (by omega) (wrap64 (-a0)) t101 _ A4.out).mono ?_);rintro e w6 ⟨rfl, hb⟩;refine ⟨_, rfl, ?_⟩;replace HB := m0_ (below_step (by exact HB.out) hb);(try clear hb);(try clear hb2);(try clear hk);(try clear hi)))
   go_ret
   exact ⟨by first | rfl | (simp [errW_none, errW_some] <;> rfl) | (simp [*, errW_none, errW_some] <;> rfl), by repeat (first | (with_reducible first | exact HB.out | apply below_alloc | apply pw_below_drewN | apply below_drew1) | exact HB.out)⟩
  ·rw [if_neg c5] at H
   exact absurd H (by simp)
 rw [if_neg c3] at H
 have c3b0 : decide (a0 < 0) = false := decide_eq_false c3
 clear c3
 have H' := m0_ H
 clear H
 go_enter Try.func138, Try.ntmps138
 go_wp2
 go_loopg [0, 3] k (fun kq v0 v3 w' => ∃ (x0_1 : Int) (x3_1 : ByteArray), v0 = .int .i64 x0_1 ∧ v3 = .string x3_1 ∧ Aside0 (spec_l14Dec.l0 kq x0_1 x3_1 = some r) ∧ Aside0 (kq ≤ k) ∧ Aside0 (Below w.heap.size w w'))
 case atStart => exact ⟨(a0), ((⟨#[]⟩ : ByteArray)), (by first | rfl | (simp;done) | (simp [*];done)), (by first | rfl | (simp;done) | (simp [*];done)), H', ⟨Nat.le_refl _⟩, ⟨by repeat (first | (with_reducible first | exact HB.out | apply below_alloc | apply pw_below_drewN | apply below_drew1) | exact HB.out)⟩⟩
 case round =>
  clear H'
  try clear c1
  try clear c2
  try clear c2b0
  try clear p2
  try clear c3
  try clear c3b0
  try clear c5
  try clear c5b0
  try clear c5b1
  try clear c5b2
  try clear p6
  obtain ⟨x0_1, x3_1, rfl, rfl, HA, HK1, HB⟩ := hrel
  cases gk with
  | zero => exact absurd HA.out (by simp [spec_l14Dec.l0])
  | succ k1 =>
   have H := HA.out
   clear HA
   simp only [spec_l14Dec.l0] at H
   by_cases c7 : x0_1 > 9
   rotate_left
   ·rw [if_neg c7] at H
    have c7b0 : decide (9 < x0_1) = false := decide_eq_false c7
    clear c7
    obtain ⟨y105, hy105⟩ : ∃ y_ : List Int, y_ = (([(wrap64 (48 + x0_1)) % 256] : List Int)) := ⟨_, rfl⟩
    replace H : (if (strOfNums y105).size + x3_1.size ≤ 9223372036854775807 then (some ((strOfNums y105) ++ x3_1)) else (none)) = some r := by first | (rw [hy105];with_reducible exact H) | (have H2_ := (Option.bind_some _ _).symm.trans H;rw [hy105];with_reducible exact H2_) | (have H2_ := (Option.bind_some _ _).symm.trans H;with_reducible exact H2_) | with_reducible exact H | (rw [hy105];exact H) | exact H
    have Ny105 := m0_ hy105
    clear hy105
    by_cases c12 : (strOfNums y105).size + x3_1.size ≤ 9223372036854775807
    ·rw [if_pos c12] at H
     have c12b0 := eq_true c12
     have c12b1 : decide ((strOfNums y105).size + x3_1.size ≤ 9223372036854775807) = true := decide_eq_true c12
     try have c12b2 : (9223372036854775807 < (strOfNums y105).size + x3_1.size) = False := eq_false (Nat.not_lt.2 c12)
     obtain rfl := Option.some.inj H
     go_wp2_with (first | ((with_reducible refine gate_dst (N := 27) rfl ?_);refine Kd.R_lit (Kd.int .u8) _ 5 ?hg (N := 27) ?hd (xs := ([(wrap64 (48 + x0_1)) % 256] : List Int)) (inner := [.int .u8 ((wrap64 (48 + x0_1)) % 256)]) (ok := fun _ => True) (okp := fun _ => True) ?hr ?hp (fun _ hk => hk) trivial (Below.refl _ _) (Nat.le_refl _) (by simp) ?_;(case hd => rfl);(case hg => rfl);(case hr => first | (go_simp;done) | (go_simp;rfl));(case hp => exact (Reps.one (show Kd.M (Kd.int .u8) _ _ _ ((wrap64 (48 + x0_1)) % 256) [.int .u8 ((wrap64 (48 + x0_1)) % 256)] from rfl) (Reps.none _ _)));intro v106 w13 ho14 hb hg_ hnew_;clear hg_ hnew_;(first | rw [← Ny105.out] at ho14 | (simp only [Int.reduceToNat] at ho14;rw [← Ny105.out] at ho14));have HO107 := m0_ (Kd.R_lower ho14 (below_size (by exact HB.out)));replace HB := m0_ (below_step (by exact HB.out) hb);clear hb ho14;have hcv15 := own_string (P := Try.prog) Try.underlying50 Try.underlying5 Try.underlying9 (Kd.own_of_R HO107.out)))
     go_ret
     exact ⟨by first | rfl | (simp [errW_none, errW_some] <;> rfl) | (simp [*, errW_none, errW_some] <;> rfl), by repeat (first | (with_reducible first | exact HB.out | apply below_alloc | apply pw_below_drewN | apply below_drew1) | exact HB.out)⟩
    ·rw [if_neg c12] at H
     exact absurd H (by simp)
   rw [if_pos c7] at H
   have c7b0 : decide (9 < x0_1) = true := decide_eq_true c7
   clear c7
   obtain ⟨y102, hy102⟩ : ∃ y_ : List Int, y_ = (([(wrap64 (48 + (Int.tmod x0_1 10))) % 256] : List Int)) := ⟨_, rfl⟩
   replace H : (if (strOfNums y102).size + x3_1.size ≤ 9223372036854775807 then (spec_l14Dec.l0 k1 (wrap64 (Int.tdiv x0_1 10)) ((strOfNums y102) ++ x3_1)) else (none)) = some r := by first | (rw [hy102];with_reducible exact H) | (have H2_ := (Option.bind_some _ _).symm.trans H;rw [hy102];with_reducible exact H2_) | (have H2_ := (Option.bind_some _ _).symm.trans H;with_reducible exact H2_) | with_reducible exact H | (rw [hy102];exact H) | exact H
   have Ny102 := m0_ hy102
   clear hy102
   by_cases c8 : (strOfNums y102).size + x3_1.size ≤ 9223372036854775807
   ·rw [if_pos c8] at H
    have c8b0 := eq_true c8
    have c8b1 : decide ((strOfNums y102).size + x3_1.size ≤ 9223372036854775807) = true := decide_eq_true c8
    try have c8b2 : (9223372036854775807 < (strOfNums y102).size + x3_1.size) = False := eq_false (Nat.not_lt.2 c8)
    have H' := m0_ H
    clear H
    go_wp2_with (first | ((with_reducible refine gate_dst (N := 18) rfl ?_);refine Kd.R_lit (Kd.int .u8) _ 5 ?hg (N := 18) ?hd (xs := ([(wrap64 (48 + (Int.tmod x0_1 10))) % 256] : List Int)) (inner := [.int .u8 ((wrap64 (48 + (Int.tmod x0_1 10))) % 256)]) (ok := fun _ => True) (okp := fun _ => True) ?hr ?hp (fun _ hk => hk) trivial (Below.refl _ _) (Nat.le_refl _) (by simp) ?_;(case hd => rfl);(case hg => rfl);(case hr => first | (go_simp;done) | (go_simp;rfl));(case hp => exact (Reps.one (show Kd.M (Kd.int .u8) _ _ _ ((wrap64 (48 + (Int.tmod x0_1 10))) % 256) [.int .u8 ((wrap64 (48 + (Int.tmod x0_1 10))) % 256)] from rfl) (Reps.none _ _)));intro v103 w9 ho10 hb hg_ hnew_;clear hg_ hnew_;(first | rw [← Ny102.out] at ho10 | (simp only [Int.reduceToNat] at ho10;rw [← Ny102.out] at ho10));have HO104 := m0_ (Kd.R_lower ho10 (below_size (by exact HB.out)));replace HB := m0_ (below_step (by exact HB.out) hb);clear hb ho10;have hcv11 := own_string (P := Try.prog) Try.underlying50 Try.underlying5 Try.underlying9 (Kd.own_of_R HO104.out)))
    go_roundg k1
    case measure => have := HK1.out;omega
    case rel => exact ⟨(wrap64 (Int.tdiv x0_1 10)), ((strOfNums y102) ++ x3_1), (by first | rfl | (simp;done) | (simp [*];done)), (by first | rfl | (simp;done) | (simp [*];done)), H', ⟨by have := HK1.out;omega⟩, ⟨by repeat (first | (with_reducible first | exact HB.out | apply below_alloc | apply pw_below_drewN | apply below_drew1) | exact HB.out)⟩⟩
   ·rw [if_neg c8] at H
    exact absurd H (by simp)

mutual
def spec_l2Text.j0 : Nat → ByteArray → Int → Int → Int → List (S37) → Option (ByteArray)
 | 0, _, _, _, _, _ => none
 | k + 1, x3, x102000, x102001, x102002, x102003 => spec_l2Text.l0 k x3 0 x102000 x102001 x102002 x102003
def spec_l2Text.l0 : Nat → ByteArray → Int → Int → Int → Int → List (S37) → Option (ByteArray)
 | 0, _, _, _, _, _, _ => none
 | k + 1, x3, x4, x102000, x102001, x102002, x102003 => if x4 < (x102003.length : Int) then (if x3.size + 1 ≤ 9223372036854775807 then (if 0 ≤ x4 then ((spec_l2Text.f k ((rd_T37 x102003 x4).f0) ((rd_T37 x102003 x4).f1) ((rd_T37 x102003 x4).f2) ((rd_T37 x102003 x4).f3)).bind fun t109 => (if (x3 ++ (⟨#[32]⟩ : ByteArray)).size + t109.size ≤ 9223372036854775807 then (spec_l2Text.l0 k ((x3 ++ (⟨#[32]⟩ : ByteArray)) ++ t109) (wrap64 (x4 + 1)) x102000 x102001 x102002 x102003) else (none))) else (none)) else (none)) else (some x3)
def spec_l2Text.f : Nat → Int → Int → Int → List (S37) → Option (ByteArray)
 | 0, _, _, _, _ => none
 | k + 1, a0_0, a0_1, a0_2, l0_3 => if a0_0 = 1 then ((spec_l1Letter.f a0_1).bind fun t102 => (some t102)) else ((spec_l2Words.f).bind fun t103 => (if 0 ≤ a0_0 then (if a0_0 < (t103.length : Int) then (if a0_0 = 7 then (if (rdOf ByteArray.empty t103 a0_0).size + 1 ≤ 9223372036854775807 then ((spec_l14Dec.f k a0_2).bind fun t107 => (if ((rdOf ByteArray.empty t103 a0_0) ++ (⟨#[32]⟩ : ByteArray)).size + t107.size ≤ 9223372036854775807 then (spec_l2Text.j0 k (((rdOf ByteArray.empty t103 a0_0) ++ (⟨#[32]⟩ : ByteArray)) ++ t107) a0_0 a0_1 a0_2 l0_3) else (none))) else (none)) else (spec_l2Text.j0 k (rdOf ByteArray.empty t103 a0_0) a0_0 a0_1 a0_2 l0_3)) else (none)) else (none)))
end
set_option maxHeartbeats 8000000 in
set_option maxRecDepth 100000 in
theorem spec_l2Text.calls (k : Nat) : ∀ (a0_0 : Int) (a0_1 : Int) (a0_2 : Int) (A0_3 : Option Addr) (c0_3 : Nat) (l0_3 : List (S37)) (r : ByteArray) (w : World) (hr0_3 : Kd.C k37 w A0_3 l0_3.length l0_3) (hc0_3 : l0_3.length ≤ c0_3) (h : spec_l2Text.f k a0_0 a0_1 a0_2 l0_3 = some r),
  Calls Try.prog 101 #[.agg #[.int .i64 a0_0, .int .i64 a0_1, .int .i64 a0_2, .slice A0_3 l0_3.length c0_3]] w fun e w' => e = .returned (.string r) ∧ Below w.heap.size w w' := by
 induction k using Nat.strongRecOn with
 | _ k ih =>
 intro a0_0 a0_1 a0_2 A0_3 c0_3 l0_3 r w hr0_3 hc0_3 h
 cases k with
 | zero => exact absurd h (by simp [spec_l2Text.f])
 | succ k =>
 simp only [spec_l2Text.f] at h
 have hu37 := Try.underlying37
 have HR0_3 := m0_ hr0_3
 have HC0_3 := m0_ hc0_3
 clear hr0_3 hc0_3
 have HB := m0_ (Below.refl w.heap.size w)
 have H : (if a0_0 = 1 then ((spec_l1Letter.f a0_1).bind fun t102 => (some t102)) else ((spec_l2Words.f).bind fun t103 => (if 0 ≤ a0_0 then (if a0_0 < (t103.length : Int) then (if a0_0 = 7 then (if (rdOf ByteArray.empty t103 a0_0).size + 1 ≤ 9223372036854775807 then ((spec_l14Dec.f k a0_2).bind fun t107 => (if ((rdOf ByteArray.empty t103 a0_0) ++ (⟨#[32]⟩ : ByteArray)).size + t107.size ≤ 9223372036854775807 then (spec_l2Text.j0 k (((rdOf ByteArray.empty t103 a0_0) ++ (⟨#[32]⟩ : ByteArray)) ++ t107) a0_0 a0_1 a0_2 l0_3) else (none))) else (none)) else (spec_l2Text.j0 k (rdOf ByteArray.empty t103 a0_0) a0_0 a0_1 a0_2 l0_3)) else (none)) else (none)))) = some r := h
 clear h
 by_cases c2 : a0_0 = 1
 ·rw [if_pos c2] at H
  have c2b0 : (a0_0 == 1) = true := beq_iff_eq.mpr c2
  have c2b1 : (a0_0 != 1) = false := bne_eq_false_iff_eq.mpr c2
  clear c2
  replace H := Option.bind_eq_some_iff.mp H
  obtain ⟨t102, A30, H⟩ := H
  replace H : (some t102) = some r := H
  have A3 := m0_ A30
  clear A30
  obtain rfl := Option.some.inj H
  go_enter Try.func101, Try.ntmps101
  go_wp2_with (first | ((with_reducible refine gate_dst (N := 1) rfl ?_);refine box_event ?hg (N := 1) ?hd (cs := #[.int .i64 a0_0, .int .i64 a0_1, .int .i64 a0_2, .slice A0_3 l0_3.length c0_3]) (t := 37) ?hr ?_;(case hd => rfl);(case hg => rfl);(case hr => first | (go_simp;done) | (go_simp;rfl));intro gb101 hg w4 hbox hb;have BK101 := m0_ (hbox);have GW101 := m0_ ((by rw [hg];exact (below_size (by exact HB.out)) : w.heap.size ≤ gb101));have GE101 := m0_ ((by rw [hg];exact (below_size (by exact HB.out)) : w.heap.size ≤ gb101));replace HB := m0_ (below_step (by exact HB.out) hb);clear hb hbox hg;obtain ⟨hcz5_0, hcz5_1, hcz5_2, hcz5_3, hfz5_0, hfz5_1, hfz5_2, hfz5_3⟩ := bx4 BK101.out) | ((with_reducible refine gate_callee (f := 136) rfl ?_);refine goesL_ (some 10) rfl rfl Try.func136 (by kernel_rfl) rfl #[.int .i64 a0_1] rfl (by (try simp only [List.map_toArray, List.map_cons, List.map_nil]);first | done | rfl | (simp only [List.length_drop, List.length_take];rfl)) ?_;(with_reducible refine (spec_l1Letter.calls a0_1 t102 _ A3.out).mono ?_);rintro e w' ⟨rfl, ⟨nd, rfl⟩⟩;refine ⟨_, rfl, ?_⟩) | (go_at_call 136;(with_reducible refine (spec_l1Letter.calls a0_1 t102 _ A3.out).mono ?_);rintro e w' ⟨rfl, ⟨nd, rfl⟩⟩))
  go_ret
  exact ⟨by first | rfl | (simp [errW_none, errW_some] <;> rfl) | (simp [*, errW_none, errW_some] <;> rfl), by repeat (first | (with_reducible first | exact HB.out | apply below_alloc | apply pw_below_drewN | apply below_drew1 | refine below_set ?_ GE101.out) | exact HB.out)⟩
 rw [if_neg c2] at H
 have c2b0 : (a0_0 == 1) = false := beq_eq_false_iff_ne.mpr c2
 have c2b1 : (a0_0 != 1) = true := bne_iff_ne.mpr c2
 replace H := Option.bind_eq_some_iff.mp H
 obtain ⟨t103, A60, H⟩ := H
 replace H : (if 0 ≤ a0_0 then (if a0_0 < (t103.length : Int) then (if a0_0 = 7 then (if (rdOf ByteArray.empty t103 a0_0).size + 1 ≤ 9223372036854775807 then ((spec_l14Dec.f k a0_2).bind fun t107 => (if ((rdOf ByteArray.empty t103 a0_0) ++ (⟨#[32]⟩ : ByteArray)).size + t107.size ≤ 9223372036854775807 then (spec_l2Text.j0 k (((rdOf ByteArray.empty t103 a0_0) ++ (⟨#[32]⟩ : ByteArray)) ++ t107) a0_0 a0_1 a0_2 l0_3) else (none))) else (none)) else (spec_l2Text.j0 k (rdOf ByteArray.empty t103 a0_0) a0_0 a0_1 a0_2 l0_3)) else (none)) else (none)) = some r := H
 have A6 := m0_ A60
 clear A60
 by_cases c7 : 0 ≤ a0_0
 rotate_left
 ·rw [if_neg c7] at H
  exact absurd H (by simp)
 rw [if_pos c7] at H
 have c7b0 : decide (0 ≤ a0_0) = true := decide_eq_true c7
 clear c7
 by_cases c8 : a0_0 < (t103.length : Int)
 rotate_left
 ·rw [if_neg c8] at H
  exact absurd H (by simp)
 rw [if_pos c8] at H
 have c8b0 : decide (a0_0 < (t103.length : Int)) = true := decide_eq_true c8
 clear c8
 have HC9 := m0_ H
 clear H
 go_enter Try.func101, Try.ntmps101
 try go_wp2_with (first | ((with_reducible refine gate_dst (N := 1) rfl ?_);refine box_event ?hg (N := 1) ?hd (cs := #[.int .i64 a0_0, .int .i64 a0_1, .int .i64 a0_2, .slice A0_3 l0_3.length c0_3]) (t := 37) ?hr ?_;(case hd => rfl);(case hg => rfl);(case hr => first | (go_simp;done) | (go_simp;rfl));intro gb101 hg w10 hbox hb;have BK101 := m0_ (hbox);have GW101 := m0_ ((by rw [hg];exact (below_size (by exact HB.out)) : w.heap.size ≤ gb101));have GE101 := m0_ ((by rw [hg];exact (below_size (by exact HB.out)) : w.heap.size ≤ gb101));replace HB := m0_ (below_step (by exact HB.out) hb);clear hb hbox hg;obtain ⟨hcz11_0, hcz11_1, hcz11_2, hcz11_3, hfz11_0, hfz11_1, hfz11_2, hfz11_3⟩ := bx4 BK101.out))
 replace BK101 := m0_ (blk_drew BK101.out)
 replace HB := m0_ (below_drew1 HB.out)
 refine start_ (n := 6) (S := fun w' => w'.cell? ⟨gb101, 0, none⟩ = some (.int .i64 a0_0) ∧ w'.cell? ⟨gb101, 1, none⟩ = some (.int .i64 a0_1) ∧ w'.cell? ⟨gb101, 2, none⟩ = some (.int .i64 a0_2) ∧ w'.cell? ⟨gb101, 3, none⟩ = some (.slice A0_3 l0_3.length c0_3)) (ds := []) #[false, false, false, false, false, false] (by kernel_rfl) rfl rfl ⟨(blk_cell BK101.out 0).trans rfl, (blk_cell BK101.out 1).trans rfl, (blk_cell BK101.out 2).trans rfl, (blk_cell BK101.out 3).trans rfl⟩ (fun hHeld => ?_)
 generalize w10.drew = w12 at BK101 HB hHeld ⊢
 refine pv_ 1 12 #[false, true, false, false, false, false] (by kernel_rfl) ?_
 refine take_ (i := 2) (N := some 13) (v := ?_) (a' := ?_) #[false, true, true, false, false, false] rfl rfl (by kernel_rfl) (fun _ _ _ h => h) (Or.inl ⟨by rfl, ?_⟩) hHeld ?_ ?_
 rotate_left
 ·rintro w' ⟨s0, s1, s2, s3⟩
  go_simp
  with_reducible rfl
 rotate_left
 ·simp only [Act.put, List.setIfInBounds_toArray, List.set_cons_zero, List.set_cons_succ, i64_w, i32_w]
  rfl
 refine one_ (i := 0) (N := some 11) #[true, true, true, false, false, false] rfl rfl (by kernel_rfl) (by decide) (fun K hK => ?_)
 refine goes_ Try.func137 (by kernel_rfl) rfl #[] (by rfl) rfl rfl (by (try simp only [List.map_toArray, List.map_cons, List.map_nil]);first | done | rfl | (simp only [List.length_drop, List.length_take];rfl)) ?_
 with_reducible refine (spec_l2Words.calls  t103 _ A6.out).mono ?_
 rintro e w13 ⟨v104, rfl, ho0, hb⟩
 refine ⟨_, rfl, ?_⟩
 have HO105 := m0_ (Kd.R_lower ho0 (below_size (by exact HB.out)))
 replace BK101 := m0_ (blk_below BK101.out hb)
 replace HB := m0_ (below_step (by exact HB.out) hb)
 (try clear hb)
 (try clear hb2)
 (try clear hk)
 (try clear hi)
 (try clear ho0)
 obtain ⟨Ao14, co14, eo14⟩ := Kd.R_slice HO105.out
 (first | subst eo14 | (injection eo14 with f1_ f2_ f3_;have f4_ := f1_.symm;have f5_ := f3_.symm;clear f1_ f2_ f3_;subst f4_;subst f5_))
 have p106 : 0 ≤ (a0_0 : Int) := of_decide_eq_true (by first | (with_reducible assumption) | assumption)
 have q106 : a0_0 < (t103.length : Int) := of_decide_eq_true (by first | (with_reducible assumption) | assumption)
 obtain ⟨ad106, e106, hx106_0⟩ := Kd.at_string (Kd.R_reads' HO105.out).2.2 a0_0 p106 q106
 cases e106
 replace p106 := eq_true p106
 replace q106 := eq_true q106
 refine hK.out _ _ ⟨(blk_cell BK101.out 0).trans rfl, (blk_cell BK101.out 1).trans rfl, (blk_cell BK101.out 2).trans rfl, (blk_cell BK101.out 3).trans rfl⟩ (fun hHeld => ?_)
 clear hK K
 refine norm_ (a' := ?_) ?_ ?_
 rotate_left
 ·show Act.put _ (some 11) _ = _
  simp only [Act.put, List.setIfInBounds_toArray, List.set_cons_zero, List.set_cons_succ, i64_w, i32_w]
  rfl
 refine pv_ 3 14 #[true, true, true, true, false, false] (by kernel_rfl) ?_
 refine one_ (i := 4) (N := some 15) #[true, true, true, true, true, false] rfl rfl (by kernel_rfl) (by decide) (fun K hK => ?_)
 refine value_ (w1 := w13) (v := .string (rdOf ByteArray.empty t103 a0_0)) (by rfl) rfl ?_ ?_
 ·go_simp
  try rfl
 refine hK.out _ _ ⟨(blk_cell BK101.out 0).trans rfl, (blk_cell BK101.out 1).trans rfl, (blk_cell BK101.out 2).trans rfl, (blk_cell BK101.out 3).trans rfl⟩ (fun hHeld => ?_)
 clear hK K
 refine norm_ (a' := ?_) ?_ ?_
 rotate_left
 ·show Act.put _ (some 15) _ = _
  simp only [Act.put, List.setIfInBounds_toArray, List.set_cons_zero, List.set_cons_succ, i64_w, i32_w]
  rfl
 refine pv_ 5 3 #[true, true, true, true, true, true] (by kernel_rfl) ?_
 refine done_ (by kernel_rfl) ?_
 obtain ⟨hcz15_0, hcz15_1, hcz15_2, hcz15_3, hfz15_0, hfz15_1, hfz15_2, hfz15_3⟩ := bx4 BK101.out
 go_upto_if 18 with (fail)
 go_cut [3] (fun v3 wc => ∃ (kq : Nat) (x3_8 : ByteArray), v3 = .string x3_8 ∧ Aside0 (spec_l2Text.j0 kq x3_8 a0_0 a0_1 a0_2 l0_3 = some r) ∧ Aside0 (kq ≤ k) ∧ Aside0 (wc.heap[gb101]? = some (.cells #[.int .i64 a0_0, .int .i64 a0_1, .int .i64 a0_2, (.slice A0_3 l0_3.length c0_3)] 37 (0, 0))) ∧ Aside0 (Below w.heap.size w wc))
 case first =>
  have H := HC9.out
  clear HC9
  by_cases c16 : a0_0 = 7
  rotate_left
  ·rw [if_neg c16] at H
   have c16b0 : (a0_0 == 7) = false := beq_eq_false_iff_ne.mpr c16
   have c16b1 : (a0_0 != 7) = true := bne_iff_ne.mpr c16
   (first | rw [c16b0] | (simp only [i64_w, i32_w];rw [c16b0]) | skip)
   have H' := m0_ H
   clear H
   go_wp2
   go_meet
   case rel => exact ⟨_, (rdOf ByteArray.empty t103 a0_0), (by first | rfl | (simp;done) | (simp [*];done)), H', ⟨by first | omega | exact Nat.le_refl _⟩, ⟨by (with_reducible repeat (first | refine blk_drewN ?_ _ | refine blk_drew ?_ | refine blk_alloc ?_ _));exact BK101.out⟩, ⟨by repeat (first | (with_reducible first | exact HB.out | apply below_alloc | apply pw_below_drewN | apply below_drew1 | refine below_set ?_ GE101.out) | exact HB.out)⟩⟩
  rw [if_pos c16] at H
  have c16b0 : (a0_0 == 7) = true := beq_iff_eq.mpr c16
  have c16b1 : (a0_0 != 7) = false := bne_eq_false_iff_eq.mpr c16
  clear c16
  (first | rw [c16b0] | (simp only [i64_w, i32_w];rw [c16b0]) | skip)
  by_cases c17 : (rdOf ByteArray.empty t103 a0_0).size + 1 ≤ 9223372036854775807
  rotate_left
  ·rw [if_neg c17] at H
   exact absurd H (by simp)
  rw [if_pos c17] at H
  have c17b0 := eq_true c17
  have c17b1 : decide ((rdOf ByteArray.empty t103 a0_0).size + 1 ≤ 9223372036854775807) = true := decide_eq_true c17
  try have c17b2 : (9223372036854775807 < (rdOf ByteArray.empty t103 a0_0).size + 1) = False := eq_false (Nat.not_lt.2 c17)
  replace H := Option.bind_eq_some_iff.mp H
  obtain ⟨t107, A180, H⟩ := H
  replace H : (if ((rdOf ByteArray.empty t103 a0_0) ++ (⟨#[32]⟩ : ByteArray)).size + t107.size ≤ 9223372036854775807 then (spec_l2Text.j0 k (((rdOf ByteArray.empty t103 a0_0) ++ (⟨#[32]⟩ : ByteArray)) ++ t107) a0_0 a0_1 a0_2 l0_3) else (none)) = some r := H
  have A18 := m0_ A180
  clear A180
  by_cases c19 : ((rdOf ByteArray.empty t103 a0_0) ++ (⟨#[32]⟩ : ByteArray)).size + t107.size ≤ 9223372036854775807
  rotate_left
  ·rw [if_neg c19] at H
   exact absurd H (by simp)
  rw [if_pos c19] at H
  have c19b0 := eq_true c19
  have c19b1 : decide (((rdOf ByteArray.empty t103 a0_0) ++ (⟨#[32]⟩ : ByteArray)).size + t107.size ≤ 9223372036854775807) = true := decide_eq_true c19
  have c19z : ((rdOf ByteArray.empty t103 a0_0) ++ (⟨#[32]⟩ : ByteArray)).size + t107.size ≤ 9223372036854775807 := c19
  simp only [ByteArray.size_append, show (⟨#[32]⟩ : ByteArray).size = 1 from rfl] at c19z
  have c19z0 := eq_true c19z
  have c19z1 := decide_eq_true c19z
  have c19z2 := eq_false (Nat.not_lt.2 c19z)
  try have c19b2 : (9223372036854775807 < ((rdOf ByteArray.empty t103 a0_0) ++ (⟨#[32]⟩ : ByteArray)).size + t107.size) = False := eq_false (Nat.not_lt.2 c19)
  have H' := m0_ H
  clear H
  obtain ⟨hcz20_0, hcz20_1, hcz20_2, hcz20_3, hfz20_0, hfz20_1, hfz20_2, hfz20_3⟩ := bx4 BK101.out
  go_wp2_with (first | ((with_reducible refine gate_callee (f := 138) rfl ?_);refine goesL_ (some 23) rfl rfl Try.func138 (by kernel_rfl) rfl #[.int .i64 a0_2] rfl (by (try simp only [List.map_toArray, List.map_cons, List.map_nil]);first | done | rfl | (simp only [List.length_drop, List.length_take];rfl)) ?_;(with_reducible refine (spec_l14Dec.calls k a0_2 t107 _ A18.out).mono ?_);rintro e w21 ⟨rfl, hb⟩;refine ⟨_, rfl, ?_⟩;replace HO105 := m0_ (Kd.R_below (by exact HO105.out) hb);replace BK101 := m0_ (blk_below BK101.out hb);replace HB := m0_ (below_step (by exact HB.out) hb);(try clear hb);(try clear hb2);(try clear hk);(try clear hi)))
  go_meet
  case rel => exact ⟨_, (((rdOf ByteArray.empty t103 a0_0) ++ (⟨#[32]⟩ : ByteArray)) ++ t107), (by first | rfl | (simp;done) | (simp [*];done)), H', ⟨by first | omega | exact Nat.le_refl _⟩, ⟨by (with_reducible repeat (first | refine blk_drewN ?_ _ | refine blk_drew ?_ | refine blk_alloc ?_ _));exact BK101.out⟩, ⟨by repeat (first | (with_reducible first | exact HB.out | apply below_alloc | apply pw_below_drewN | apply below_drew1 | refine below_set ?_ GE101.out) | exact HB.out)⟩⟩
 case rest =>
  clear HC9
  try clear c1
  try clear p1
  try clear q1
  try clear hx1
  try clear c2
  try clear c2b0
  try clear c2b1
  try clear p2
  try clear c7
  try clear c7b0
  try clear c8
  try clear c8b0
  try clear c10
  try clear p10
  try clear q10
  try clear hx10
  try clear c13
  try clear c16
  try clear c16b0
  try clear c16b1
  try clear c17
  try clear c17b0
  try clear c17b1
  try clear c17b2
  try clear c19
  try clear c19b0
  try clear c19b1
  try clear c19b2
  try clear hcz11_0
  try clear hcz11_1
  try clear hcz11_2
  try clear hcz11_3
  try clear hcz15_0
  try clear hcz15_1
  try clear hcz15_2
  try clear hcz15_3
  try clear hcz20_0
  try clear hcz20_1
  try clear hcz20_2
  try clear hcz20_3
  try clear hcz5_0
  try clear hcz5_1
  try clear hcz5_2
  try clear hcz5_3
  try clear hfz11_0
  try clear hfz11_1
  try clear hfz11_2
  try clear hfz11_3
  try clear hfz15_0
  try clear hfz15_1
  try clear hfz15_2
  try clear hfz15_3
  try clear hfz20_0
  try clear hfz20_1
  try clear hfz20_2
  try clear hfz20_3
  try clear hfz5_0
  try clear hfz5_1
  try clear hfz5_2
  try clear hfz5_3
  try clear hx106_0
  try clear p106
  try clear q106
  obtain ⟨kq, x3_8, rfl, HA, HJ8, BK101, HB⟩ := hcut
  cases kq with
  | zero => exact absurd HA.out (by simp [spec_l2Text.j0])
  | succ kj8 =>
   have H := HA.out
   clear HA
   simp only [spec_l2Text.j0] at H
   have H' := m0_ H
   clear H
   go_wp2
   go_loopg [3, 4] kj8 (fun kq v3 v4 w' => ∃ (x3_2 : ByteArray) (x4_2 : Int), v3 = .string x3_2 ∧ v4 = .int .i64 x4_2 ∧ Aside0 (spec_l2Text.l0 kq x3_2 x4_2 a0_0 a0_1 a0_2 l0_3 = some r) ∧ Aside0 (kq ≤ kj8) ∧ Aside0 (w'.heap[gb101]? = some (.cells #[.int .i64 a0_0, .int .i64 a0_1, .int .i64 a0_2, (.slice A0_3 l0_3.length c0_3)] 37 (0, 0))) ∧ Aside0 (Below w.heap.size w w'))
   case atStart => exact ⟨(x3_8), (0), (by first | rfl | (simp;done) | (simp [*];done)), (by first | rfl | (simp;done) | (simp [*];done)), H', ⟨Nat.le_refl _⟩, ⟨by (with_reducible repeat (first | refine blk_drewN ?_ _ | refine blk_drew ?_ | refine blk_alloc ?_ _));exact BK101.out⟩, ⟨by repeat (first | (with_reducible first | exact HB.out | apply below_alloc | apply pw_below_drewN | apply below_drew1 | refine below_set ?_ GE101.out) | exact HB.out)⟩⟩
   case round =>
    clear H'
    try clear c1
    try clear p1
    try clear q1
    try clear hx1
    try clear c2
    try clear c2b0
    try clear c2b1
    try clear p2
    try clear c7
    try clear c7b0
    try clear c8
    try clear c8b0
    try clear c10
    try clear p10
    try clear q10
    try clear hx10
    try clear c13
    try clear c16
    try clear c16b0
    try clear c16b1
    try clear c17
    try clear c17b0
    try clear c17b1
    try clear c17b2
    try clear c19
    try clear c19b0
    try clear c19b1
    try clear c19b2
    try clear hcz11_0
    try clear hcz11_1
    try clear hcz11_2
    try clear hcz11_3
    try clear hcz15_0
    try clear hcz15_1
    try clear hcz15_2
    try clear hcz15_3
    try clear hcz20_0
    try clear hcz20_1
    try clear hcz20_2
    try clear hcz20_3
    try clear hcz5_0
    try clear hcz5_1
    try clear hcz5_2
    try clear hcz5_3
    try clear hfz11_0
    try clear hfz11_1
    try clear hfz11_2
    try clear hfz11_3
    try clear hfz15_0
    try clear hfz15_1
    try clear hfz15_2
    try clear hfz15_3
    try clear hfz20_0
    try clear hfz20_1
    try clear hfz20_2
    try clear hfz20_3
    try clear hfz5_0
    try clear hfz5_1
    try clear hfz5_2
    try clear hfz5_3
    try clear hx106_0
    try clear p1
    try clear p10
    try clear p106
    try clear p2
    try clear q1
    try clear q10
    try clear q106
    obtain ⟨x3_2, x4_2, rfl, rfl, HA, HK2, BK101, HB⟩ := hrel
    cases gk with
    | zero => exact absurd HA.out (by simp [spec_l2Text.l0])
    | succ k2 =>
     have H := HA.out
     clear HA
     simp only [spec_l2Text.l0] at H
     by_cases c22 : x4_2 < (l0_3.length : Int)
     rotate_left
     ·rw [if_neg c22] at H
      have c22b0 : decide (x4_2 < (l0_3.length : Int)) = false := decide_eq_false c22
      clear c22
      obtain rfl := Option.some.inj H
      obtain ⟨hcz29_0, hcz29_1, hcz29_2, hcz29_3, hfz29_0, hfz29_1, hfz29_2, hfz29_3⟩ := bx4 BK101.out
      go_wp2
      go_ret
      exact ⟨by first | rfl | (simp [errW_none, errW_some] <;> rfl) | (simp [*, errW_none, errW_some] <;> rfl), by repeat (first | (with_reducible first | exact HB.out | apply below_alloc | apply pw_below_drewN | apply below_drew1 | refine below_set ?_ GE101.out) | exact HB.out)⟩
     rw [if_pos c22] at H
     have c22b0 : decide (x4_2 < (l0_3.length : Int)) = true := decide_eq_true c22
     clear c22
     by_cases c23 : x3_2.size + 1 ≤ 9223372036854775807
     rotate_left
     ·rw [if_neg c23] at H
      exact absurd H (by simp)
     rw [if_pos c23] at H
     have c23b0 := eq_true c23
     have c23b1 : decide (x3_2.size + 1 ≤ 9223372036854775807) = true := decide_eq_true c23
     try have c23b2 : (9223372036854775807 < x3_2.size + 1) = False := eq_false (Nat.not_lt.2 c23)
     by_cases c24 : 0 ≤ x4_2
     rotate_left
     ·rw [if_neg c24] at H
      exact absurd H (by simp)
     rw [if_pos c24] at H
     have c24b0 : decide (0 ≤ x4_2) = true := decide_eq_true c24
     clear c24
     replace H := Option.bind_eq_some_iff.mp H
     obtain ⟨t109, A250, H⟩ := H
     replace H : (if (x3_2 ++ (⟨#[32]⟩ : ByteArray)).size + t109.size ≤ 9223372036854775807 then (spec_l2Text.l0 k2 ((x3_2 ++ (⟨#[32]⟩ : ByteArray)) ++ t109) (wrap64 (x4_2 + 1)) a0_0 a0_1 a0_2 l0_3) else (none)) = some r := H
     have A25 := m0_ A250
     clear A250
     by_cases c26 : (x3_2 ++ (⟨#[32]⟩ : ByteArray)).size + t109.size ≤ 9223372036854775807
     rotate_left
     ·rw [if_neg c26] at H
      exact absurd H (by simp)
     rw [if_pos c26] at H
     have c26b0 := eq_true c26
     have c26b1 : decide ((x3_2 ++ (⟨#[32]⟩ : ByteArray)).size + t109.size ≤ 9223372036854775807) = true := decide_eq_true c26
     have c26z : (x3_2 ++ (⟨#[32]⟩ : ByteArray)).size + t109.size ≤ 9223372036854775807 := c26
     simp only [ByteArray.size_append, show (⟨#[32]⟩ : ByteArray).size = 1 from rfl] at c26z
     have c26z0 := eq_true c26z
     have c26z1 := decide_eq_true c26z
     have c26z2 := eq_false (Nat.not_lt.2 c26z)
     try have c26b2 : (9223372036854775807 < (x3_2 ++ (⟨#[32]⟩ : ByteArray)).size + t109.size) = False := eq_false (Nat.not_lt.2 c26)
     have H' := m0_ H
     clear H
     obtain ⟨hcz27_0, hcz27_1, hcz27_2, hcz27_3, hfz27_0, hfz27_1, hfz27_2, hfz27_3⟩ := bx4 BK101.out
     have p108 : 0 ≤ (x4_2 : Int) := of_decide_eq_true (by first | (with_reducible assumption) | assumption)
     have q108 : x4_2 < (l0_3.length : Int) := of_decide_eq_true (by first | (with_reducible assumption) | assumption)
     obtain ⟨ad108, A108_3, c108_3, e108, hx108_0, hx108_1, hx108_2, hx108_3, hl108_3, hi108_3⟩ := at_T37 HR0_3.out x4_2 p108 q108
     cases e108
     replace hx108_0 := (HB.out.cell (World.block_lt_of_cell? w _ hx108_0)).trans hx108_0
     replace hx108_1 := (HB.out.cell (World.block_lt_of_cell? w _ hx108_1)).trans hx108_1
     replace hx108_2 := (HB.out.cell (World.block_lt_of_cell? w _ hx108_2)).trans hx108_2
     replace hx108_3 := (HB.out.cell (World.block_lt_of_cell? w _ hx108_3)).trans hx108_3
     have HR108_3 := m0_ hi108_3
     have HC108_3 := m0_ hl108_3
     clear hi108_3 hl108_3
     replace p108 := eq_true p108
     replace q108 := eq_true q108
     go_wp2_with (first | ((with_reducible refine gate_callee (f := 101) rfl ?_);refine goesL_ (some 39) rfl rfl Try.func101 (by kernel_rfl) rfl #[.agg #[.int .i64 ((rd_T37 l0_3 x4_2).f0), .int .i64 ((rd_T37 l0_3 x4_2).f1), .int .i64 ((rd_T37 l0_3 x4_2).f2), .slice A108_3 ((rd_T37 l0_3 x4_2).f3).length c108_3]] rfl (by (try simp only [List.map_toArray, List.map_cons, List.map_nil]);first | done | rfl | (simp only [List.length_drop, List.length_take];rfl)) ?_;(with_reducible refine (ih k2 (by have := HJ8.out;have := HK2.out;omega) ((rd_T37 l0_3 x4_2).f0) ((rd_T37 l0_3 x4_2).f1) ((rd_T37 l0_3 x4_2).f2) _ _ ((rd_T37 l0_3 x4_2).f3) t109 _ ?side1 ?side2 A25.out).mono ?_);(case side1 => repeat (first | exact (Kd.C_below HR108_3.out HB.out) | (with_reducible refine Kd.C_alloc ?_ _) | (with_reducible refine Kd.C_drewN ?_ _) | (with_reducible refine Kd.C_drew ?_)));(case side2 => exact HC108_3.out);rintro e w28 ⟨rfl, hb⟩;refine ⟨_, rfl, ?_⟩;replace BK101 := m0_ (blk_below BK101.out hb);replace HB := m0_ (below_step (by exact HB.out) hb);(try clear hb);(try clear hb2);(try clear hk);(try clear hi)))
     go_roundg k2
     case measure => have := HJ8.out;have := HK2.out;omega
     case rel => exact ⟨((x3_2 ++ (⟨#[32]⟩ : ByteArray)) ++ t109), (wrap64 (x4_2 + 1)), (by first | rfl | (simp;done) | (simp [*];done)), (by first | rfl | (simp;done) | (simp [*];done)), H', ⟨by have := HJ8.out;have := HK2.out;omega⟩, ⟨by (with_reducible repeat (first | refine blk_drewN ?_ _ | refine blk_drew ?_ | refine blk_alloc ?_ _));exact BK101.out⟩, ⟨by repeat (first | (with_reducible first | exact HB.out | apply below_alloc | apply pw_below_drewN | apply below_drew1 | refine below_set ?_ GE101.out) | exact HB.out)⟩⟩

end Go.Proofs.Ytdljhokealbnnaa.M
namespace Go.Proofs.Ytdljhokealbnnaa.M
set_option linter.unusedVariables false
set_option linter.unusedSimpArgs false
open Go Go.RowKit Go.Proofs.YtdljhokealbnnaaW.PrintWords Go.Proofs.YtdljhokealbnnaaW.PrintLast Go.Proofs.YtdljhokealbnnaaW.PrintMore

theorem store_run {P : Program} {o : Oper} {a : Act} {W : World} {t e : TypeId} {p : Tmp} {v : Operand} (ho : o.op = .store t (.tmp p) v) {g off : Nat} {cur cur' : Array Value} {u : Value} {seg : List Value}
    (hp : a.eval (.tmp p) = .pointer (some ⟨g, off, none⟩)) (hx : a.eval v = u) (hg : W.heap[g]? = some (.cells cur e (0, 0))) (hu : u.cells.toList = seg) (ht : (P.info? t).map (·.size) = some seg.length) (h1 : ∀ q ∈ seg, q.oneCell' = true) (hfit : off + seg.length ≤ cur.size) (hcur : (cur.toList.take off ++ seg ++ cur.toList.drop (off + seg.length)).toArray = cur') :
    (execOp a.eval o).run P W = .ok .skip (W.setRow g cur') := by
  subst hcur
  obtain ⟨i, hi, hsz⟩ := Option.map_eq_some_iff.1 ht
  have hc : u.cells.size = i.size := by rw [hsz, ← hu, Array.length_toList]
  have hst := run_storeCells_at P g off e seg 0 cur W hg (by simpa using hfit) h1
  rw [Nat.add_zero] at hst
  simp [execOp, ho, hp, hx, Instr.storeAt, Instr.sureAddr, storeVar, sizeOf, typeInfo, hi, hc, hu, hst, Result.andThen]
theorem store_step {P : Program} {ops : Array Oper} {o : Oper} {a : Act} {Q : Exit → Act → World → Prop} {W W1 : World} {K : Act → World → Prop} (hw : Region.wanted o (yielded ops a.tmps) = true) (hN : o.dst = none) (hrun : (execOp a.eval o).run P W = .ok .skip W1) (h : ∀ w', w' = W1 → K a w') : if Region.wanted o (yielded ops a.tmps) = true then Oper.wp P o a W K Q else K (a.put none undef) W := skip_ hw hN hrun (h _ rfl)
def idxT (s : ByteArray) : List ByteArray → Int → Int
  | [], _ => -1
  | m :: ms, i => if m.toList = s.toList then i else idxT s ms (i + 1)
theorem at_l0 (s : ByteArray) (ts : List ByteArray) (hl : ts.length ≤ 9223372036854775807) : ∀ d n : Nat, n + d = ts.length → Ev (fun k => spec_l7At.l0 k ts s (n : Int)) (idxT s (ts.drop n) n) := by
  intro d
  induction d with
  | zero =>
    intro n hn
    rw [List.drop_of_length_le (by omega)]
    exact Ev.last (fun k => by simp only [spec_l7At.l0]; rw [if_neg (by omega)]; rfl)
  | succ d ih =>
    intro n hn
    have ea : ts.drop n = rdOf ByteArray.empty ts (n : Int) :: ts.drop (n + 1) := by rw [List.drop_eq_getElem_cons (show n < ts.length by omega)]; congr 1; show _ = ts.getD n ByteArray.empty; rw [List.getD_eq_getElem?_getD, List.getElem?_eq_getElem (by omega)]; rfl
    rw [ea, idxT]
    by_cases h : (rdOf ByteArray.empty ts (n : Int)).toList = s.toList
    · refine Ev.last (fun k => ?_)
      simp only [spec_l7At.l0]
      rw [if_pos (by omega), if_pos (by omega), if_pos h, if_pos h]
    · rw [if_neg h]
      refine Ev.step (fun k => by simp only [spec_l7At.l0]; rw [if_pos (by omega), if_pos (by omega), if_neg h, w_succ (by omega)]) (Ev.val (ih (n + 1) (by omega)) ?_)
      rfl
theorem at_is (s : ByteArray) (ts : List ByteArray) (hl : ts.length ≤ 9223372036854775807) : ∃ k, spec_l7At.f k ts s = some (idxT s ts 0) := by
  refine Ev.rounds (g := fun k => spec_l7At.f k ts s) ?_
  have := at_l0 s ts hl ts.length 0 (by omega)
  rw [List.drop_zero] at this
  exact this
inductive TOk (T : S37 → ByteArray) : S37 → Prop
  | mk (x : S37) (h : ∃ k, spec_l2Text.f k x.f0 x.f1 x.f2 x.f3 = some (T x)) (hk : ∀ y ∈ x.f3, TOk T y) : TOk T x
theorem TOk.here {T : S37 → ByteArray} {x : S37} (h : TOk T x) : ∃ k, spec_l2Text.f k x.f0 x.f1 x.f2 x.f3 = some (T x) := by cases h; assumption
theorem TOk.kid {T : S37 → ByteArray} {x : S37} (h : TOk T x) : ∀ y ∈ x.f3, TOk T y := by cases h; assumption
mutual
def addT (T : S37 → ByteArray) : S37 → List S104 → List ByteArray → List S104 × List ByteArray × Int
  | ⟨f0, f1, f2, l⟩, ns, ts => if 0 ≤ idxT (T ⟨f0, f1, f2, l⟩) ts 0 then (ns, ts, idxT (T ⟨f0, f1, f2, l⟩) ts 0) else ((addTL T l ns ts []).1 ++ [mkN f0 f1 f2 (addTL T l ns ts []).2.2], (addTL T l ns ts []).2.1 ++ [T ⟨f0, f1, f2, l⟩], ((addTL T l ns ts []).1.length : Int))
def addTL (T : S37 → ByteArray) : List S37 → List S104 → List ByteArray → List Int → List S104 × List ByteArray × List Int
  | [], ns, ts, ks => (ns, ts, ks)
  | x :: xs, ns, ts, ks => addTL T xs (addT T x ns ts).1 (addT T x ns ts).2.1 (ks ++ [(addT T x ns ts).2.2])
end
section
variable (T : S37 → ByteArray)
theorem eta_E (x : S37) : (⟨x.f0, x.f1, x.f2, x.f3⟩ : S37) = x := by cases x; rfl
theorem addT_is (x : S37) (ns : List S104) (ts : List ByteArray) : addT T x ns ts = if 0 ≤ idxT (T x) ts 0 then (ns, ts, idxT (T x) ts 0) else ((addTL T x.f3 ns ts []).1 ++ [mkN x.f0 x.f1 x.f2 (addTL T x.f3 ns ts []).2.2], (addTL T x.f3 ns ts []).2.1 ++ [T x], ((addTL T x.f3 ns ts []).1.length : Int)) := by cases x; simp only [addT]
theorem addTL_nil (ns : List S104) (ts : List ByteArray) (ks : List Int) : addTL T [] ns ts ks = (ns, ts, ks) := by simp only [addTL]
theorem addTL_cons (x : S37) (xs : List S37) (ns : List S104) (ts : List ByteArray) (ks : List Int) : addTL T (x :: xs) ns ts ks = addTL T xs (addT T x ns ts).1 (addT T x ns ts).2.1 (ks ++ [(addT T x ns ts).2.2]) := by simp only [addTL]
theorem addTL_len : ∀ (l : List S37) (ns : List S104) (ts : List ByteArray) (ks : List Int), (∀ x ∈ l, ∀ ns ts, (addT T x ns ts).1.length ≤ ns.length + allY x + 1 ∧ (addT T x ns ts).2.1.length ≤ ts.length + allY x + 1) → (addTL T l ns ts ks).1.length ≤ ns.length + kidsY l + l.length ∧ (addTL T l ns ts ks).2.1.length ≤ ts.length + kidsY l + l.length
  | [], ns, ts, ks, _ => by rw [addTL_nil]; simp
  | x :: l, ns, ts, ks, h => by
    have h1 := h x (by simp) ns ts
    have h2 := addTL_len l (addT T x ns ts).1 (addT T x ns ts).2.1 (ks ++ [(addT T x ns ts).2.2]) (fun y hy => h y (by simp [hy]))
    rw [addTL_cons, kidsY_cons, List.length_cons]
    omega
theorem addT_len : ∀ (x : S37) (ns : List S104) (ts : List ByteArray), (addT T x ns ts).1.length ≤ ns.length + allY x + 1 ∧ (addT T x ns ts).2.1.length ≤ ts.length + allY x + 1 := by
  refine indI (fun x ih ns ts => ?_)
  have h := addTL_len T x.f3 ns ts [] ih
  rw [addT_is, allY_is]
  split
  · dsimp only
    omega
  · dsimp only
    rw [List.length_append, List.length_append, List.length_singleton, List.length_singleton]
    omega
end
structure AddTs (w0 w W : World) (g3 g5 g6 gb : Nat) (mo : Int) (xc : Array Value) (f0 f1 f2 : Int) (P0 PT0 : Nat → Prop) (v vk bv vt : Value) (ns : List S104) (ks : List Int) (ts : List ByteArray) : Prop where
  ex : ∃ P : Nat → Prop, (∀ k, P k → (P0 k ∨ w.heap.size ≤ k) ∧ k ≠ g3 ∧ k ≠ g5 ∧ k ≠ g6 ∧ k ≠ gb ∧ vk.ownBlock ≠ some k) ∧ Kd.S k104 104 W w0.heap.size P v ns
  tex : Kd.R Kd.string 9 W w0.heap.size (fun _ => True) vt ts
  town : ∀ k, vt.ownBlock = some k → PT0 k ∨ w.heap.size ≤ k
  row : Kd.R (Kd.int .i64) 3 W w0.heap.size (fun _ => True) vk ks
  own : ∀ k, vk.ownBlock = some k → w.heap.size ≤ k ∧ k ≠ g3 ∧ k ≠ g5 ∧ k ≠ g6 ∧ k ≠ gb
  b3 : W.heap[g3]? = some (.cells (graphC mo v) 63 (0, 0))
  b5 : W.heap[g5]? = some (.cells xc 37 (0, 0))
  b6 : W.heap[g6]? = some (.cells (graphC 0 (.slice none 0 0)) 63 (0, 0))
  bn : W.heap[gb]? = some (.cells (nodeC f0 f1 f2 bv) 104 (0, 0))
  below : Below w0.heap.size w0 W
  kept : Kept w W (fun k => P0 k ∨ PT0 k)
section
variable {w0 w W : World} {g3 g5 g6 gb : Nat} {mo : Int} {xc : Array Value} {f0 f1 f2 : Int} {P0 PT0 : Nat → Prop} {v vk bv vt : Value} {ns : List S104} {ks : List Int} {ts : List ByteArray}
theorem AddTs.to_below {W1 : World} (h : AddTs w0 w W g3 g5 g6 gb mo xc f0 f1 f2 P0 PT0 v vk bv vt ns ks ts) (hb : Below W.heap.size W W1) : AddTs w0 w W1 g3 g5 g6 gb mo xc f0 f1 f2 P0 PT0 v vk bv vt ns ks ts := by
  obtain ⟨P, hP, hs⟩ := h.ex
  exact ⟨⟨P, hP, Kd.S_below hs hb⟩, Kd.R_below h.tex hb, h.town, Kd.R_below h.row hb, h.own, blk_below h.b3 hb, blk_below h.b5 hb, blk_below h.b6 hb, blk_below h.bn hb, below_step h.below hb, h.kept.below hb⟩
theorem AddTs.drew (h : AddTs w0 w W g3 g5 g6 gb mo xc f0 f1 f2 P0 PT0 v vk bv vt ns ks ts) : AddTs w0 w W.drew g3 g5 g6 gb mo xc f0 f1 f2 P0 PT0 v vk bv vt ns ks ts := h.to_below (below_drew (Below.refl _ _))
theorem AddTs.call {W2 : World} {P : Nat → Prop} {v2 vt2 : Value} {ns2 : List S104} {ts2 : List ByteArray} (h : AddTs w0 w W g3 g5 g6 gb mo xc f0 f1 f2 P0 PT0 v vk bv vt ns ks ts) (hP : ∀ k, P k → (P0 k ∨ w.heap.size ≤ k) ∧ k ≠ g3 ∧ k ≠ g5 ∧ k ≠ g6 ∧ k ≠ gb ∧ vk.ownBlock ≠ some k) (hw3 : w.heap.size ≤ g3) (h35 : g3 ≠ g5) (h36 : g3 ≠ g6) (h3b : g3 ≠ gb) (hw0 : w0.heap.size ≤ w.heap.size)
    (hs : Kd.S k104 104 W2 w0.heap.size (fun k => P k ∨ W.heap.size ≤ k) v2 ns2) (ht : Kd.R Kd.string 9 W2 w0.heap.size (fun _ => True) vt2 ts2) (hto : ∀ k, vt2.ownBlock = some k → some k = vt.ownBlock ∨ W.heap.size ≤ k) (hb : Below w0.heap.size w0 W2) (hk : Kept W W2 (fun k => P k ∨ some k = vt.ownBlock)) :
    AddTs w0 w (W2.setRow g3 (graphC mo v2)) g3 g5 g6 gb mo xc f0 f1 f2 P0 PT0 v2 vk bv vt2 ns2 ks ts2 := by
  have l3 := blk_lt h.b3
  have l5 := blk_lt h.b5
  have l6 := blk_lt h.b6
  have lb := blk_lt h.bn
  have lk := Kd.R_lt h.row
  have lw := h.kept.1
  have n3 : ¬ (P g3 ∨ some g3 = vt.ownBlock) := fun q => q.elim (fun q => (hP _ q).2.1 rfl) (fun q => Kd.R_ne h.tex h.b3 (by decide) q)
  have n5 : ¬ (P g5 ∨ some g5 = vt.ownBlock) := fun q => q.elim (fun q => (hP _ q).2.2.1 rfl) (fun q => Kd.R_ne h.tex h.b5 (by decide) q)
  have n6 : ¬ (P g6 ∨ some g6 = vt.ownBlock) := fun q => q.elim (fun q => (hP _ q).2.2.2.1 rfl) (fun q => Kd.R_ne h.tex h.b6 (by decide) q)
  have nb : ¬ (P gb ∨ some gb = vt.ownBlock) := fun q => q.elim (fun q => (hP _ q).2.2.2.2.1 rfl) (fun q => Kd.R_ne h.tex h.bn (by decide) q)
  have c3 := blk_kept h.b3 hk n3
  have kb : KeepBut W2 (W2.setRow g3 (graphC mo v2)) g3 none := keep_setRow _
  have hrow : Kd.R (Kd.int .i64) 3 W2 w0.heap.size (fun k => some k = vk.ownBlock) vk ks := by
    refine Kd.R_kept (Kd.R_tight rfl h.row) hk (fun k hk1 hk2 => ?_)
    rcases hk2 with hk2 | hk2
    · exact (hP k hk2).2.2.2.2.2 hk1.symm
    obtain ⟨c1, e1⟩ := Kd.R_typed h.row k hk1.symm
    obtain ⟨c2, e2⟩ := Kd.R_typed h.tex k hk2.symm
    rw [e1] at e2
    injection e2 with e2
    injection e2 with _ e2
    exact absurd e2 (by decide)
  refine ⟨⟨fun k => P k ∨ W.heap.size ≤ k, fun k hk2 => ?_, Kd.S_keep hs kb (fun k hk2 => ?_)⟩, ?_, fun k e => ?_, Kd.R_mono (Kd.R_keep hrow kb (fun k e => (h.own k e.symm).2.1)) (fun _ _ => trivial), h.own, setRow_heap W2 g3 _ _ _ _ c3, blk_keep (blk_kept h.b5 hk n5) kb (Ne.symm h35), blk_keep (blk_kept h.b6 hk n6) kb (Ne.symm h36), blk_keep (blk_kept h.bn hk nb) kb (Ne.symm h3b), below_setRow hb (by omega) _, Kept.of_keep (h.kept.then_ hk ?_) kb (.inr hw3)⟩
  · rcases hk2 with hk2 | hk2
    · exact hP k hk2
    · refine ⟨.inr (by omega), by omega, by omega, by omega, by omega, fun e => ?_⟩
      have := lk k e
      omega
  · rcases hk2 with hk2 | hk2
    · exact (hP k hk2).2.1
    · omega
  · refine Kd.R_mono (Kd.R_keep (Kd.R_types ht c3 (by decide)) kb (fun k hk2 => hk2.2)) (fun _ _ => trivial)
  · rcases hto k e with q | q
    · exact h.town k q.symm
    · exact .inr (by omega)
  rintro k (q | q)
  · rcases (hP k q).1 with q2 | q2
    · exact .inl (.inl q2)
    · exact .inr q2
  · rcases h.town k q.symm with q2 | q2
    · exact .inl (.inr q2)
    · exact .inr q2
theorem AddTs.keep3 {W2 : World} {P : Nat → Prop} (h : AddTs w0 w W g3 g5 g6 gb mo xc f0 f1 f2 P0 PT0 v vk bv vt ns ks ts) (hP : ∀ k, P k → (P0 k ∨ w.heap.size ≤ k) ∧ k ≠ g3 ∧ k ≠ g5 ∧ k ≠ g6 ∧ k ≠ gb ∧ vk.ownBlock ≠ some k) (hk : Kept W W2 (fun k => P k ∨ some k = vt.ownBlock)) : W2.heap[g3]? = some (.cells (graphC mo v) 63 (0, 0)) :=
  blk_kept h.b3 hk (fun q => q.elim (fun q => (hP _ q).2.1 rfl) (fun q => Kd.R_ne h.tex h.b3 (by decide) q))
theorem AddTs.grow {W1 : World} {v1 : Value} {ks1 : List Int} (h : AddTs w0 w W g3 g5 g6 gb mo xc f0 f1 f2 P0 PT0 v vk bv vt ns ks ts) (ho : Kd.R (Kd.int .i64) 3 W1 w0.heap.size (fun _ => True) v1 ks1) (hb : Below w0.heap.size w0 W1) (hg : W.grownBy W1 vk.ownBlock) (hat : v1.ownBlock = vk.ownBlock ∨ ∃ b, v1.ownBlock = some b ∧ W.heap.size ≤ b) : AddTs w0 w W1 g3 g5 g6 gb mo xc f0 f1 f2 P0 PT0 v v1 bv vt ns ks1 ts := by
  obtain ⟨P, hP, hs⟩ := h.ex
  have l3 := blk_lt h.b3
  have l5 := blk_lt h.b5
  have l6 := blk_lt h.b6
  have lb := blk_lt h.bn
  have lw := h.kept.1
  refine ⟨⟨fun k => P k ∧ k < W.heap.size, fun k hk => ⟨(hP k hk.1).1, (hP k hk.1).2.1, (hP k hk.1).2.2.1, (hP k hk.1).2.2.2.1, (hP k hk.1).2.2.2.2.1, fun e => ?_⟩, Kd.S_grown (Kd.S_mono (Kd.S_bound hs) (fun k hk => ⟨hk.1, hk.2.2.1⟩)) hg (fun k hk e => (hP k hk.1).2.2.2.2.2 e.symm)⟩, Kd.R_over' h.tex (Kd.R_typed h.row) (by decide) hg, h.town, ho, fun k e => ?_, blk_grown h.b3 hg (fun e => (h.own _ e.symm).2.1 rfl), blk_grown h.b5 hg (fun e => (h.own _ e.symm).2.2.1 rfl), blk_grown h.b6 hg (fun e => (h.own _ e.symm).2.2.2.1 rfl), blk_grown h.bn hg (fun e => (h.own _ e.symm).2.2.2.2 rfl), hb, Kept.of_grown hg h.kept (fun k hk => .inr (h.own k hk).1)⟩
  · rcases hat with q | ⟨b, q, q2⟩
    · rw [q] at e
      exact (hP k hk.1).2.2.2.2.2 e
    rw [q] at e
    injection e with e
    have := hk.2
    omega
  · rcases hat with q | ⟨b, q, q2⟩
    · rw [q] at e
      exact h.own k e
    rw [q] at e
    injection e with e
    subst e
    exact ⟨by omega, by omega, by omega, by omega, by omega⟩
theorem AddTs.set {W1 : World} (h : AddTs w0 w W g3 g5 g6 gb mo xc f0 f1 f2 P0 PT0 v vk bv vt ns ks ts) (n3 : g3 ≠ gb) (n5 : g5 ≠ gb) (n6 : g6 ≠ gb) (hw5 : w.heap.size ≤ gb) (kb : KeepBut W W1 gb none) (hn : W1.heap[gb]? = some (.cells (nodeC f0 f1 f2 vk) 104 (0, 0))) (hb : Below w0.heap.size w0 W1) : AddTs w0 w W1 g3 g5 g6 gb mo xc f0 f1 f2 P0 PT0 v vk vk vt ns ks ts := by
  obtain ⟨P, hP, hs⟩ := h.ex
  exact ⟨⟨P, hP, Kd.S_keep hs kb (fun k hk => (hP k hk).2.2.2.2.1)⟩, Kd.R_mono (Kd.R_keep (Kd.R_types h.tex h.bn (by decide)) kb (fun k hk => hk.2)) (fun _ _ => trivial), h.town, Kd.R_mono (Kd.R_keep (Kd.R_tight rfl h.row) kb (fun k hk => (h.own k hk.symm).2.2.2.2)) (fun _ _ => trivial), h.own, blk_keep h.b3 kb n3, blk_keep h.b5 kb n5, blk_keep h.b6 kb n6, hn, hb, Kept.of_keep h.kept kb (.inr hw5)⟩
end
theorem kidsY_drop (l : List S37) (n : Nat) (h : n < l.length) : l.drop n = l.getD n z37 :: l.drop (n + 1) := by
  rw [List.drop_eq_getElem_cons h, List.getD_eq_getElem?_getD, List.getElem?_eq_getElem h]
  rfl
theorem node_M {w : World} {base : Nat} {ok : Nat → Prop} {vk : Value} {ks : List Int} (f0 f1 f2 : Int) (h : Kd.R (Kd.int .i64) 3 w base ok vk ks) : k104.M w base ok (mkN f0 f1 f2 ks) [.int .i64 f0, .int .i64 f1, .int .i64 f2, vk, .slice none 0 0, .slice none 0 0, .slice none 0 0, .slice none 0 0, .slice none 0 0, .int .i64 0] :=
  k104_mkM w base ok (mkN f0 f1 f2 ks) h (Kd.R_nil _ _ _ _ _) (Kd.R_nil _ _ _ _ _) (Kd.R_nil _ _ _ _ _) (Kd.R_nil _ _ _ _ _) (Kd.R_nil _ _ _ _ _)
set_option maxHeartbeats 8000000 in
set_option maxRecDepth 100000 in
theorem add_walk (gg : Nat) (mo : Int) (w0 : World) (hgg : w0.heap.size ≤ gg) : ∀ (x : S37) (A : Option Addr) (c : Nat) (w : World) (P0 : Nat → Prop) (v : Value) (ns : List S104), x.f3.length ≤ c → Kd.C k37 w0 A x.f3.length x.f3 → w.heap[gg]? = some (.cells (graphC mo v) 63 (0, 0)) → Kd.S k104 104 w w0.heap.size P0 v ns → (∀ k, P0 k → k ≠ gg) → Below w0.heap.size w0 w → ns.length + allY x + 1 ≤ 1000 →
    Calls Try.prog 72 #[.pointer (some ⟨gg, 0, none⟩), .agg #[.int .i64 x.f0, .int .i64 x.f1, .int .i64 x.f2, .slice A x.f3.length c]] w fun e w' => ∃ v' : Value, e = .returned (.int .i64 (addX x ns).2) ∧ w'.heap[gg]? = some (.cells (graphC mo v') 63 (0, 0)) ∧ Kd.S k104 104 w' w0.heap.size (fun k => P0 k ∨ w.heap.size ≤ k) v' (addX x ns).1 ∧ Below w0.heap.size w0 w' ∧ Kept w w' (fun k => P0 k ∨ k = gg) := by
  refine indI ?_
  intro x ih A c w P0 v ns hc hC hg hs hP hb hn
  have HI := m0_ ih
  have HC := m0_ hc
  have HK := m0_ hC
  have HG := m0_ hg
  have HSN := m0_ hs
  have HP := m0_ hP
  have HB := m0_ hb
  have HLG := m0_ (blk_lt hg)
  have HN := m0_ hn
  have HKL := m0_ hC.2.1
  have HBW := m0_ (Below.refl w.heap.size w)
  have hu1_ := Try.underlying37
  have hu2_ := Try.underlying104
  have hu3_ := Try.underlying63
  clear ih hc hC hg hs hP hb hn
  go_enter Try.func72, Try.ntmps72
  go_wp2_with (first | ((with_reducible refine gate_dst (N := 3) rfl ?_); refine box_event ?hg (N := 3) ?hd (cs := #[.int .i64 x.f0, .int .i64 x.f1, .int .i64 x.f2, .slice A x.f3.length c]) (t := 37) ?hr ?_; (case hd => rfl); (case hg => rfl); (case hr => first | (go_simp; done) | (go_simp; rfl)); intro g3 hg wg3 hbox hb; have G3 := m0_ (by rw [hg]; exact Nat.le_refl _ : w.heap.size ≤ g3); have n0_ := m0_ (below_step HBW.out hb); have n1_ := m0_ (hbox); clear HBW; have HBW := n0_; have BKg3 := n1_; clear n0_ n1_; have E3 := m0_ hg; clear hb hbox hg; have hz0 := (blk_cell BKg3.out 0).trans (show _ = some (Value.int .i64 x.f0) from rfl); have hz1 := (blk_cell BKg3.out 1).trans (show _ = some (Value.int .i64 x.f1) from rfl); have hz2 := (blk_cell BKg3.out 2).trans (show _ = some (Value.int .i64 x.f2) from rfl); have hz3 := (blk_cell BKg3.out 3).trans (show _ = some (Value.slice A x.f3.length c) from rfl)) | ((with_reducible refine gate_dst (N := 5) rfl ?_); refine box_event ?hg (N := 5) ?hd (cs := #[.int .i64 0, .int .i64 0, .int .i64 0, .slice none 0 0, .slice none 0 0, .slice none 0 0, .slice none 0 0, .slice none 0 0, .slice none 0 0, .int .i64 0]) (t := 104) ?hr ?_; (case hd => rfl); (case hg => rfl); (case hr => first | (go_simp; done) | (go_simp; rfl)); intro g5 hg wg5 hbox hb; clear hz0 hz1 hz2 hz3; have n0_ := m0_ ((by rw [hg]; exact Nat.ne_of_lt (blk_lt BKg3.out) : g3 ≠ g5)); have n1_ := m0_ ((by rw [hg]; exact HBW.out.size : w.heap.size ≤ g5)); have n2_ := m0_ (blk_below BKg3.out hb); have n3_ := m0_ (below_step HBW.out hb); have n4_ := m0_ (hbox); clear BKg3; clear HBW; have N35 := n0_; have G5 := n1_; have BKg3 := n2_; have HBW := n3_; have BKg5 := n4_; clear n0_ n1_ n2_ n3_ n4_; clear hb hbox hg) | ((with_reducible refine gate_store (t := 104) (p := 5) (v := .tmp 15) rfl ?_); refine store_blk (w0 := w) (base := w.heap.size) (e := 104) (g := g5) (off := 0) (cur := #[.int .i64 0, .int .i64 0, .int .i64 0, .slice none 0 0, .slice none 0 0, .slice none 0 0, .slice none 0 0, .slice none 0 0, .slice none 0 0, .int .i64 0]) (cur' := #[.int .i64 x.f0, .int .i64 x.f1, .int .i64 x.f2, .slice none 0 0, .slice none 0 0, .slice none 0 0, .slice none 0 0, .slice none 0 0, .slice none 0 0, .int .i64 0]) (u := .agg #[.int .i64 x.f0, .int .i64 x.f1, .int .i64 x.f2, .slice none 0 0, .slice none 0 0, .slice none 0 0, .slice none 0 0, .slice none 0 0, .slice none 0 0, .int .i64 0]) (seg := [.int .i64 x.f0, .int .i64 x.f1, .int .i64 x.f2, .slice none 0 0, .slice none 0 0, .slice none 0 0, .slice none 0 0, .slice none 0 0, .slice none 0 0, .int .i64 0]) rfl rfl rfl rfl rfl BKg5.out rfl ?ht ?h1 (by simp) rfl HBW.out G5.out ?_; (case ht => kernel_rfl); (case h1 => intro q hq; simp only [List.mem_cons, List.not_mem_nil, or_false] at hq; first | (rcases hq with rfl | rfl | rfl | rfl <;> rfl) | (rcases hq with rfl | rfl | rfl | rfl | rfl | rfl | rfl | rfl | rfl | rfl <;> rfl)); intro ws_ hs_ hk_ hB_; have n0_ := m0_ (hs_); have n1_ := m0_ (blk_keep BKg3.out hk_ N35.out); have n2_ := m0_ (hB_); clear BKg5; clear BKg3; clear HBW; have BKg5 := n0_; have BKg3 := n1_; have HBW := n2_; clear n0_ n1_ n2_; clear hs_ hk_ hB_; have hz3 := (blk_cell BKg3.out 3).trans (show _ = some (Value.slice A x.f3.length c) from rfl)))
  have HS := m0_ (show AddSt w0 w _ gg g3 g5 mo #[.int .i64 x.f0, .int .i64 x.f1, .int .i64 x.f2, .slice A x.f3.length c] x.f0 x.f1 x.f2 P0 v (.slice none 0 0) (.slice none 0 0) ns [] from ⟨⟨fun k => P0 k ∧ k < w.heap.size, fun k hk => ⟨.inl hk.1, HP.out k hk.1, (by have a_ := G3.out; have b_ := hk.2; omega), (by have a_ := G5.out; have b_ := hk.2; omega), (by simp [Value.ownBlock])⟩, Kd.S_below (Kd.S_mono (Kd.S_bound HSN.out) (fun k hk => ⟨hk.1, hk.2.2.1⟩)) HBW.out⟩, Kd.R_nil _ _ _ _ _, (fun k hk => by simp [Value.ownBlock] at hk), blk_below HG.out HBW.out, BKg3.out, BKg5.out, below_step HB.out HBW.out, Kept.of_below HBW.out _⟩)
  have NG3 := m0_ (show g3 ≠ gg by have a_ := G3.out; have b_ := HLG.out; omega)
  have NG5 := m0_ (show g5 ≠ gg by have a_ := G5.out; have b_ := HLG.out; omega)
  clear HG HSN BKg3 BKg5 HBW hz3 E3
  go_loopw [19] (fun v19 w' => ∃ n : Nat, n ≤ x.f3.length ∧ v19 = .int .i64 n ∧ ∃ (v vk : Value) (ns' : List S104) (ks : List Int), Aside0 (addL (x.f3.drop n) ns' ks = addL x.f3 ns []) ∧ Aside0 (ns'.length + kidsY (x.f3.drop n) + (x.f3.drop n).length + 1 ≤ 1000) ∧ Aside0 (ks.length ≤ n) ∧ Aside0 (AddSt w0 w w' gg g3 g5 mo #[.int .i64 x.f0, .int .i64 x.f1, .int .i64 x.f2, .slice A x.f3.length c] x.f0 x.f1 x.f2 P0 v vk vk ns' ks)) (fun v19 _ => x.f3.length - (intOf v19).toNat)
  case atStart =>
    exact ⟨0, Nat.zero_le _, rfl, v, _, ns, [], ⟨by rw [List.drop_zero]⟩, ⟨by rw [List.drop_zero]; have a_ := HN.out; rw [allY_is] at a_; omega⟩, ⟨Nat.le_refl _⟩, HS⟩
  case round =>
    rename_i wr
    clear HS
    obtain ⟨n, hn, rfl, v, vk, ns', ks, HE, HLN, HKS, HS⟩ := hrel
    have hkl := HKL.out
    have hK1000 := m0_ (show x.f3.length ≤ 1000 by have a_ := HN.out; rw [allY_is] at a_; omega)
    by_cases hlt : n < x.f3.length
    rotate_left
    · have l1 : decide ((n : Int) < (x.f3.length : Int)) = false := decide_eq_false (by omega)
      have l2 : ¬ (n : Int) < (x.f3.length : Int) := by omega
      have HE2 := m0_ (show (ns', ks) = addL x.f3 ns [] from by rw [← HE.out, List.drop_of_length_le (by omega), addL_nil])
      have HLE := m0_ (show ns'.length ≤ 1000 from by have a_ := HLN.out; omega)
      clear HE HLN
      obtain ⟨P, hP, hs⟩ := HS.out.ex
      obtain ⟨AV, cV, eV⟩ := Kd.S_slice hs
      subst eV
      obtain ⟨AK, cK, eK⟩ := Kd.R_slice HS.out.row
      subst eK
      have HPP := m0_ hP
      have HSS := m0_ hs
      clear hP hs
      have hmf : ∀ (fn : Fn) (first cap : Array Value) (w : World), (Instr.makeFunc fn first cap).run Try.prog w = .ok (.func fn first cap) w := fun _ _ _ _ => rfl
      have hu4_ := Try.underlying132
      have hgv := (blk_cell HS.out.gr 1).trans (show _ = some (Value.slice AV ns'.length cV) from rfl)
      go_wp2_with (go_at_call 103; fail)
      clear hgv
      refine (index_walk AV cV ns' g5 x.f0 x.f1 x.f2 AK cK ks _ (by have a_ := HLE.out; omega) HS.out.bn (Kd.S_reads' HSS.out).2.2 (Kd.S_reads' HSS.out).2.1 (Kd.R_reads' HS.out.row).2.2 (Kd.R_reads' HS.out.row).2.1).mono ?_
      rintro e w6 ⟨rfl, hb⟩
      have HS2 := m0_ (HS.out.to_below hb)
      have HSS2 := m0_ (Kd.S_below HSS.out hb)
      clear HS HSS hb
      have HAX := m0_ (show addX x ns = putN x.f0 x.f1 x.f2 (ns', ks) from by rw [addX_is, ← HE2.out])
      by_cases hi : idxN x.f0 x.f1 x.f2 ks ns' 0 < 0
      · have i1 : decide (idxN x.f0 x.f1 x.f2 ks ns' 0 < 0) = true := decide_eq_true hi
        have HAY := m0_ (show addX x ns = (ns' ++ [mkN x.f0 x.f1 x.f2 ks], (ns'.length : Int)) from by rw [HAX.out]; exact if_pos hi)
        clear HAX hi
        have hgv := (blk_cell HS2.out.gr 1).trans (show _ = some (Value.slice AV ns'.length cV) from rfl)
        go_upto_region 10 with (fail)
        clear hgv
        have HS3 := m0_ HS2.out.drew
        have HSS3 := m0_ (Kd.S_drew HSS2.out)
        clear HS2 HSS2
        refine start_ (n := 11) (S := fun w' => w'.cell? ⟨gg, 1, none⟩ = some (.slice AV ns'.length cV) ∧ w'.cell? ⟨g5, 0, none⟩ = some (.int .i64 x.f0) ∧ w'.cell? ⟨g5, 1, none⟩ = some (.int .i64 x.f1) ∧ w'.cell? ⟨g5, 2, none⟩ = some (.int .i64 x.f2) ∧ w'.cell? ⟨g5, 3, none⟩ = some (.slice AK ks.length cK) ∧ w'.cell? ⟨g5, 4, none⟩ = some (.slice none 0 0) ∧ w'.cell? ⟨g5, 5, none⟩ = some (.slice none 0 0) ∧ w'.cell? ⟨g5, 6, none⟩ = some (.slice none 0 0) ∧ w'.cell? ⟨g5, 7, none⟩ = some (.slice none 0 0) ∧ w'.cell? ⟨g5, 8, none⟩ = some (.slice none 0 0) ∧ w'.cell? ⟨g5, 9, none⟩ = some (.int .i64 0)) (ds := [7, 10]) #[false, false, false, false, false, false, false, false, false, false, false] (by kernel_rfl) rfl rfl ⟨(blk_cell (HS3.out.gr) 1).trans rfl, (blk_cell (HS3.out.bn) 0).trans rfl, (blk_cell (HS3.out.bn) 1).trans rfl, (blk_cell (HS3.out.bn) 2).trans rfl, (blk_cell (HS3.out.bn) 3).trans rfl, (blk_cell (HS3.out.bn) 4).trans rfl, (blk_cell (HS3.out.bn) 5).trans rfl, (blk_cell (HS3.out.bn) 6).trans rfl, (blk_cell (HS3.out.bn) 7).trans rfl, (blk_cell (HS3.out.bn) 8).trans rfl, (blk_cell (HS3.out.bn) 9).trans rfl⟩ (fun hHeld => ?_)
        refine pv_ 0 45 #[true, false, false, false, false, false, false, false, false, false, false] (by kernel_rfl) ?_
        refine pv_ 1 46 #[true, true, false, false, false, false, false, false, false, false, false] (by kernel_rfl) ?_
        refine pv_ 2 47 #[true, true, true, false, false, false, false, false, false, false, false] (by kernel_rfl) ?_
        refine pv_ 3 48 #[true, true, true, true, false, false, false, false, false, false, false] (by kernel_rfl) ?_
        refine take_ (i := 4) (N := some 49) (v := ?_) (a' := ?_) #[true, true, true, true, true, false, false, false, false, false, false] rfl rfl (by kernel_rfl) (fun _ _ _ h => h) (Or.inl ⟨by rfl, ?_⟩) hHeld ?_ ?_
        rotate_left
        · rintro w' ⟨s0, s1, s2, s3, s4, s5, s6, s7, s8, s9, s10⟩
          go_simp
          with_reducible rfl
        rotate_left
        · simp only [Act.put, List.setIfInBounds_toArray, List.set_cons_zero, List.set_cons_succ, i64_w, i32_w]
          rfl
        refine take_ (i := 5) (N := some 50) (v := ?_) (a' := ?_) #[true, true, true, true, true, true, false, false, false, false, false] rfl rfl (by kernel_rfl) (fun _ _ _ h => h) (Or.inl ⟨by rfl, ?_⟩) hHeld ?_ ?_
        rotate_left
        · rintro w' ⟨s0, s1, s2, s3, s4, s5, s6, s7, s8, s9, s10⟩
          go_simp
          with_reducible rfl
        rotate_left
        · simp only [Act.put, List.setIfInBounds_toArray, List.set_cons_zero, List.set_cons_succ, i64_w, i32_w]
          rfl
        refine one_ (i := 6) (N := some 51) #[true, true, true, true, true, true, true, false, false, false, false] rfl rfl (by kernel_rfl) (by decide) (fun K hK => ?_)
        refine value_ (w1 := w6.drew.alloc (.cells #[.int .i64 x.f0, .int .i64 x.f1, .int .i64 x.f2, .slice AK ks.length cK, .slice none 0 0, .slice none 0 0, .slice none 0 0, .slice none 0 0, .slice none 0 0, .int .i64 0] 104)) (v := .slice (some ⟨w6.heap.size, 0, none⟩) 1 1) (by rfl) rfl ?_ ?_
        · go_simp
          first | done | rfl | (constructor <;> rfl)
        refine hK.out _ _ ⟨(blk_cell (blk_alloc HS3.out.gr _) 1).trans rfl, (blk_cell (blk_alloc HS3.out.bn _) 0).trans rfl, (blk_cell (blk_alloc HS3.out.bn _) 1).trans rfl, (blk_cell (blk_alloc HS3.out.bn _) 2).trans rfl, (blk_cell (blk_alloc HS3.out.bn _) 3).trans rfl, (blk_cell (blk_alloc HS3.out.bn _) 4).trans rfl, (blk_cell (blk_alloc HS3.out.bn _) 5).trans rfl, (blk_cell (blk_alloc HS3.out.bn _) 6).trans rfl, (blk_cell (blk_alloc HS3.out.bn _) 7).trans rfl, (blk_cell (blk_alloc HS3.out.bn _) 8).trans rfl, (blk_cell (blk_alloc HS3.out.bn _) 9).trans rfl⟩ (fun hHeld => ?_)
        clear hK K
        refine norm_ (a' := ?_) ?_ ?_
        rotate_left
        · show Act.put _ (some 51) _ = _
          simp only [Act.put, List.setIfInBounds_toArray, List.set_cons_zero, List.set_cons_succ, i64_w, i32_w]
          rfl
        refine last_ (i := 7) (N := some 52) #[true, true, true, true, true, true, true, true, false, false, false] rfl rfl (by kernel_rfl) (by decide) (fun K hK => ?_)
        refine Kd.S_append_step k104 (w0 := w0) w0.heap.size ?aW (.tmp 49) (.tmp 51) 61 104 (.agg #[(.int .i64 0), (.int .i64 0), (.int .i64 0), (.slice none 0 0), (.slice none 0 0), (.slice none 0 0), (.slice none 0 0), (.slice none 0 0), (.slice none 0 0), (.int .i64 0)]) 176 rfl Try.underlying61 info104 rfl (by decide) (by omega) (.slice AV ns'.length cV) ns' (mkN x.f0 x.f1 x.f2 ks) [.int .i64 x.f0, .int .i64 x.f1, .int .i64 x.f2, .slice AK ks.length cK, .slice none 0 0, .slice none 0 0, .slice none 0 0, .slice none 0 0, .slice none 0 0, .int .i64 0] (fun k => P k ∨ some k = (Value.slice AK ks.length cK).ownBlock ∨ w.heap.size ≤ k) (fun k => some k = (Value.slice AK ks.length cK).ownBlock) ?aX ?aY ?aP ?aK ?aF ?aO ?aB ?aS ?aL ?_
        (case aW => rfl)
        (case aX => rfl)
        (case aY => rfl)
        (case aP => exact node_M x.f0 x.f1 x.f2 (Kd.R_tight rfl HS3.out.row))
        (case aK => exact fun k hk => ⟨.inr (.inl hk), fun e_ => (HPP.out k (HSS3.out.choose_spec.1 k e_.symm)).2.2.2.2 hk.symm⟩)
        (case aF => exact fun k hk => .inr (.inr (Nat.le_trans HS3.out.kept.1 hk)))
        (case aO => exact Kd.S_mono HSS3.out (fun k hk => ⟨.inl hk, fun e_ => (HPP.out k hk).2.2.2.2 e_.symm⟩))
        (case aB => exact HS3.out.below)
        (case aS => exact HS3.out.below.size)
        (case aL => have a_ := HLE.out; omega)
        intro v1 w8 ho hb hg hat
        have HNW := m0_ ho
        have HBN := m0_ hb
        have HGN := m0_ (blk_grown HS3.out.gr hg (fun e_ => (HPP.out _ (HSS3.out.choose_spec.1 _ e_.symm)).2.1 rfl))
        have HKN := m0_ (Kept.of_grown hg HS3.out.kept (fun k hk => by rcases (HPP.out k (HSS3.out.choose_spec.1 k hk)).1 with q | q; exact .inl (.inl q); exact .inr q))
        have HOW := m0_ HS3.out.own
        have HSZ := m0_ HS3.out.kept.1
        clear ho hb hg hat
        obtain ⟨A1, c1, e1⟩ := Kd.S_slice HNW.out
        rw [List.length_append, List.length_singleton] at e1
        subst e1
        have hc4_ := (blk_cell HGN.out 1).trans (show _ = some (Value.slice AV ns'.length cV) from rfl)
        have hf4_ := blk_frozen HGN.out 1
        refine hK.out _ _ ?_
        clear hK K
        refine norm_ (a' := ?_) ?_ ?_
        rotate_left
        · show Act.put _ (some 52) _ = _
          simp only [Act.put, List.setIfInBounds_toArray, List.set_cons_zero, List.set_cons_succ, i64_w, i32_w]
          rfl
        refine pv_ 8 53 #[true, true, true, true, true, true, true, true, true, false, false] (by kernel_rfl) ?_
        refine pv_ 9 54 #[true, true, true, true, true, true, true, true, true, true, false] (by kernel_rfl) ?_
        refine last_ (i := 10) (N := none) #[true, true, true, true, true, true, true, true, true, true, true] rfl rfl (by kernel_rfl) (by decide) (fun K hK => ?_)
        refine skip_ (w1 := ?_) (by rfl) rfl ?_ ?_
        rotate_left
        · go_simp
          rfl
        have HG9 := m0_ (blk_put HGN.out 1 (.slice A1 (ns'.length + 1) c1) (cs' := graphC mo (.slice A1 (ns'.length + 1) c1)) rfl)
        have HB9 := m0_ (below_set (j := 1) (v := .slice A1 (ns'.length + 1) c1) HBN.out hgg)
        have HK9 := m0_ (HKN.out.setCell (p := ⟨gg, 1, none⟩) (.inl (.inr rfl)) (.slice A1 (ns'.length + 1) c1))
        have HS9 := m0_ (Kd.S_far (p := ⟨gg, 1, none⟩) (Kd.S_mono (ok' := fun k => (P0 k ∨ w.heap.size ≤ k) ∧ k ≠ gg) HNW.out (fun k hk => by rcases hk with q | q | q; exact ⟨(HPP.out k q).1, (HPP.out k q).2.1⟩; exact ⟨.inr (HOW.out k q.symm).1, (HOW.out k q.symm).2.1⟩; have b_ := HLG.out; exact ⟨.inr q, by omega⟩)) (fun k hk => hk.2) (.slice A1 (ns'.length + 1) c1))
        clear HGN HBN HKN HNW hc4_ hf4_
        refine hK.out _ _ ?_
        clear hK K
        refine done_ (by kernel_rfl) ?_
        go_wp2
        go_ret
        rw [HAY.out]
        exact ⟨_, rfl, HG9.out, Kd.S_mono HS9.out (fun _ hk => hk.1), HB9.out, HK9.out⟩
      · have i1 : decide (idxN x.f0 x.f1 x.f2 ks ns' 0 < 0) = false := decide_eq_false hi
        have HAY := m0_ (show addX x ns = (ns', idxN x.f0 x.f1 x.f2 ks ns' 0) from by rw [HAX.out]; exact if_neg hi)
        clear HAX
        go_wp2
        go_ret
        rw [HAY.out]
        exact ⟨_, rfl, HS2.out.gr, Kd.S_mono HSS2.out (fun k hk => (HPP.out k hk).1), HS2.out.below, HS2.out.kept⟩
    have hHB := HS.out.below
    obtain ⟨ad, A3, c3, e, k0, k1, k2, k3, hx6, hx7⟩ := at_T37 HK.out (n : Int) (by omega) (by omega)
    have h0 := (hHB.cell (World.block_lt_of_cell? _ _ k0)).trans k0
    have h1 := (hHB.cell (World.block_lt_of_cell? _ _ k1)).trans k1
    have h2 := (hHB.cell (World.block_lt_of_cell? _ _ k2)).trans k2
    have h3 := (hHB.cell (World.block_lt_of_cell? _ _ k3)).trans k3
    have HRD := m0_ (show rd_T37 x.f3 (n : Int) = x.f3.getD n z37 from rfl)
    have HMEM := m0_ (show rd_T37 x.f3 (n : Int) ∈ x.f3 from by rw [HRD.out, List.getD_eq_getElem?_getD, List.getElem?_eq_getElem hlt]; exact List.getElem_mem _)
    have hdr := kidsY_drop x.f3 n hlt
    rw [← HRD.out] at hdr
    have HDR := m0_ hdr
    have HX6 := m0_ hx6
    have HKX := m0_ hx7
    clear hx6 hx7 hdr k0 k1 k2 k3 hHB
    generalize rd_T37 x.f3 (n : Int) = y at *
    simp only [Int.toNat_natCast] at h0 h1 h2 h3
    subst e
    have HLY := m0_ (show ns'.length + allY y + 1 ≤ 1000 from by have q1 := HLN.out; rw [HDR.out, kidsY_cons, List.length_cons] at q1; omega)
    have HLZ := m0_ (show (addX y ns').1.length + kidsY (x.f3.drop (n + 1)) + (x.f3.drop (n + 1)).length + 1 ≤ 1000 from by have q1 := HLN.out; have q2 := addX_len y ns'; rw [HDR.out, kidsY_cons, List.length_cons] at q1; omega)
    have HE2 := m0_ (show addL (x.f3.drop (n + 1)) (addX y ns').1 (ks ++ [(addX y ns').2]) = addL x.f3 ns [] from by rw [← HE.out, HDR.out, addL_cons])
    have HK2 := m0_ (show (ks ++ [(addX y ns').2]).length ≤ n + 1 from by rw [List.length_append, List.length_singleton]; have a_ := HKS.out; omega)
    clear HE HLN
    obtain ⟨P, hP, hs⟩ := HS.out.ex
    have HPP := m0_ (show ∀ k, (P k ∧ k < wr.heap.size) → (P0 k ∨ w.heap.size ≤ k) ∧ k ≠ gg ∧ k ≠ g3 ∧ k ≠ g5 ∧ vk.ownBlock ≠ some k from fun k hk => hP k hk.1)
    have HSS := m0_ (Kd.S_mono (ok' := fun k => P k ∧ k < wr.heap.size) (Kd.S_bound hs) (fun k hk => ⟨hk.1, hk.2.2.1⟩))
    have HLW := m0_ (blk_lt HS.out.gr)
    have HBW := m0_ (Below.refl wr.heap.size wr)
    clear hP hs
    have l1 : decide ((n : Int) < (x.f3.length : Int)) = true := decide_eq_true (by omega)
    have l2 : (n : Int) < (x.f3.length : Int) := by omega
    have l3 : (0 : Int) ≤ (n : Int) := by omega
    go_upto_region 5 with (first | ((with_reducible refine gate_dst (N := 7) rfl ?_); refine box_event ?hg (N := 7) ?hd (cs := #[.int .i64 0, .int .i64 0, .int .i64 0, .slice none 0 0]) (t := 37) ?hr ?_; (case hd => rfl); (case hg => rfl); (case hr => first | (go_simp; done) | (go_simp; rfl)); intro g7 hg wg7 hbox hb; have G7 := m0_ (by rw [hg]; exact Nat.le_refl _ : wr.heap.size ≤ g7); have n0_ := m0_ (below_step HBW.out hb); have n1_ := m0_ (hbox); clear HBW; have HBW := n0_; have BKg7 := n1_; clear n0_ n1_; clear hb hbox hg) | ((with_reducible refine gate_store (t := 37) (p := 7) (v := .tmp 22) rfl ?_); refine store_blk (w0 := wr) (base := wr.heap.size) (e := 37) (g := g7) (off := 0) (cur := #[.int .i64 0, .int .i64 0, .int .i64 0, .slice none 0 0]) (cur' := #[.int .i64 y.f0, .int .i64 y.f1, .int .i64 y.f2, .slice A3 y.f3.length c3]) (u := .agg #[.int .i64 y.f0, .int .i64 y.f1, .int .i64 y.f2, .slice A3 y.f3.length c3]) (seg := [.int .i64 y.f0, .int .i64 y.f1, .int .i64 y.f2, .slice A3 y.f3.length c3]) rfl rfl rfl rfl rfl BKg7.out rfl ?ht ?h1 (by simp) rfl HBW.out G7.out ?_; (case ht => kernel_rfl); (case h1 => intro q hq; simp only [List.mem_cons, List.not_mem_nil, or_false] at hq; first | (rcases hq with rfl | rfl | rfl | rfl <;> rfl) | (rcases hq with rfl | rfl | rfl | rfl | rfl | rfl | rfl | rfl | rfl | rfl <;> rfl)); intro ws_ hs_ hk_ hB_; have n0_ := m0_ (hs_); have n1_ := m0_ (hB_); clear BKg7; clear HBW; have BKg7 := n0_; have HBW := n1_; clear n0_ n1_; clear hs_ hk_ hB_))
    have HS2 := m0_ (HS.out.to_below HBW.out).drew
    have HSS2 := m0_ (Kd.S_drew (Kd.S_below HSS.out HBW.out))
    have HB7 := m0_ (blk_drew BKg7.out)
    clear HS HSS HBW BKg7 h0 h1 h2 h3
    refine start_ (n := 9) (S := fun w' => w'.cell? ⟨g5, 3, none⟩ = some (vk) ∧ w'.cell? ⟨g7, 0, none⟩ = some (.int .i64 y.f0) ∧ w'.cell? ⟨g7, 1, none⟩ = some (.int .i64 y.f1) ∧ w'.cell? ⟨g7, 2, none⟩ = some (.int .i64 y.f2) ∧ w'.cell? ⟨g7, 3, none⟩ = some (.slice A3 y.f3.length c3)) (ds := [6, 8]) #[false, false, false, false, false, false, false, false, false] (by kernel_rfl) rfl rfl ⟨(blk_cell (HS2.out.bn) 3).trans rfl, (blk_cell (HB7.out) 0).trans rfl, (blk_cell (HB7.out) 1).trans rfl, (blk_cell (HB7.out) 2).trans rfl, (blk_cell (HB7.out) 3).trans rfl⟩ (fun hHeld => ?_)
    refine pv_ 0 23 #[true, false, false, false, false, false, false, false, false] (by kernel_rfl) ?_
    refine pv_ 2 25 #[true, false, true, false, false, false, false, false, false] (by kernel_rfl) ?_
    refine take_ (i := 1) (N := some 24) (v := ?_) (a' := ?_) #[true, true, true, false, false, false, false, false, false] rfl rfl (by kernel_rfl) (fun _ _ _ h => h) (Or.inl ⟨by rfl, ?_⟩) hHeld ?_ ?_
    rotate_left
    · rintro w' ⟨s0, s1, s2, s3, s4⟩
      go_simp
      with_reducible rfl
    rotate_left
    · simp only [Act.put, List.setIfInBounds_toArray, List.set_cons_zero, List.set_cons_succ, i64_w, i32_w]
      rfl
    refine take_ (i := 3) (N := some 26) (v := ?_) (a' := ?_) #[true, true, true, true, false, false, false, false, false] rfl rfl (by kernel_rfl) (fun _ _ _ h => h) (Or.inl ⟨by rfl, ?_⟩) hHeld ?_ ?_
    rotate_left
    · rintro w' ⟨s0, s1, s2, s3, s4⟩
      go_simp
      with_reducible rfl
    rotate_left
    · simp only [Act.put, List.setIfInBounds_toArray, List.set_cons_zero, List.set_cons_succ, i64_w, i32_w]
      rfl
    refine one_ (i := 4) (N := some 27) #[true, true, true, true, true, false, false, false, false] rfl rfl (by kernel_rfl) (by decide) (fun K hK => ?_)
    refine goes_ Try.func72 (by kernel_rfl) rfl #[.pointer (some ⟨gg, 0, none⟩), .agg #[.int .i64 y.f0, .int .i64 y.f1, .int .i64 y.f2, .slice A3 y.f3.length c3]] (by rfl) rfl rfl (by simp only [List.map_toArray, List.map_cons, List.map_nil]; rfl) ?_
    with_reducible refine (HI.out y HMEM.out A3 c3 _ (fun k => P k ∧ k < wr.heap.size) v ns' HX6.out HKX.out HS2.out.gr HSS2.out (fun k hk => (HPP.out k hk).2.1) HS2.out.below HLY.out).mono ?_
    rintro e w3 ⟨v2, rfl, hg2, hs2, hb2, hk2⟩
    refine ⟨_, rfl, ?_⟩
    have HS3 := m0_ (AddSt.call HS2.out HPP.out NG3.out NG5.out hg2 hs2 hb2 hk2)
    have n7_ := m0_ (blk_kept HB7.out hk2 (fun q => q.elim (fun q => by have a_ := q.2; have b_ := G7.out; omega) (fun q => by have a_ := G7.out; have b_ := HLW.out; omega)))
    clear HB7 HS2 HSS2 hg2 hs2 hb2 hk2
    have HB7 := n7_
    clear n7_
    refine hK.out _ _ ⟨(blk_cell (HS3.out.bn) 3).trans rfl, (blk_cell (HB7.out) 0).trans rfl, (blk_cell (HB7.out) 1).trans rfl, (blk_cell (HB7.out) 2).trans rfl, (blk_cell (HB7.out) 3).trans rfl⟩ (fun hHeld => ?_)
    clear hK K
    refine norm_ (a' := ?_) ?_ ?_
    rotate_left
    · show Act.put _ (some 27) _ = _
      simp only [Act.put, List.setIfInBounds_toArray, List.set_cons_zero, List.set_cons_succ, i64_w, i32_w]
      rfl
    refine one_ (i := 5) (N := some 28) #[true, true, true, true, true, true, false, false, false] rfl rfl (by kernel_rfl) (by decide) (fun K hK => ?_)
    refine value_ (w1 := ?_) (v := ?_) (by rfl) rfl ?_ ?_
    rotate_left 2
    · go_simp
      constructor
      · rfl
      · rfl
    refine hK.out _ _ ⟨(blk_cell (blk_alloc HS3.out.bn _) 3).trans rfl, (blk_cell (blk_alloc HB7.out _) 0).trans rfl, (blk_cell (blk_alloc HB7.out _) 1).trans rfl, (blk_cell (blk_alloc HB7.out _) 2).trans rfl, (blk_cell (blk_alloc HB7.out _) 3).trans rfl⟩ (fun hHeld => ?_)
    clear hK K
    refine norm_ (a' := ?_) ?_ ?_
    rotate_left
    · show Act.put _ (some 28) _ = _
      simp only [Act.put, List.setIfInBounds_toArray, List.set_cons_zero, List.set_cons_succ, i64_w, i32_w]
      rfl
    refine last_ (i := 6) (N := some 29) #[true, true, true, true, true, true, true, false, false] rfl rfl (by kernel_rfl) (by decide) (fun K hK => ?_)
    refine Kd.R_append_step (Kd.int .i64) (w0 := w0) w0.heap.size (by rfl) (.tmp 24) (.tmp 28) 45 3 (.int .i64 0) 8 rfl Try.underlying45 info3 rfl (by decide) (by omega) vk ks (addX y ns').2 [.int .i64 (addX y ns').2] (fun _ => True) (fun _ => False) rfl rfl ?aP (fun _ hk => hk.elim) ?aF ?aO ?aB ?aS ?aL ?_
    (case aP => exact rfl)
    (case aF => exact (fun _ _ => trivial))
    (case aO => exact HS3.out.row)
    (case aB => exact HS3.out.below)
    (case aS => exact HS3.out.below.size)
    (case aL => have a_ := HKS.out; have b_ := hK1000.out; omega)
    intro v1 w4 ho hb hg hat
    have HS4 := m0_ (AddSt.grow HS3.out ho hb hg hat)
    clear HS3 ho hb hg hat HB7
    obtain ⟨A1, c1, e1⟩ := Kd.R_slice HS4.out.row
    rw [List.length_append, List.length_singleton] at e1
    subst e1
    have hc4_ := (blk_cell HS4.out.bn 3).trans (show _ = some vk from rfl)
    have hf4_ := blk_frozen HS4.out.bn 3
    refine hK.out _ _ ?_
    clear hK K
    refine norm_ (a' := ?_) ?_ ?_
    rotate_left
    · show Act.put _ (some 29) _ = _
      simp only [Act.put, List.setIfInBounds_toArray, List.set_cons_zero, List.set_cons_succ, i64_w, i32_w]
      rfl
    refine pv_ 7 30 #[true, true, true, true, true, true, true, true, false] (by kernel_rfl) ?_
    refine last_ (i := 8) (N := none) #[true, true, true, true, true, true, true, true, true] rfl rfl (by kernel_rfl) (by decide) (fun K hK => ?_)
    refine skip_ (w1 := ?_) (by rfl) rfl ?_ ?_
    rotate_left
    · go_simp
      rfl
    have HS5 := m0_ (HS4.out.set N35.out (Ne.symm NG5.out) (by have a_ := HS4.out.kept.1; have b_ := G5.out; have d_ := HB.out.size; omega) G5.out)
    clear HS4 hc4_ hf4_
    refine hK.out _ _ ?_
    clear hK K
    refine done_ (by kernel_rfl) ?_
    go_wp2
    go_roundw
    case rel => exact ⟨n + 1, by omega, by go_num, _, _, _, _, HE2, HLZ, HK2, HS5⟩
    case measure => simp [intOf]; omega
end Go.Proofs.Ytdljhokealbnnaa.M
