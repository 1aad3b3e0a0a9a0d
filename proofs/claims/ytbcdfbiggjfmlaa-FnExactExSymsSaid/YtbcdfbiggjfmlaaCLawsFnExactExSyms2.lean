/- What the claim's law leans on: the program's functions, what they compute, and the law over plain values; no condition is asked. (Part 2 of 2.) -/
import Derived.Test.YtbcdfbiggjfmlaaCLawsFnExactExSyms1
import Derived.Laws.CopyRow
import Derived.Laws.CopyOwn
import Derived.Shelf.Small.Bits
import Derived.Shelf.Strconv.Itoa0
import Derived.Shelf.Sort.Plain
import Derived.Ground.Names2Prog
import Derived.Shelf.Slices.CompactI
import Derived.Shelf.Slices.SearchI
import Derived.Shelf.Slices.Cells
import Derived.Shelf.Slices.In.SortNone
import Derived.Test.YtbcdfbiggjfmlaaProg
namespace Go.Proofs.Ytbcdfbiggjfmlaa.M
open Go.RowKit Go.Proofs.YtbcdfbiggjfmlaaW.PrintWords Go.Proofs.YtbcdfbiggjfmlaaW.PrintLast Go.Proofs.YtbcdfbiggjfmlaaW.PrintMore
attribute [local go_sem] max2_int min2_int max_two min_two max_three min_three max_four min_four
set_option linter.unusedVariables false
set_option linter.unusedSimpArgs false

mutual
def impl_Ex_formed_1.f : Nat → Int → Int → Int → List (S29) → Option (Bool)
 | 0, _, _, _, _ => none
 | k + 1, a0_0, a0_1, a0_2, l0_3 => (impl_Ex_formed.f k a0_0 a0_1 a0_2 l0_3).bind fun t102 => (some (!t102))
def impl_Ex_52.l0 : Nat → List (S29) → Int → Int → Option (Int)
 | 0, _, _, _ => none
 | k + 1, x0, x7, x8 => if x8 < x7 then (if 0 ≤ x8 then (if x8 < (x0.length : Int) then ((impl_Ex_formed_1.f k ((rd_T29 x0 x8).f0) ((rd_T29 x0 x8).f1) ((rd_T29 x0 x8).f2) ((rd_T29 x0 x8).f3)).bind fun t104 => (if t104 = true then (some x8) else (impl_Ex_52.l0 k x0 x7 (wrap64 (x8 + 1))))) else (none)) else (none)) else (some (-1))
def impl_Ex_52.f : Nat → List (S29) → Option (Int)
 | 0, _ => none
 | k + 1, l0 => impl_Ex_52.l0 k l0 (l0.length : Int) 0
def impl_Ex_44.f : Nat → List (S29) → Option (Bool)
 | 0, _ => none
 | k + 1, l0 => (impl_Ex_52.f k l0).bind fun t105 => (some (decide (t105 ≥ 0)))
def impl_Ex_formed.j0 : Nat → Bool → Int → Int → Int → List (S29) → Option (Bool)
 | 0, _, _, _, _, _ => none
 | k + 1, x15, x107000, x107001, x107002, x107003 => if x15 = true then (some false) else (if x107000 = 1 then ((impl_isSym.f x107001).bind fun t109 => (if t109 = true then (impl_Ex_formed.j1 k false x107000 x107001 x107002 x107003) else (impl_Ex_formed.j1 k true x107000 x107001 x107002 x107003))) else (impl_Ex_formed.j1 k (x107001 != 0) x107000 x107001 x107002 x107003))
def impl_Ex_formed.j1 : Nat → Bool → Int → Int → Int → List (S29) → Option (Bool)
 | 0, _, _, _, _, _ => none
 | k + 1, x34, x107000, x107001, x107002, x107003 => if x34 = true then (some false) else (if x107000 = 7 then ((impl_in.f x107002 1 20).bind fun t110 => (if t110 = true then ((impl_Ex_44.f k x107003).bind fun t111 => (some (!t111))) else (some false))) else (if x107002 = 0 then ((impl_Ex_44.f k x107003).bind fun t112 => (some (!t112))) else (some false)))
def impl_Ex_formed.f : Nat → Int → Int → Int → List (S29) → Option (Bool)
 | 0, _, _, _, _ => none
 | k + 1, a0_0, a0_1, a0_2, l0_3 => (impl_isKind.f a0_0).bind fun t107 => (if t107 = true then ((impl_kids.f a0_0).bind fun t108 => (impl_Ex_formed.j0 k ((l0_3.length : Int) != t108) a0_0 a0_1 a0_2 l0_3)) else (impl_Ex_formed.j0 k true a0_0 a0_1 a0_2 l0_3))
end
set_option maxHeartbeats 8000000 in
set_option maxRecDepth 100000 in
theorem impl_Ex_formed_1.calls_step (k : Nat) (ih_45 : ∀ k_, k_ < k → ∀ (a0_0 : Int) (a0_1 : Int) (a0_2 : Int) (A0_3 : Option Addr) (c0_3 : Nat) (l0_3 : List (S29)) (r : Bool) (w : World) (hr0_3 : Kd.C k29 w A0_3 l0_3.length l0_3) (hc0_3 : l0_3.length ≤ c0_3) (h : impl_Ex_formed_1.f k_ a0_0 a0_1 a0_2 l0_3 = some r),
  Calls Try.prog 45 #[.agg #[.int .i64 a0_0, .int .i64 a0_1, .int .i64 a0_2, .slice A0_3 l0_3.length c0_3]] w fun e w' => e = .returned (.bool r) ∧ Below w.heap.size w w') (ih_52 : ∀ k_, k_ < k → ∀ (A0 : Option Addr) (c0 : Nat) (l0 : List (S29))  (r : Int) (w : World) (hr0 : Kd.C k29 w A0 l0.length l0) (hc0 : l0.length ≤ c0) (h : impl_Ex_52.f k_ l0 = some r),
  Calls Try.prog 52 #[.slice A0 l0.length c0, .func (.func 45) #[] #[]] w fun e w' => e = .returned (.int .i64 r) ∧ Below w.heap.size w w') (ih_44 : ∀ k_, k_ < k → ∀ (A0 : Option Addr) (c0 : Nat) (l0 : List (S29))  (r : Bool) (w : World) (hr0 : Kd.C k29 w A0 l0.length l0) (hc0 : l0.length ≤ c0) (h : impl_Ex_44.f k_ l0 = some r),
  Calls Try.prog 44 #[.slice A0 l0.length c0, .func (.func 45) #[] #[]] w fun e w' => e = .returned (.bool r) ∧ Below w.heap.size w w') (ih_31 : ∀ k_, k_ < k → ∀ (a0_0 : Int) (a0_1 : Int) (a0_2 : Int) (A0_3 : Option Addr) (c0_3 : Nat) (l0_3 : List (S29)) (r : Bool) (w : World) (hr0_3 : Kd.C k29 w A0_3 l0_3.length l0_3) (hc0_3 : l0_3.length ≤ c0_3) (h : impl_Ex_formed.f k_ a0_0 a0_1 a0_2 l0_3 = some r),
  Calls Try.prog 31 #[.agg #[.int .i64 a0_0, .int .i64 a0_1, .int .i64 a0_2, .slice A0_3 l0_3.length c0_3]] w fun e w' => e = .returned (.bool r) ∧ Below w.heap.size w w') : ∀ (a0_0 : Int) (a0_1 : Int) (a0_2 : Int) (A0_3 : Option Addr) (c0_3 : Nat) (l0_3 : List (S29)) (r : Bool) (w : World) (hr0_3 : Kd.C k29 w A0_3 l0_3.length l0_3) (hc0_3 : l0_3.length ≤ c0_3) (h : impl_Ex_formed_1.f k a0_0 a0_1 a0_2 l0_3 = some r),
  Calls Try.prog 45 #[.agg #[.int .i64 a0_0, .int .i64 a0_1, .int .i64 a0_2, .slice A0_3 l0_3.length c0_3]] w fun e w' => e = .returned (.bool r) ∧ Below w.heap.size w w' := by
 intro a0_0 a0_1 a0_2 A0_3 c0_3 l0_3 r w hr0_3 hc0_3 h
 cases k with
 | zero => exact absurd h (by simp [impl_Ex_formed_1.f])
 | succ k =>
 simp only [impl_Ex_formed_1.f] at h
 have hu29 := Try.underlying29
 have HR0_3 := m0_ hr0_3
 have HC0_3 := m0_ hc0_3
 clear hr0_3 hc0_3
 have HB := m0_ (Below.refl w.heap.size w)
 have H : ((impl_Ex_formed.f k a0_0 a0_1 a0_2 l0_3).bind fun t102 => (some (!t102))) = some r := h
 clear h
 replace H := Option.bind_eq_some_iff.mp H
 obtain ⟨t102, A20, H⟩ := H
 replace H : (some (!t102)) = some r := H
 have A2 := m0_ A20
 clear A20
 obtain rfl := Option.some.inj H
 go_enter Try.func45, Try.ntmps45
 go_wp2_with (first | ((with_reducible refine gate_dst (N := 1) rfl ?_);refine box_event ?hg (N := 1) ?hd (cs := #[.int .i64 a0_0, .int .i64 a0_1, .int .i64 a0_2, .slice A0_3 l0_3.length c0_3]) (t := 29) ?hr ?_;(case hd => rfl);(case hg => rfl);(case hr => first | (go_simp;done) | (go_simp;rfl));intro gb101 hg w3 hbox hb;have n0_ := m0_ (below_step (by repeat (first | (with_reducible first | exact HB.out | apply below_alloc | apply pw_below_drewN | apply below_drew1) | exact HB.out)) hb);have n1_ := m0_ (hbox);have n2_ := m0_ ((by rw [hg];exact (below_size (by repeat (first | (with_reducible first | exact HB.out | apply below_alloc | apply pw_below_drewN | apply below_drew1) | exact HB.out))) : w.heap.size ≤ gb101));have n3_ := m0_ ((by rw [hg];exact (below_size (by repeat (first | (with_reducible first | exact HB.out | apply below_alloc | apply pw_below_drewN | apply below_drew1) | exact HB.out))) : w.heap.size ≤ gb101));clear HB;have HB := n0_;have BK101 := n1_;have GW101 := n2_;have GE101 := n3_;clear n0_ n1_ n2_ n3_;clear hb hbox hg;have hcz4_0 : w3.cell? ⟨gb101, 0, none⟩ = some (.int .i64 a0_0) := (blk_cell BK101.out 0).trans rfl;have hcz4_1 : w3.cell? ⟨gb101, 1, none⟩ = some (.int .i64 a0_1) := (blk_cell BK101.out 1).trans rfl;have hcz4_2 : w3.cell? ⟨gb101, 2, none⟩ = some (.int .i64 a0_2) := (blk_cell BK101.out 2).trans rfl;have hcz4_3 : w3.cell? ⟨gb101, 3, none⟩ = some (.slice A0_3 l0_3.length c0_3) := (blk_cell BK101.out 3).trans rfl;have hfz4_0 := blk_frozen BK101.out 0;have hfz4_1 := blk_frozen BK101.out 1;have hfz4_2 := blk_frozen BK101.out 2;have hfz4_3 := blk_frozen BK101.out 3) | ((with_reducible refine gate_callee (f := 31) rfl ?_);refine goesL_ (some 4) rfl rfl Try.func31 (by kernel_rfl) rfl #[.agg #[.int .i64 a0_0, .int .i64 a0_1, .int .i64 a0_2, .slice A0_3 l0_3.length c0_3]] rfl (by (try simp only [List.map_toArray, List.map_cons, List.map_nil]);first | done | rfl | (simp only [List.length_drop, List.length_take];rfl)) ?_;(with_reducible refine (ih_31 k (by omega) a0_0 a0_1 a0_2 _ _ l0_3 t102 _ ?side1 ?side2 A2.out).mono ?_);(case side1 => repeat (first | exact (Kd.C_below HR0_3.out HB.out) | (with_reducible refine Kd.C_alloc ?_ _) | (with_reducible refine Kd.C_drewN ?_ _) | (with_reducible refine Kd.C_drew ?_)));(case side2 => exact HC0_3.out);rintro e w5 ⟨rfl, hb⟩;refine ⟨_, rfl, ?_⟩;have n0_ := m0_ (blk_below (g := gb101) (o := .cells #[.int .i64 a0_0, .int .i64 a0_1, .int .i64 a0_2, .slice A0_3 l0_3.length c0_3] 29 (0, 0)) (by (with_reducible repeat (first | refine blk_drewN ?_ _ | refine blk_drew ?_ | refine blk_alloc ?_ _));exact BK101.out) hb);have n1_ := m0_ (below_step (by repeat (first | (with_reducible first | exact HB.out | apply below_alloc | apply pw_below_drewN | apply below_drew1 | refine below_set ?_ GE101.out) | exact HB.out)) hb);clear BK101;clear HB;have BK101 := n0_;have HB := n1_;clear n0_ n1_;(try clear hb);(try clear hb2);(try clear hk);(try clear hi)))
 go_ret
 exact ⟨by first | rfl | (simp [errW_none, errW_some] <;> rfl) | (simp [*, errW_none, errW_some] <;> rfl), by repeat (first | (with_reducible first | exact HB.out | apply below_alloc | apply pw_below_drewN | apply below_drew1 | refine below_set ?_ GE101.out) | exact HB.out)⟩


set_option maxHeartbeats 8000000 in
set_option maxRecDepth 100000 in
theorem impl_Ex_52.calls_step (k : Nat) (ih_45 : ∀ k_, k_ < k → ∀ (a0_0 : Int) (a0_1 : Int) (a0_2 : Int) (A0_3 : Option Addr) (c0_3 : Nat) (l0_3 : List (S29)) (r : Bool) (w : World) (hr0_3 : Kd.C k29 w A0_3 l0_3.length l0_3) (hc0_3 : l0_3.length ≤ c0_3) (h : impl_Ex_formed_1.f k_ a0_0 a0_1 a0_2 l0_3 = some r),
  Calls Try.prog 45 #[.agg #[.int .i64 a0_0, .int .i64 a0_1, .int .i64 a0_2, .slice A0_3 l0_3.length c0_3]] w fun e w' => e = .returned (.bool r) ∧ Below w.heap.size w w') (ih_52 : ∀ k_, k_ < k → ∀ (A0 : Option Addr) (c0 : Nat) (l0 : List (S29))  (r : Int) (w : World) (hr0 : Kd.C k29 w A0 l0.length l0) (hc0 : l0.length ≤ c0) (h : impl_Ex_52.f k_ l0 = some r),
  Calls Try.prog 52 #[.slice A0 l0.length c0, .func (.func 45) #[] #[]] w fun e w' => e = .returned (.int .i64 r) ∧ Below w.heap.size w w') (ih_44 : ∀ k_, k_ < k → ∀ (A0 : Option Addr) (c0 : Nat) (l0 : List (S29))  (r : Bool) (w : World) (hr0 : Kd.C k29 w A0 l0.length l0) (hc0 : l0.length ≤ c0) (h : impl_Ex_44.f k_ l0 = some r),
  Calls Try.prog 44 #[.slice A0 l0.length c0, .func (.func 45) #[] #[]] w fun e w' => e = .returned (.bool r) ∧ Below w.heap.size w w') (ih_31 : ∀ k_, k_ < k → ∀ (a0_0 : Int) (a0_1 : Int) (a0_2 : Int) (A0_3 : Option Addr) (c0_3 : Nat) (l0_3 : List (S29)) (r : Bool) (w : World) (hr0_3 : Kd.C k29 w A0_3 l0_3.length l0_3) (hc0_3 : l0_3.length ≤ c0_3) (h : impl_Ex_formed.f k_ a0_0 a0_1 a0_2 l0_3 = some r),
  Calls Try.prog 31 #[.agg #[.int .i64 a0_0, .int .i64 a0_1, .int .i64 a0_2, .slice A0_3 l0_3.length c0_3]] w fun e w' => e = .returned (.bool r) ∧ Below w.heap.size w w') : ∀ (A0 : Option Addr) (c0 : Nat) (l0 : List (S29))  (r : Int) (w : World) (hr0 : Kd.C k29 w A0 l0.length l0) (hc0 : l0.length ≤ c0) (h : impl_Ex_52.f k l0 = some r),
  Calls Try.prog 52 #[.slice A0 l0.length c0, .func (.func 45) #[] #[]] w fun e w' => e = .returned (.int .i64 r) ∧ Below w.heap.size w w' := by
 intro A0 c0 l0 r w hr0 hc0 h
 cases k with
 | zero => exact absurd h (by simp [impl_Ex_52.f])
 | succ k =>
 simp only [impl_Ex_52.f] at h
 have hu29 := Try.underlying29
 have HR0 := m0_ hr0
 have HC0 := m0_ hc0
 clear hr0 hc0
 have HB := m0_ (Below.refl w.heap.size w)
 have H : (impl_Ex_52.l0 k l0 (l0.length : Int) 0) = some r := h
 clear h
 have H' := m0_ H
 clear H
 go_enter Try.func52, Try.ntmps52
 go_wp2
 go_loopg [8] k (fun kq v8 w' => ∃ (x8_1 : Int), v8 = .int .i64 x8_1 ∧ Aside0 (impl_Ex_52.l0 kq l0 (l0.length : Int) x8_1 = some r) ∧ Aside0 (kq ≤ k) ∧ Aside0 (Below w.heap.size w w'))
 case atStart => exact ⟨(0), (by first | rfl | (simp;done) | (simp [*];done)), H', ⟨Nat.le_refl _⟩, ⟨by repeat (first | (with_reducible first | exact HB.out | apply below_alloc | apply pw_below_drewN | apply below_drew1) | exact HB.out)⟩⟩
 case round =>
  clear H'
  try clear p2
  obtain ⟨x8_1, rfl, HA, HK1, HB⟩ := hrel
  cases gk with
  | zero => exact absurd HA.out (by simp [impl_Ex_52.l0])
  | succ k1 =>
   have H := HA.out
   clear HA
   simp only [impl_Ex_52.l0] at H
   by_cases c3 : x8_1 < (l0.length : Int)
   rotate_left
   ·rw [if_neg c3] at H
    have c3b0 : decide (x8_1 < (l0.length : Int)) = false := decide_eq_false c3
    clear c3
    obtain rfl := Option.some.inj H
    go_wp2
    go_ret
    exact ⟨by first | rfl | (simp [errW_none, errW_some] <;> rfl) | (simp [*, errW_none, errW_some] <;> rfl), by repeat (first | (with_reducible first | exact HB.out | apply below_alloc | apply pw_below_drewN | apply below_drew1) | exact HB.out)⟩
   rw [if_pos c3] at H
   have c3b0 : decide (x8_1 < (l0.length : Int)) = true := decide_eq_true c3
   clear c3
   by_cases c4 : 0 ≤ x8_1
   rotate_left
   ·rw [if_neg c4] at H
    exact absurd H (by simp)
   rw [if_pos c4] at H
   have c4b0 : decide (0 ≤ x8_1) = true := decide_eq_true c4
   clear c4
   by_cases c5 : x8_1 < (l0.length : Int)
   rotate_left
   ·rw [if_neg c5] at H
    exact absurd H (by simp)
   rw [if_pos c5] at H
   have c5b0 : decide (x8_1 < (l0.length : Int)) = true := decide_eq_true c5
   clear c5
   replace H := Option.bind_eq_some_iff.mp H
   obtain ⟨t104, A60, H⟩ := H
   replace H : (if t104 = true then (some x8_1) else (impl_Ex_52.l0 k1 l0 (l0.length : Int) (wrap64 (x8_1 + 1)))) = some r := H
   have A6 := m0_ A60
   clear A60
   by_cases c7 : t104 = true
   ·subst c7
    have H1 : (some x8_1) = some r := by rw [if_pos rfl] at H;exact H
    clear H
    have H := H1
    clear H1
    obtain rfl := Option.some.inj H
    have p103 : 0 ≤ (x8_1 : Int) := of_decide_eq_true (by first | (with_reducible assumption) | assumption)
    have q103 : x8_1 < (l0.length : Int) := of_decide_eq_true (by first | (with_reducible assumption) | assumption)
    obtain ⟨ad103, A103_3, c103_3, e103, hx103_0, hx103_1, hx103_2, hx103_3, hl103_3, hi103_3⟩ := at_T29 HR0.out x8_1 p103 q103
    cases e103
    replace hx103_0 := (HB.out.cell (World.block_lt_of_cell? w _ hx103_0)).trans hx103_0
    replace hx103_1 := (HB.out.cell (World.block_lt_of_cell? w _ hx103_1)).trans hx103_1
    replace hx103_2 := (HB.out.cell (World.block_lt_of_cell? w _ hx103_2)).trans hx103_2
    replace hx103_3 := (HB.out.cell (World.block_lt_of_cell? w _ hx103_3)).trans hx103_3
    have HR103_3 := m0_ hi103_3
    have HC103_3 := m0_ hl103_3
    clear hi103_3 hl103_3
    replace p103 := eq_true p103
    replace q103 := eq_true q103
    go_wp2_with (first | (go_at_call 45;(with_reducible refine (ih_45 k1 (by have := HK1.out;omega) ((rd_T29 l0 x8_1).f0) ((rd_T29 l0 x8_1).f1) ((rd_T29 l0 x8_1).f2) _ _ ((rd_T29 l0 x8_1).f3) true _ ?side1 ?side2 A6.out).mono ?_);(case side1 => repeat (first | exact (Kd.C_below HR103_3.out HB.out) | (with_reducible refine Kd.C_alloc ?_ _) | (with_reducible refine Kd.C_drewN ?_ _) | (with_reducible refine Kd.C_drew ?_)));(case side2 => exact HC103_3.out);rintro e w8 ⟨rfl, hb⟩;have n0_ := m0_ (below_step (by repeat (first | (with_reducible first | exact HB.out | apply below_alloc | apply pw_below_drewN | apply below_drew1) | exact HB.out)) hb);clear HB;have HB := n0_;clear n0_;(try clear hb);(try clear hb2);(try clear hk);(try clear hi)))
    go_ret
    exact ⟨by first | rfl | (simp [errW_none, errW_some] <;> rfl) | (simp [*, errW_none, errW_some] <;> rfl), by repeat (first | (with_reducible first | exact HB.out | apply below_alloc | apply pw_below_drewN | apply below_drew1) | exact HB.out)⟩
   replace c7 := Bool.eq_false_iff.mpr c7
   subst c7
   have H1 : (impl_Ex_52.l0 k1 l0 (l0.length : Int) (wrap64 (x8_1 + 1))) = some r := by rw [if_neg (show ¬ (false = true) by decide)] at H;exact H
   clear H
   have H := H1
   clear H1
   have H' := m0_ H
   clear H
   have p103 : 0 ≤ (x8_1 : Int) := of_decide_eq_true (by first | (with_reducible assumption) | assumption)
   have q103 : x8_1 < (l0.length : Int) := of_decide_eq_true (by first | (with_reducible assumption) | assumption)
   obtain ⟨ad103, A103_3, c103_3, e103, hx103_0, hx103_1, hx103_2, hx103_3, hl103_3, hi103_3⟩ := at_T29 HR0.out x8_1 p103 q103
   cases e103
   replace hx103_0 := (HB.out.cell (World.block_lt_of_cell? w _ hx103_0)).trans hx103_0
   replace hx103_1 := (HB.out.cell (World.block_lt_of_cell? w _ hx103_1)).trans hx103_1
   replace hx103_2 := (HB.out.cell (World.block_lt_of_cell? w _ hx103_2)).trans hx103_2
   replace hx103_3 := (HB.out.cell (World.block_lt_of_cell? w _ hx103_3)).trans hx103_3
   have HR103_3 := m0_ hi103_3
   have HC103_3 := m0_ hl103_3
   clear hi103_3 hl103_3
   replace p103 := eq_true p103
   replace q103 := eq_true q103
   go_wp2_with (first | (go_at_call 45;(with_reducible refine (ih_45 k1 (by have := HK1.out;omega) ((rd_T29 l0 x8_1).f0) ((rd_T29 l0 x8_1).f1) ((rd_T29 l0 x8_1).f2) _ _ ((rd_T29 l0 x8_1).f3) false _ ?side1 ?side2 A6.out).mono ?_);(case side1 => repeat (first | exact (Kd.C_below HR103_3.out HB.out) | (with_reducible refine Kd.C_alloc ?_ _) | (with_reducible refine Kd.C_drewN ?_ _) | (with_reducible refine Kd.C_drew ?_)));(case side2 => exact HC103_3.out);rintro e w9 ⟨rfl, hb⟩;have n0_ := m0_ (below_step (by repeat (first | (with_reducible first | exact HB.out | apply below_alloc | apply pw_below_drewN | apply below_drew1) | exact HB.out)) hb);clear HB;have HB := n0_;clear n0_;(try clear hb);(try clear hb2);(try clear hk);(try clear hi)))
   go_roundg k1
   case measure => have := HK1.out;omega
   case rel => exact ⟨(wrap64 (x8_1 + 1)), (by first | rfl | (simp;done) | (simp [*];done)), H', ⟨by have := HK1.out;omega⟩, ⟨by repeat (first | (with_reducible first | exact HB.out | apply below_alloc | apply pw_below_drewN | apply below_drew1) | exact HB.out)⟩⟩


set_option maxHeartbeats 8000000 in
set_option maxRecDepth 100000 in
theorem impl_Ex_44.calls_step (k : Nat) (ih_45 : ∀ k_, k_ < k → ∀ (a0_0 : Int) (a0_1 : Int) (a0_2 : Int) (A0_3 : Option Addr) (c0_3 : Nat) (l0_3 : List (S29)) (r : Bool) (w : World) (hr0_3 : Kd.C k29 w A0_3 l0_3.length l0_3) (hc0_3 : l0_3.length ≤ c0_3) (h : impl_Ex_formed_1.f k_ a0_0 a0_1 a0_2 l0_3 = some r),
  Calls Try.prog 45 #[.agg #[.int .i64 a0_0, .int .i64 a0_1, .int .i64 a0_2, .slice A0_3 l0_3.length c0_3]] w fun e w' => e = .returned (.bool r) ∧ Below w.heap.size w w') (ih_52 : ∀ k_, k_ < k → ∀ (A0 : Option Addr) (c0 : Nat) (l0 : List (S29))  (r : Int) (w : World) (hr0 : Kd.C k29 w A0 l0.length l0) (hc0 : l0.length ≤ c0) (h : impl_Ex_52.f k_ l0 = some r),
  Calls Try.prog 52 #[.slice A0 l0.length c0, .func (.func 45) #[] #[]] w fun e w' => e = .returned (.int .i64 r) ∧ Below w.heap.size w w') (ih_44 : ∀ k_, k_ < k → ∀ (A0 : Option Addr) (c0 : Nat) (l0 : List (S29))  (r : Bool) (w : World) (hr0 : Kd.C k29 w A0 l0.length l0) (hc0 : l0.length ≤ c0) (h : impl_Ex_44.f k_ l0 = some r),
  Calls Try.prog 44 #[.slice A0 l0.length c0, .func (.func 45) #[] #[]] w fun e w' => e = .returned (.bool r) ∧ Below w.heap.size w w') (ih_31 : ∀ k_, k_ < k → ∀ (a0_0 : Int) (a0_1 : Int) (a0_2 : Int) (A0_3 : Option Addr) (c0_3 : Nat) (l0_3 : List (S29)) (r : Bool) (w : World) (hr0_3 : Kd.C k29 w A0_3 l0_3.length l0_3) (hc0_3 : l0_3.length ≤ c0_3) (h : impl_Ex_formed.f k_ a0_0 a0_1 a0_2 l0_3 = some r),
  Calls Try.prog 31 #[.agg #[.int .i64 a0_0, .int .i64 a0_1, .int .i64 a0_2, .slice A0_3 l0_3.length c0_3]] w fun e w' => e = .returned (.bool r) ∧ Below w.heap.size w w') : ∀ (A0 : Option Addr) (c0 : Nat) (l0 : List (S29))  (r : Bool) (w : World) (hr0 : Kd.C k29 w A0 l0.length l0) (hc0 : l0.length ≤ c0) (h : impl_Ex_44.f k l0 = some r),
  Calls Try.prog 44 #[.slice A0 l0.length c0, .func (.func 45) #[] #[]] w fun e w' => e = .returned (.bool r) ∧ Below w.heap.size w w' := by
 intro A0 c0 l0 r w hr0 hc0 h
 cases k with
 | zero => exact absurd h (by simp [impl_Ex_44.f])
 | succ k =>
 simp only [impl_Ex_44.f] at h
 have HR0 := m0_ hr0
 have HC0 := m0_ hc0
 clear hr0 hc0
 have HB := m0_ (Below.refl w.heap.size w)
 have H : ((impl_Ex_52.f k l0).bind fun t105 => (some (decide (t105 ≥ 0)))) = some r := h
 clear h
 replace H := Option.bind_eq_some_iff.mp H
 obtain ⟨t105, A30, H⟩ := H
 replace H : (some (decide (t105 ≥ 0))) = some r := H
 have A3 := m0_ A30
 clear A30
 obtain rfl := Option.some.inj H
 go_enter Try.func44, Try.ntmps44
 go_wp2_with (first | ((with_reducible refine gate_callee (f := 52) rfl ?_);refine goesL_ (some 7) rfl rfl Try.func52 (by kernel_rfl) rfl #[.slice A0 l0.length c0, .func (.func 45) #[] #[]] rfl (by (try simp only [List.map_toArray, List.map_cons, List.map_nil]);first | done | rfl | (simp only [List.length_drop, List.length_take];rfl)) ?_;(with_reducible refine (ih_52 k (by omega) _ _ l0  t105 _ ?side1 ?side2 A3.out).mono ?_);(case side1 => repeat (first | exact HR0.out | (with_reducible refine Kd.C_alloc ?_ _) | (with_reducible refine Kd.C_drewN ?_ _) | (with_reducible refine Kd.C_drew ?_)));(case side2 => exact HC0.out);rintro e w4 ⟨rfl, hb⟩;refine ⟨_, rfl, ?_⟩;have n0_ := m0_ (below_step (by repeat (first | (with_reducible first | exact HB.out | apply below_alloc | apply pw_below_drewN | apply below_drew1) | exact HB.out)) hb);clear HB;have HB := n0_;clear n0_;(try clear hb);(try clear hb2);(try clear hk);(try clear hi)))
 go_ret
 exact ⟨by first | rfl | (simp [errW_none, errW_some] <;> rfl) | (simp [*, errW_none, errW_some] <;> rfl), by repeat (first | (with_reducible first | exact HB.out | apply below_alloc | apply pw_below_drewN | apply below_drew1) | exact HB.out)⟩


def impl_Ex_formed.T1 : Bool × List (List Nat × List Nat) := (true, [([], []), ([0], [0]), ([1], [1]), ([2], [2]), ([3, 2], [3]), ([4], [4]), ([5, 4], [4, 5]), ([6, 4], [4, 6]), ([4], [4]), ([8, 4], [4, 8]), ([9, 4, 4], [4, 9]), ([7, 10, 4], [4, 7, 10]), ([4, 11], [4, 11])])
def impl_Ex_formed.B1 : List Nat := [0, 1, 3, 7, 15, 31, 63, 127, 31, 287, 799, 2047, 4095]
theorem impl_Ex_formed.tab1 : rtab .any (opsOf Try.f31 1) = impl_Ex_formed.T1 := by kernel_rfl
theorem impl_Ex_formed.bits1 : waitsOk impl_Ex_formed.T1.2 impl_Ex_formed.B1 = true := by kernel_rfl
set_option maxHeartbeats 8000000 in
set_option maxRecDepth 100000 in
theorem impl_Ex_formed.calls_step (k : Nat) (ih_45 : ∀ k_, k_ < k → ∀ (a0_0 : Int) (a0_1 : Int) (a0_2 : Int) (A0_3 : Option Addr) (c0_3 : Nat) (l0_3 : List (S29)) (r : Bool) (w : World) (hr0_3 : Kd.C k29 w A0_3 l0_3.length l0_3) (hc0_3 : l0_3.length ≤ c0_3) (h : impl_Ex_formed_1.f k_ a0_0 a0_1 a0_2 l0_3 = some r),
  Calls Try.prog 45 #[.agg #[.int .i64 a0_0, .int .i64 a0_1, .int .i64 a0_2, .slice A0_3 l0_3.length c0_3]] w fun e w' => e = .returned (.bool r) ∧ Below w.heap.size w w') (ih_52 : ∀ k_, k_ < k → ∀ (A0 : Option Addr) (c0 : Nat) (l0 : List (S29))  (r : Int) (w : World) (hr0 : Kd.C k29 w A0 l0.length l0) (hc0 : l0.length ≤ c0) (h : impl_Ex_52.f k_ l0 = some r),
  Calls Try.prog 52 #[.slice A0 l0.length c0, .func (.func 45) #[] #[]] w fun e w' => e = .returned (.int .i64 r) ∧ Below w.heap.size w w') (ih_44 : ∀ k_, k_ < k → ∀ (A0 : Option Addr) (c0 : Nat) (l0 : List (S29))  (r : Bool) (w : World) (hr0 : Kd.C k29 w A0 l0.length l0) (hc0 : l0.length ≤ c0) (h : impl_Ex_44.f k_ l0 = some r),
  Calls Try.prog 44 #[.slice A0 l0.length c0, .func (.func 45) #[] #[]] w fun e w' => e = .returned (.bool r) ∧ Below w.heap.size w w') (ih_31 : ∀ k_, k_ < k → ∀ (a0_0 : Int) (a0_1 : Int) (a0_2 : Int) (A0_3 : Option Addr) (c0_3 : Nat) (l0_3 : List (S29)) (r : Bool) (w : World) (hr0_3 : Kd.C k29 w A0_3 l0_3.length l0_3) (hc0_3 : l0_3.length ≤ c0_3) (h : impl_Ex_formed.f k_ a0_0 a0_1 a0_2 l0_3 = some r),
  Calls Try.prog 31 #[.agg #[.int .i64 a0_0, .int .i64 a0_1, .int .i64 a0_2, .slice A0_3 l0_3.length c0_3]] w fun e w' => e = .returned (.bool r) ∧ Below w.heap.size w w') : ∀ (a0_0 : Int) (a0_1 : Int) (a0_2 : Int) (A0_3 : Option Addr) (c0_3 : Nat) (l0_3 : List (S29)) (r : Bool) (w : World) (hr0_3 : Kd.C k29 w A0_3 l0_3.length l0_3) (hc0_3 : l0_3.length ≤ c0_3) (h : impl_Ex_formed.f k a0_0 a0_1 a0_2 l0_3 = some r),
  Calls Try.prog 31 #[.agg #[.int .i64 a0_0, .int .i64 a0_1, .int .i64 a0_2, .slice A0_3 l0_3.length c0_3]] w fun e w' => e = .returned (.bool r) ∧ Below w.heap.size w w' := by
 intro a0_0 a0_1 a0_2 A0_3 c0_3 l0_3 r w hr0_3 hc0_3 h
 cases k with
 | zero => exact absurd h (by simp [impl_Ex_formed.f])
 | succ k =>
 simp only [impl_Ex_formed.f] at h
 have hu29 := Try.underlying29
 have HR0_3 := m0_ hr0_3
 have HC0_3 := m0_ hc0_3
 clear hr0_3 hc0_3
 have HB := m0_ (Below.refl w.heap.size w)
 have H : ((impl_isKind.f a0_0).bind fun t107 => (if t107 = true then ((impl_kids.f a0_0).bind fun t108 => (impl_Ex_formed.j0 k ((l0_3.length : Int) != t108) a0_0 a0_1 a0_2 l0_3)) else (impl_Ex_formed.j0 k true a0_0 a0_1 a0_2 l0_3))) = some r := h
 clear h
 have HC2 := m0_ H
 clear H
 go_enter Try.func31, Try.ntmps31
 go_upto_region 1 with (first | ((with_reducible refine gate_dst (N := 1) rfl ?_);(try (refine gate_guard (by rfl) ?_;dsimp only));refine box_event ?hg (N := 1) ?hd (cs := #[.int .i64 a0_0, .int .i64 a0_1, .int .i64 a0_2, .slice A0_3 l0_3.length c0_3]) (t := 29) ?hr ?_;(case hd => rfl);(case hg => rfl);(case hr => first | (go_simp;done) | (go_simp;rfl));intro gb106 hg w3 hbox hb;have n0_ := m0_ (below_step (by repeat (first | (with_reducible first | exact HB.out | apply below_alloc | apply pw_below_drewN | apply below_drew1) | exact HB.out)) hb);have n1_ := m0_ (hbox);have n2_ := m0_ ((by rw [hg];exact (below_size (by repeat (first | (with_reducible first | exact HB.out | apply below_alloc | apply pw_below_drewN | apply below_drew1) | exact HB.out))) : w.heap.size ≤ gb106));have n3_ := m0_ ((by rw [hg];exact (below_size (by repeat (first | (with_reducible first | exact HB.out | apply below_alloc | apply pw_below_drewN | apply below_drew1) | exact HB.out))) : w.heap.size ≤ gb106));clear HB;have HB := n0_;have BK106 := n1_;have GW106 := n2_;have GE106 := n3_;clear n0_ n1_ n2_ n3_;clear hb hbox hg))
 (try simp only [Act.put, List.setIfInBounds_toArray, List.set_cons_zero, List.set_cons_succ])
 go_cut [15] (fun v15 wc => ∃ (kq : Nat) (x15_1 : Bool), v15 = .bool x15_1 ∧ Aside0 (impl_Ex_formed.j0 kq x15_1 a0_0 a0_1 a0_2 l0_3 = some r) ∧ Aside0 (kq ≤ k) ∧ Aside0 (wc.heap[gb106]? = some (.cells #[.int .i64 a0_0, .int .i64 a0_1, .int .i64 a0_2, (.slice A0_3 l0_3.length c0_3)] 29 (0, 0))) ∧ Aside0 (Below w.heap.size w wc))
 case first =>
  have H := HC2.out
  clear HC2
  replace H := Option.bind_eq_some_iff.mp H
  obtain ⟨t107, A40, H⟩ := H
  replace H : (if t107 = true then ((impl_kids.f a0_0).bind fun t108 => (impl_Ex_formed.j0 k ((l0_3.length : Int) != t108) a0_0 a0_1 a0_2 l0_3)) else (impl_Ex_formed.j0 k true a0_0 a0_1 a0_2 l0_3)) = some r := H
  have A4 := m0_ A40
  clear A40
  by_cases c5 : t107 = true
  rotate_left
  ·replace c5 := Bool.eq_false_iff.mpr c5
   subst c5
   have H1 : (impl_Ex_formed.j0 k true a0_0 a0_1 a0_2 l0_3) = some r := by rw [if_neg (show ¬ (false = true) by decide)] at H;exact H
   clear H
   have H := H1
   clear H1
   have H' := m0_ H
   clear H
   try go_wp2
   have n0_ := m0_ (blk_drew BK106.out)
   have n1_ := m0_ (below_drew1 HB.out)
   clear BK106
   clear HB
   have BK106 := n0_
   have HB := n1_
   clear n0_ n1_
   refine start_ (n := 13) (S := fun w' => w'.cell? ⟨gb106, 0, none⟩ = some (.int .i64 a0_0) ∧ w'.cell? ⟨gb106, 1, none⟩ = some (.int .i64 a0_1) ∧ w'.cell? ⟨gb106, 2, none⟩ = some (.int .i64 a0_2) ∧ w'.cell? ⟨gb106, 3, none⟩ = some (.slice A0_3 l0_3.length c0_3)) (ds := []) #[false, false, false, false, false, false, false, false, false, false, false, false, false] (by kernel_rfl) rfl rfl ⟨(blk_cell BK106.out 0).trans rfl, (blk_cell BK106.out 1).trans rfl, (blk_cell BK106.out 2).trans rfl, (blk_cell BK106.out 3).trans rfl⟩ (fun hHeld => ?_);refine with_tabW impl_Ex_formed.tab1 impl_Ex_formed.bits1 (fun HT_ HW_ => ?_)
   generalize w3.drew = w9 at BK106 HB hHeld ⊢
   refine pure_ (i := 0) (N := some 3) (v := ?_) (a' := ?_) #[true, false, false, false, false, false, false, false, false, false, false, false, false] rfl rfl (any_of HT_.out (by kernel_rfl)) (fun _ _ _ h => h) (Or.inl ⟨by rfl, ?_⟩) ?_ ?_
   rotate_left
   ·intro w'
    go_simp
    with_reducible rfl
   rotate_left
   ·simp only [Act.put, List.setIfInBounds_toArray, List.set_cons_zero, List.set_cons_succ, i64_w, i32_w]
    rfl
   refine take_ (i := 1) (N := some 4) (v := ?_) (a' := ?_) #[true, true, false, false, false, false, false, false, false, false, false, false, false] rfl rfl (take_ofW HT_.out HW_.out (by kernel_rfl)) (fun _ _ _ h => h) (Or.inl ⟨by rfl, ?_⟩) hHeld ?_ ?_
   rotate_left
   ·rintro w' ⟨s0, s1, s2, s3⟩
    go_simp
    with_reducible rfl
   rotate_left
   ·simp only [Act.put, List.setIfInBounds_toArray, List.set_cons_zero, List.set_cons_succ, i64_w, i32_w]
    rfl
   refine one_ (i := 2) (N := some 5) #[true, true, true, false, false, false, false, false, false, false, false, false, false] rfl rfl (one_of HT_.out (by kernel_rfl)) (by decide) (fun K hK => ?_)
   refine goes_ Try.func40 (by kernel_rfl) rfl #[.int .i64 a0_0] (by rfl) rfl rfl (by (try simp only [List.map_toArray, List.map_cons, List.map_nil]);first | done | rfl | (simp only [List.length_drop, List.length_take];rfl)) ?_
   with_reducible refine (impl_isKind.calls a0_0 false _ A4.out).mono ?_
   rintro e w' ⟨rfl, ⟨nd, rfl⟩⟩
   refine ⟨_, rfl, ?_⟩
   refine hK.out _ _ ⟨(blk_cell BK106.out 0).trans rfl, (blk_cell BK106.out 1).trans rfl, (blk_cell BK106.out 2).trans rfl, (blk_cell BK106.out 3).trans rfl⟩ (fun hHeld => ?_)
   clear hK K
   refine norm_ (a' := ?_) ?_ ?_
   rotate_left
   ·show Act.put _ (some 5) _ = _
    simp only [Act.put, List.setIfInBounds_toArray, List.set_cons_zero, List.set_cons_succ, i64_w, i32_w]
    rfl
   refine pure_ (i := 3) (N := some 6) (v := ?_) (a' := ?_) #[true, true, true, true, false, false, false, false, false, false, false, false, false] rfl rfl (any_of HT_.out (by kernel_rfl)) (fun _ _ _ h => h) (Or.inl ⟨by rfl, ?_⟩) ?_ ?_
   rotate_left
   ·intro w'
    go_simp
    with_reducible rfl
   rotate_left
   ·simp only [Act.put, List.setIfInBounds_toArray, List.set_cons_zero, List.set_cons_succ, i64_w, i32_w]
    rfl
   refine pure_ (i := 4) (N := some 7) (v := ?_) (a' := ?_) #[true, true, true, true, true, false, false, false, false, false, false, false, false] rfl rfl (any_of HT_.out (by kernel_rfl)) (fun _ _ _ h => h) (Or.inl ⟨by rfl, ?_⟩) ?_ ?_
   rotate_left
   ·intro w'
    go_simp
    with_reducible rfl
   rotate_left
   ·simp only [Act.put, List.setIfInBounds_toArray, List.set_cons_zero, List.set_cons_succ, i64_w, i32_w]
    rfl
   refine pure_ (i := 5) (N := some 8) (v := undef) (a' := ?_) #[true, true, true, true, true, true, false, false, false, false, false, false, false] rfl rfl (any_of HT_.out (by kernel_rfl)) (fun _ _ _ h => h) (Or.inr ⟨by rfl, rfl⟩) ?_ ?_
   rotate_left
   ·simp only [Act.put, List.setIfInBounds_toArray, List.set_cons_zero, List.set_cons_succ, i64_w, i32_w]
    rfl
   refine pure_ (i := 6) (N := some 9) (v := undef) (a' := ?_) #[true, true, true, true, true, true, true, false, false, false, false, false, false] rfl rfl (any_of HT_.out (by kernel_rfl)) (fun _ _ _ h => h) (Or.inr ⟨by rfl, rfl⟩) ?_ ?_
   rotate_left
   ·simp only [Act.put, List.setIfInBounds_toArray, List.set_cons_zero, List.set_cons_succ, i64_w, i32_w]
    rfl
   refine pure_ (i := 7) (N := some 10) (v := undef) (a' := ?_) #[true, true, true, true, true, true, true, true, false, false, false, false, false] rfl rfl (any_of HT_.out (by kernel_rfl)) (fun _ _ _ h => h) (Or.inr ⟨by rfl, rfl⟩) ?_ ?_
   rotate_left
   ·simp only [Act.put, List.setIfInBounds_toArray, List.set_cons_zero, List.set_cons_succ, i64_w, i32_w]
    rfl
   refine pure_ (i := 8) (N := some 11) (v := undef) (a' := ?_) #[true, true, true, true, true, true, true, true, true, false, false, false, false] rfl rfl (any_of HT_.out (by kernel_rfl)) (fun _ _ _ h => h) (Or.inr ⟨by rfl, rfl⟩) ?_ ?_
   rotate_left
   ·simp only [Act.put, List.setIfInBounds_toArray, List.set_cons_zero, List.set_cons_succ, i64_w, i32_w]
    rfl
   refine pure_ (i := 9) (N := some 12) (v := undef) (a' := ?_) #[true, true, true, true, true, true, true, true, true, true, false, false, false] rfl rfl (any_of HT_.out (by kernel_rfl)) (fun _ _ _ h => h) (Or.inr ⟨by rfl, rfl⟩) ?_ ?_
   rotate_left
   ·simp only [Act.put, List.setIfInBounds_toArray, List.set_cons_zero, List.set_cons_succ, i64_w, i32_w]
    rfl
   refine pure_ (i := 10) (N := some 13) (v := undef) (a' := ?_) #[true, true, true, true, true, true, true, true, true, true, true, false, false] rfl rfl (any_of HT_.out (by kernel_rfl)) (fun _ _ _ h => h) (Or.inr ⟨by rfl, rfl⟩) ?_ ?_
   rotate_left
   ·simp only [Act.put, List.setIfInBounds_toArray, List.set_cons_zero, List.set_cons_succ, i64_w, i32_w]
    rfl
   refine pure_ (i := 11) (N := some 14) (v := undef) (a' := ?_) #[true, true, true, true, true, true, true, true, true, true, true, true, false] rfl rfl (any_of HT_.out (by kernel_rfl)) (fun _ _ _ h => h) (Or.inr ⟨by rfl, rfl⟩) ?_ ?_
   rotate_left
   ·simp only [Act.put, List.setIfInBounds_toArray, List.set_cons_zero, List.set_cons_succ, i64_w, i32_w]
    rfl
   refine pure_ (i := 12) (N := some 15) (v := ?_) (a' := ?_) #[true, true, true, true, true, true, true, true, true, true, true, true, true] rfl rfl (any_of HT_.out (by kernel_rfl)) (fun _ _ _ h => h) (Or.inl ⟨by rfl, ?_⟩) ?_ ?_
   rotate_left
   ·intro w'
    go_simp
    with_reducible rfl
   rotate_left
   ·simp only [Act.put, List.setIfInBounds_toArray, List.set_cons_zero, List.set_cons_succ, i64_w, i32_w]
    rfl
   refine done_ (done_of HT_.out (by kernel_rfl)) ?_
   try go_wp2
   go_meet
   case rel => exact ⟨_, (true), (by first | rfl | (simp;done) | (simp [*];done)), H', ⟨by first | omega | exact Nat.le_refl _⟩, ⟨by (with_reducible repeat (first | refine blk_drewN ?_ _ | refine blk_drew ?_ | refine blk_alloc ?_ _));exact BK106.out⟩, ⟨by repeat (first | (with_reducible first | exact HB.out | apply below_alloc | apply pw_below_drewN | apply below_drew1 | refine below_set ?_ GE106.out) | exact HB.out)⟩⟩
  subst c5
  have H1 : ((impl_kids.f a0_0).bind fun t108 => (impl_Ex_formed.j0 k ((l0_3.length : Int) != t108) a0_0 a0_1 a0_2 l0_3)) = some r := by rw [if_pos rfl] at H;exact H
  clear H
  have H := H1
  clear H1
  replace H := Option.bind_eq_some_iff.mp H
  obtain ⟨t108, A60, H⟩ := H
  replace H : (impl_Ex_formed.j0 k ((l0_3.length : Int) != t108) a0_0 a0_1 a0_2 l0_3) = some r := H
  have A6 := m0_ A60
  clear A60
  have H' := m0_ H
  clear H
  try go_wp2
  have n0_ := m0_ (blk_drew BK106.out)
  have n1_ := m0_ (below_drew1 HB.out)
  clear BK106
  clear HB
  have BK106 := n0_
  have HB := n1_
  clear n0_ n1_
  refine start_ (n := 13) (S := fun w' => w'.cell? ⟨gb106, 0, none⟩ = some (.int .i64 a0_0) ∧ w'.cell? ⟨gb106, 1, none⟩ = some (.int .i64 a0_1) ∧ w'.cell? ⟨gb106, 2, none⟩ = some (.int .i64 a0_2) ∧ w'.cell? ⟨gb106, 3, none⟩ = some (.slice A0_3 l0_3.length c0_3)) (ds := []) #[false, false, false, false, false, false, false, false, false, false, false, false, false] (by kernel_rfl) rfl rfl ⟨(blk_cell BK106.out 0).trans rfl, (blk_cell BK106.out 1).trans rfl, (blk_cell BK106.out 2).trans rfl, (blk_cell BK106.out 3).trans rfl⟩ (fun hHeld => ?_);refine with_tabW impl_Ex_formed.tab1 impl_Ex_formed.bits1 (fun HT_ HW_ => ?_)
  generalize w3.drew = w7 at BK106 HB hHeld ⊢
  refine pure_ (i := 0) (N := some 3) (v := ?_) (a' := ?_) #[true, false, false, false, false, false, false, false, false, false, false, false, false] rfl rfl (any_of HT_.out (by kernel_rfl)) (fun _ _ _ h => h) (Or.inl ⟨by rfl, ?_⟩) ?_ ?_
  rotate_left
  ·intro w'
   go_simp
   with_reducible rfl
  rotate_left
  ·simp only [Act.put, List.setIfInBounds_toArray, List.set_cons_zero, List.set_cons_succ, i64_w, i32_w]
   rfl
  refine take_ (i := 1) (N := some 4) (v := ?_) (a' := ?_) #[true, true, false, false, false, false, false, false, false, false, false, false, false] rfl rfl (take_ofW HT_.out HW_.out (by kernel_rfl)) (fun _ _ _ h => h) (Or.inl ⟨by rfl, ?_⟩) hHeld ?_ ?_
  rotate_left
  ·rintro w' ⟨s0, s1, s2, s3⟩
   go_simp
   with_reducible rfl
  rotate_left
  ·simp only [Act.put, List.setIfInBounds_toArray, List.set_cons_zero, List.set_cons_succ, i64_w, i32_w]
   rfl
  refine one_ (i := 2) (N := some 5) #[true, true, true, false, false, false, false, false, false, false, false, false, false] rfl rfl (one_of HT_.out (by kernel_rfl)) (by decide) (fun K hK => ?_)
  refine goes_ Try.func40 (by kernel_rfl) rfl #[.int .i64 a0_0] (by rfl) rfl rfl (by (try simp only [List.map_toArray, List.map_cons, List.map_nil]);first | done | rfl | (simp only [List.length_drop, List.length_take];rfl)) ?_
  with_reducible refine (impl_isKind.calls a0_0 true _ A4.out).mono ?_
  rintro e w' ⟨rfl, ⟨nd, rfl⟩⟩
  refine ⟨_, rfl, ?_⟩
  refine hK.out _ _ ⟨(blk_cell BK106.out 0).trans rfl, (blk_cell BK106.out 1).trans rfl, (blk_cell BK106.out 2).trans rfl, (blk_cell BK106.out 3).trans rfl⟩ (fun hHeld => ?_)
  clear hK K
  refine norm_ (a' := ?_) ?_ ?_
  rotate_left
  ·show Act.put _ (some 5) _ = _
   simp only [Act.put, List.setIfInBounds_toArray, List.set_cons_zero, List.set_cons_succ, i64_w, i32_w]
   rfl
  refine pure_ (i := 3) (N := some 6) (v := ?_) (a' := ?_) #[true, true, true, true, false, false, false, false, false, false, false, false, false] rfl rfl (any_of HT_.out (by kernel_rfl)) (fun _ _ _ h => h) (Or.inl ⟨by rfl, ?_⟩) ?_ ?_
  rotate_left
  ·intro w'
   go_simp
   with_reducible rfl
  rotate_left
  ·simp only [Act.put, List.setIfInBounds_toArray, List.set_cons_zero, List.set_cons_succ, i64_w, i32_w]
   rfl
  refine pure_ (i := 4) (N := some 7) (v := ?_) (a' := ?_) #[true, true, true, true, true, false, false, false, false, false, false, false, false] rfl rfl (any_of HT_.out (by kernel_rfl)) (fun _ _ _ h => h) (Or.inl ⟨by rfl, ?_⟩) ?_ ?_
  rotate_left
  ·intro w'
   go_simp
   with_reducible rfl
  rotate_left
  ·simp only [Act.put, List.setIfInBounds_toArray, List.set_cons_zero, List.set_cons_succ, i64_w, i32_w]
   rfl
  refine pure_ (i := 5) (N := some 8) (v := ?_) (a' := ?_) #[true, true, true, true, true, true, false, false, false, false, false, false, false] rfl rfl (any_of HT_.out (by kernel_rfl)) (fun _ _ _ h => h) (Or.inl ⟨by rfl, ?_⟩) ?_ ?_
  rotate_left
  ·intro w'
   go_simp
   with_reducible rfl
  rotate_left
  ·simp only [Act.put, List.setIfInBounds_toArray, List.set_cons_zero, List.set_cons_succ, i64_w, i32_w]
   rfl
  refine pure_ (i := 8) (N := some 11) (v := ?_) (a' := ?_) #[true, true, true, true, true, true, false, false, true, false, false, false, false] rfl rfl (any_of HT_.out (by kernel_rfl)) (fun _ _ _ h => h) (Or.inl ⟨by rfl, ?_⟩) ?_ ?_
  rotate_left
  ·intro w'
   go_simp
   with_reducible rfl
  rotate_left
  ·simp only [Act.put, List.setIfInBounds_toArray, List.set_cons_zero, List.set_cons_succ, i64_w, i32_w]
   rfl
  refine take_ (i := 6) (N := some 9) (v := ?_) (a' := ?_) #[true, true, true, true, true, true, true, false, true, false, false, false, false] rfl rfl (take_ofW HT_.out HW_.out (by kernel_rfl)) (fun _ _ _ h => h) (Or.inl ⟨by rfl, ?_⟩) hHeld ?_ ?_
  rotate_left
  ·rintro w' ⟨s0, s1, s2, s3⟩
   go_simp
   with_reducible rfl
  rotate_left
  ·simp only [Act.put, List.setIfInBounds_toArray, List.set_cons_zero, List.set_cons_succ, i64_w, i32_w]
   rfl
  refine pure_ (i := 7) (N := some 10) (v := ?_) (a' := ?_) #[true, true, true, true, true, true, true, true, true, false, false, false, false] rfl rfl (any_of HT_.out (by kernel_rfl)) (fun _ _ _ h => h) (Or.inl ⟨by rfl, ?_⟩) ?_ ?_
  rotate_left
  ·intro w'
   go_simp
   with_reducible rfl
  rotate_left
  ·simp only [Act.put, List.setIfInBounds_toArray, List.set_cons_zero, List.set_cons_succ, i64_w, i32_w]
   rfl
  refine take_ (i := 9) (N := some 12) (v := ?_) (a' := ?_) #[true, true, true, true, true, true, true, true, true, true, false, false, false] rfl rfl (take_ofW HT_.out HW_.out (by kernel_rfl)) (fun _ _ _ h => h) (Or.inl ⟨by rfl, ?_⟩) hHeld ?_ ?_
  rotate_left
  ·rintro w' ⟨s0, s1, s2, s3⟩
   go_simp
   with_reducible rfl
  rotate_left
  ·simp only [Act.put, List.setIfInBounds_toArray, List.set_cons_zero, List.set_cons_succ, i64_w, i32_w]
   rfl
  refine one_ (i := 10) (N := some 13) #[true, true, true, true, true, true, true, true, true, true, true, false, false] rfl rfl (one_of HT_.out (by kernel_rfl)) (by decide) (fun K hK => ?_)
  refine goes_ Try.func41 (by kernel_rfl) rfl #[.int .i64 a0_0] (by rfl) rfl rfl (by (try simp only [List.map_toArray, List.map_cons, List.map_nil]);first | done | rfl | (simp only [List.length_drop, List.length_take];rfl)) ?_
  with_reducible refine (impl_kids.calls a0_0 t108 _ A6.out).mono ?_
  rintro e w8 ⟨rfl, hb⟩
  refine ⟨_, rfl, ?_⟩
  have n0_ := m0_ (blk_below (g := gb106) (o := .cells #[.int .i64 a0_0, .int .i64 a0_1, .int .i64 a0_2, .slice A0_3 l0_3.length c0_3] 29 (0, 0)) (by (with_reducible repeat (first | refine blk_drewN ?_ _ | refine blk_drew ?_ | refine blk_alloc ?_ _));exact BK106.out) hb)
  have n1_ := m0_ (below_step (by repeat (first | (with_reducible first | exact HB.out | apply below_alloc | apply pw_below_drewN | apply below_drew1 | refine below_set ?_ GE106.out) | exact HB.out)) hb)
  clear BK106
  clear HB
  have BK106 := n0_
  have HB := n1_
  clear n0_ n1_
  (try clear hb)
  (try clear hb2)
  (try clear hk)
  (try clear hi)
  refine hK.out _ _ ⟨(blk_cell BK106.out 0).trans rfl, (blk_cell BK106.out 1).trans rfl, (blk_cell BK106.out 2).trans rfl, (blk_cell BK106.out 3).trans rfl⟩ (fun hHeld => ?_)
  clear hK K
  refine norm_ (a' := ?_) ?_ ?_
  rotate_left
  ·show Act.put _ (some 13) _ = _
   simp only [Act.put, List.setIfInBounds_toArray, List.set_cons_zero, List.set_cons_succ, i64_w, i32_w]
   rfl
  refine pure_ (i := 11) (N := some 14) (v := ?_) (a' := ?_) #[true, true, true, true, true, true, true, true, true, true, true, true, false] rfl rfl (any_of HT_.out (by kernel_rfl)) (fun _ _ _ h => h) (Or.inl ⟨by rfl, ?_⟩) ?_ ?_
  rotate_left
  ·intro w'
   go_simp
   with_reducible rfl
  rotate_left
  ·simp only [Act.put, List.setIfInBounds_toArray, List.set_cons_zero, List.set_cons_succ, i64_w, i32_w]
   rfl
  refine pure_ (i := 12) (N := some 15) (v := ?_) (a' := ?_) #[true, true, true, true, true, true, true, true, true, true, true, true, true] rfl rfl (any_of HT_.out (by kernel_rfl)) (fun _ _ _ h => h) (Or.inl ⟨by rfl, ?_⟩) ?_ ?_
  rotate_left
  ·intro w'
   go_simp
   with_reducible rfl
  rotate_left
  ·simp only [Act.put, List.setIfInBounds_toArray, List.set_cons_zero, List.set_cons_succ, i64_w, i32_w]
   rfl
  refine done_ (done_of HT_.out (by kernel_rfl)) ?_
  try go_wp2
  go_meet
  case rel => exact ⟨_, (((l0_3.length : Int) != t108)), (by first | rfl | (simp;done) | (simp [*];done)), H', ⟨by first | omega | exact Nat.le_refl _⟩, ⟨by (with_reducible repeat (first | refine blk_drewN ?_ _ | refine blk_drew ?_ | refine blk_alloc ?_ _));exact BK106.out⟩, ⟨by repeat (first | (with_reducible first | exact HB.out | apply below_alloc | apply pw_below_drewN | apply below_drew1 | refine below_set ?_ GE106.out) | exact HB.out)⟩⟩
 case rest =>
  clear HC2
  try clear p2
  try clear c3
  try clear c4
  try clear c5
  obtain ⟨kq, x15_1, rfl, HA, HJ1, BK106, HB⟩ := hcut
  cases kq with
  | zero => exact absurd HA.out (by simp [impl_Ex_formed.j0])
  | succ kj1 =>
   have H := HA.out
   clear HA
   simp only [impl_Ex_formed.j0] at H
   by_cases c10 : x15_1 = true
   ·subst c10
    have H1 : (some false) = some r := by rw [if_pos rfl] at H;exact H
    clear H
    have H := H1
    clear H1
    obtain rfl := Option.some.inj H
    go_wp2
    go_ret
    exact ⟨by first | rfl | (simp [errW_none, errW_some] <;> rfl) | (simp [*, errW_none, errW_some] <;> rfl), by repeat (first | (with_reducible first | exact HB.out | apply below_alloc | apply pw_below_drewN | apply below_drew1 | refine below_set ?_ GE106.out) | exact HB.out)⟩
   replace c10 := Bool.eq_false_iff.mpr c10
   subst c10
   have H1 : (if a0_0 = 1 then ((impl_isSym.f a0_1).bind fun t109 => (if t109 = true then (impl_Ex_formed.j1 kj1 false a0_0 a0_1 a0_2 l0_3) else (impl_Ex_formed.j1 kj1 true a0_0 a0_1 a0_2 l0_3))) else (impl_Ex_formed.j1 kj1 (a0_1 != 0) a0_0 a0_1 a0_2 l0_3)) = some r := by rw [if_neg (show ¬ (false = true) by decide)] at H;exact H
   clear H
   have H := H1
   clear H1
   have HC11 := m0_ H
   clear H
   go_upto_region 3 with (fail)
   go_cut [34] (fun v34 wc => ∃ (kq : Nat) (x34_10 : Bool), v34 = .bool x34_10 ∧ Aside0 (impl_Ex_formed.j1 kq x34_10 a0_0 a0_1 a0_2 l0_3 = some r) ∧ Aside0 (kq ≤ kj1) ∧ Aside0 (wc.heap[gb106]? = some (.cells #[.int .i64 a0_0, .int .i64 a0_1, .int .i64 a0_2, (.slice A0_3 l0_3.length c0_3)] 29 (0, 0))) ∧ Aside0 (Below w.heap.size w wc))
   case first =>
    have H := HC11.out
    clear HC11
    by_cases c12 : a0_0 = 1
    rotate_left
    ·rw [if_neg c12] at H
     have c12b0 : (a0_0 == 1) = false := beq_eq_false_iff_ne.mpr c12
     have c12b1 : (a0_0 != 1) = true := bne_iff_ne.mpr c12
     (first | rw [c12b0] | (simp only [i64_w, i32_w];rw [c12b0]) | skip)
     have H' := m0_ H
     clear H
     have hcz17_0 : wc.cell? ⟨gb106, 0, none⟩ = some (.int .i64 a0_0) := (blk_cell BK106.out 0).trans rfl
     have hcz17_1 : wc.cell? ⟨gb106, 1, none⟩ = some (.int .i64 a0_1) := (blk_cell BK106.out 1).trans rfl
     have hcz17_2 : wc.cell? ⟨gb106, 2, none⟩ = some (.int .i64 a0_2) := (blk_cell BK106.out 2).trans rfl
     have hcz17_3 : wc.cell? ⟨gb106, 3, none⟩ = some (.slice A0_3 l0_3.length c0_3) := (blk_cell BK106.out 3).trans rfl
     have hfz17_0 := blk_frozen BK106.out 0
     have hfz17_1 := blk_frozen BK106.out 1
     have hfz17_2 := blk_frozen BK106.out 2
     have hfz17_3 := blk_frozen BK106.out 3
     go_wp2
     go_meet
     case rel => exact ⟨_, ((a0_1 != 0)), (by first | rfl | (simp;done) | (simp [*];done)), H', ⟨by have := HJ1.out;first | omega | exact Nat.le_refl _⟩, ⟨by (with_reducible repeat (first | refine blk_drewN ?_ _ | refine blk_drew ?_ | refine blk_alloc ?_ _));exact BK106.out⟩, ⟨by repeat (first | (with_reducible first | exact HB.out | apply below_alloc | apply pw_below_drewN | apply below_drew1 | refine below_set ?_ GE106.out) | exact HB.out)⟩⟩
    rw [if_pos c12] at H
    have c12b0 : (a0_0 == 1) = true := beq_iff_eq.mpr c12
    have c12b1 : (a0_0 != 1) = false := bne_eq_false_iff_eq.mpr c12
    clear c12
    (first | rw [c12b0] | (simp only [i64_w, i32_w];rw [c12b0]) | skip)
    replace H := Option.bind_eq_some_iff.mp H
    obtain ⟨t109, A130, H⟩ := H
    replace H : (if t109 = true then (impl_Ex_formed.j1 kj1 false a0_0 a0_1 a0_2 l0_3) else (impl_Ex_formed.j1 kj1 true a0_0 a0_1 a0_2 l0_3)) = some r := H
    have A13 := m0_ A130
    clear A130
    by_cases c14 : t109 = true
    ·subst c14
     have H1 : (impl_Ex_formed.j1 kj1 false a0_0 a0_1 a0_2 l0_3) = some r := by rw [if_pos rfl] at H;exact H
     clear H
     have H := H1
     clear H1
     have H' := m0_ H
     clear H
     have hcz15_0 : wc.cell? ⟨gb106, 0, none⟩ = some (.int .i64 a0_0) := (blk_cell BK106.out 0).trans rfl
     have hcz15_1 : wc.cell? ⟨gb106, 1, none⟩ = some (.int .i64 a0_1) := (blk_cell BK106.out 1).trans rfl
     have hcz15_2 : wc.cell? ⟨gb106, 2, none⟩ = some (.int .i64 a0_2) := (blk_cell BK106.out 2).trans rfl
     have hcz15_3 : wc.cell? ⟨gb106, 3, none⟩ = some (.slice A0_3 l0_3.length c0_3) := (blk_cell BK106.out 3).trans rfl
     have hfz15_0 := blk_frozen BK106.out 0
     have hfz15_1 := blk_frozen BK106.out 1
     have hfz15_2 := blk_frozen BK106.out 2
     have hfz15_3 := blk_frozen BK106.out 3
     go_wp2_with (first | (go_at_call 42;(with_reducible refine (impl_isSym.calls a0_1 true _ A13.out).mono ?_);rintro e w' ⟨rfl, ⟨nd, rfl⟩⟩))
     go_meet
     case rel => exact ⟨_, (false), (by first | rfl | (simp;done) | (simp [*];done)), H', ⟨by have := HJ1.out;first | omega | exact Nat.le_refl _⟩, ⟨by (with_reducible repeat (first | refine blk_drewN ?_ _ | refine blk_drew ?_ | refine blk_alloc ?_ _));exact BK106.out⟩, ⟨by repeat (first | (with_reducible first | exact HB.out | apply below_alloc | apply pw_below_drewN | apply below_drew1 | refine below_set ?_ GE106.out) | exact HB.out)⟩⟩
    replace c14 := Bool.eq_false_iff.mpr c14
    subst c14
    have H1 : (impl_Ex_formed.j1 kj1 true a0_0 a0_1 a0_2 l0_3) = some r := by rw [if_neg (show ¬ (false = true) by decide)] at H;exact H
    clear H
    have H := H1
    clear H1
    have H' := m0_ H
    clear H
    have hcz16_0 : wc.cell? ⟨gb106, 0, none⟩ = some (.int .i64 a0_0) := (blk_cell BK106.out 0).trans rfl
    have hcz16_1 : wc.cell? ⟨gb106, 1, none⟩ = some (.int .i64 a0_1) := (blk_cell BK106.out 1).trans rfl
    have hcz16_2 : wc.cell? ⟨gb106, 2, none⟩ = some (.int .i64 a0_2) := (blk_cell BK106.out 2).trans rfl
    have hcz16_3 : wc.cell? ⟨gb106, 3, none⟩ = some (.slice A0_3 l0_3.length c0_3) := (blk_cell BK106.out 3).trans rfl
    have hfz16_0 := blk_frozen BK106.out 0
    have hfz16_1 := blk_frozen BK106.out 1
    have hfz16_2 := blk_frozen BK106.out 2
    have hfz16_3 := blk_frozen BK106.out 3
    go_wp2_with (first | (go_at_call 42;(with_reducible refine (impl_isSym.calls a0_1 false _ A13.out).mono ?_);rintro e w' ⟨rfl, ⟨nd, rfl⟩⟩))
    go_meet
    case rel => exact ⟨_, (true), (by first | rfl | (simp;done) | (simp [*];done)), H', ⟨by have := HJ1.out;first | omega | exact Nat.le_refl _⟩, ⟨by (with_reducible repeat (first | refine blk_drewN ?_ _ | refine blk_drew ?_ | refine blk_alloc ?_ _));exact BK106.out⟩, ⟨by repeat (first | (with_reducible first | exact HB.out | apply below_alloc | apply pw_below_drewN | apply below_drew1 | refine below_set ?_ GE106.out) | exact HB.out)⟩⟩
   case rest =>
    clear HC11
    try clear c1
    try clear p2
    try clear c3
    try clear c4
    try clear c5
    try clear c10
    try clear c12
    try clear c12b0
    try clear c12b1
    try clear c14
    try clear hcz15_0
    try clear hcz15_1
    try clear hcz15_2
    try clear hcz15_3
    try clear hcz16_0
    try clear hcz16_1
    try clear hcz16_2
    try clear hcz16_3
    try clear hcz17_0
    try clear hcz17_1
    try clear hcz17_2
    try clear hcz17_3
    try clear hfz15_0
    try clear hfz15_1
    try clear hfz15_2
    try clear hfz15_3
    try clear hfz16_0
    try clear hfz16_1
    try clear hfz16_2
    try clear hfz16_3
    try clear hfz17_0
    try clear hfz17_1
    try clear hfz17_2
    try clear hfz17_3
    try clear p2
    obtain ⟨kq, x34_10, rfl, HA, HJ10, BK106, HB⟩ := hcut
    cases kq with
    | zero => exact absurd HA.out (by simp [impl_Ex_formed.j1])
    | succ kj10 =>
     have H := HA.out
     clear HA
     simp only [impl_Ex_formed.j1] at H
     by_cases c18 : x34_10 = true
     ·subst c18
      have H1 : (some false) = some r := by rw [if_pos rfl] at H;exact H
      clear H
      have H := H1
      clear H1
      obtain rfl := Option.some.inj H
      go_wp2
      go_ret
      exact ⟨by first | rfl | (simp [errW_none, errW_some] <;> rfl) | (simp [*, errW_none, errW_some] <;> rfl), by repeat (first | (with_reducible first | exact HB.out | apply below_alloc | apply pw_below_drewN | apply below_drew1 | refine below_set ?_ GE106.out) | exact HB.out)⟩
     replace c18 := Bool.eq_false_iff.mpr c18
     subst c18
     have H1 : (if a0_0 = 7 then ((impl_in.f a0_2 1 20).bind fun t110 => (if t110 = true then ((impl_Ex_44.f kj10 l0_3).bind fun t111 => (some (!t111))) else (some false))) else (if a0_2 = 0 then ((impl_Ex_44.f kj10 l0_3).bind fun t112 => (some (!t112))) else (some false))) = some r := by rw [if_neg (show ¬ (false = true) by decide)] at H;exact H
     clear H
     have H := H1
     clear H1
     by_cases c19 : a0_0 = 7
     rotate_left
     ·rw [if_neg c19] at H
      have c19b0 : (a0_0 == 7) = false := beq_eq_false_iff_ne.mpr c19
      have c19b1 : (a0_0 != 7) = true := bne_iff_ne.mpr c19
      by_cases c26 : a0_2 = 0
      ·rw [if_pos c26] at H
       have c26b0 : (a0_2 == 0) = true := beq_iff_eq.mpr c26
       have c26b1 : (a0_2 != 0) = false := bne_eq_false_iff_eq.mpr c26
       clear c26
       replace H := Option.bind_eq_some_iff.mp H
       obtain ⟨t112, A270, H⟩ := H
       replace H : (some (!t112)) = some r := H
       have A27 := m0_ A270
       clear A270
       obtain rfl := Option.some.inj H
       have hcz28_0 : wc.cell? ⟨gb106, 0, none⟩ = some (.int .i64 a0_0) := (blk_cell BK106.out 0).trans rfl
       have hcz28_1 : wc.cell? ⟨gb106, 1, none⟩ = some (.int .i64 a0_1) := (blk_cell BK106.out 1).trans rfl
       have hcz28_2 : wc.cell? ⟨gb106, 2, none⟩ = some (.int .i64 a0_2) := (blk_cell BK106.out 2).trans rfl
       have hcz28_3 : wc.cell? ⟨gb106, 3, none⟩ = some (.slice A0_3 l0_3.length c0_3) := (blk_cell BK106.out 3).trans rfl
       have hfz28_0 := blk_frozen BK106.out 0
       have hfz28_1 := blk_frozen BK106.out 1
       have hfz28_2 := blk_frozen BK106.out 2
       have hfz28_3 := blk_frozen BK106.out 3
       go_wp2_with (first | ((with_reducible refine gate_callee (f := 44) rfl ?_);refine goesL_ (some 56) rfl rfl Try.func44 (by kernel_rfl) rfl #[.slice A0_3 l0_3.length c0_3, .func (.func 45) #[] #[]] rfl (by (try simp only [List.map_toArray, List.map_cons, List.map_nil]);first | done | rfl | (simp only [List.length_drop, List.length_take];rfl)) ?_;(with_reducible refine (ih_44 kj10 (by have := HJ1.out;have := HJ10.out;omega) _ _ l0_3  t112 _ ?side1 ?side2 A27.out).mono ?_);(case side1 => repeat (first | exact (Kd.C_below HR0_3.out HB.out) | (with_reducible refine Kd.C_alloc ?_ _) | (with_reducible refine Kd.C_drewN ?_ _) | (with_reducible refine Kd.C_drew ?_)));(case side2 => exact HC0_3.out);rintro e w29 ⟨rfl, hb⟩;refine ⟨_, rfl, ?_⟩;have n0_ := m0_ (blk_below (g := gb106) (o := .cells #[.int .i64 a0_0, .int .i64 a0_1, .int .i64 a0_2, .slice A0_3 l0_3.length c0_3] 29 (0, 0)) (by (with_reducible repeat (first | refine blk_drewN ?_ _ | refine blk_drew ?_ | refine blk_alloc ?_ _));exact BK106.out) hb);have n1_ := m0_ (below_step (by repeat (first | (with_reducible first | exact HB.out | apply below_alloc | apply pw_below_drewN | apply below_drew1 | refine below_set ?_ GE106.out) | exact HB.out)) hb);clear BK106;clear HB;have BK106 := n0_;have HB := n1_;clear n0_ n1_;(try clear hb);(try clear hb2);(try clear hk);(try clear hi)))
       go_ret
       exact ⟨by first | rfl | (simp [errW_none, errW_some] <;> rfl) | (simp [*, errW_none, errW_some] <;> rfl), by repeat (first | (with_reducible first | exact HB.out | apply below_alloc | apply pw_below_drewN | apply below_drew1 | refine below_set ?_ GE106.out) | exact HB.out)⟩
      ·rw [if_neg c26] at H
       have c26b0 : (a0_2 == 0) = false := beq_eq_false_iff_ne.mpr c26
       have c26b1 : (a0_2 != 0) = true := bne_iff_ne.mpr c26
       obtain rfl := Option.some.inj H
       have hcz30_0 : wc.cell? ⟨gb106, 0, none⟩ = some (.int .i64 a0_0) := (blk_cell BK106.out 0).trans rfl
       have hcz30_1 : wc.cell? ⟨gb106, 1, none⟩ = some (.int .i64 a0_1) := (blk_cell BK106.out 1).trans rfl
       have hcz30_2 : wc.cell? ⟨gb106, 2, none⟩ = some (.int .i64 a0_2) := (blk_cell BK106.out 2).trans rfl
       have hcz30_3 : wc.cell? ⟨gb106, 3, none⟩ = some (.slice A0_3 l0_3.length c0_3) := (blk_cell BK106.out 3).trans rfl
       have hfz30_0 := blk_frozen BK106.out 0
       have hfz30_1 := blk_frozen BK106.out 1
       have hfz30_2 := blk_frozen BK106.out 2
       have hfz30_3 := blk_frozen BK106.out 3
       go_wp2
       go_ret
       exact ⟨by first | rfl | (simp [errW_none, errW_some] <;> rfl) | (simp [*, errW_none, errW_some] <;> rfl), by repeat (first | (with_reducible first | exact HB.out | apply below_alloc | apply pw_below_drewN | apply below_drew1 | refine below_set ?_ GE106.out) | exact HB.out)⟩
     rw [if_pos c19] at H
     have c19b0 : (a0_0 == 7) = true := beq_iff_eq.mpr c19
     have c19b1 : (a0_0 != 7) = false := bne_eq_false_iff_eq.mpr c19
     clear c19
     replace H := Option.bind_eq_some_iff.mp H
     obtain ⟨t110, A200, H⟩ := H
     replace H : (if t110 = true then ((impl_Ex_44.f kj10 l0_3).bind fun t111 => (some (!t111))) else (some false)) = some r := H
     have A20 := m0_ A200
     clear A200
     by_cases c21 : t110 = true
     rotate_left
     ·replace c21 := Bool.eq_false_iff.mpr c21
      subst c21
      have H1 : (some false) = some r := by rw [if_neg (show ¬ (false = true) by decide)] at H;exact H
      clear H
      have H := H1
      clear H1
      obtain rfl := Option.some.inj H
      have hcz25_0 : wc.cell? ⟨gb106, 0, none⟩ = some (.int .i64 a0_0) := (blk_cell BK106.out 0).trans rfl
      have hcz25_1 : wc.cell? ⟨gb106, 1, none⟩ = some (.int .i64 a0_1) := (blk_cell BK106.out 1).trans rfl
      have hcz25_2 : wc.cell? ⟨gb106, 2, none⟩ = some (.int .i64 a0_2) := (blk_cell BK106.out 2).trans rfl
      have hcz25_3 : wc.cell? ⟨gb106, 3, none⟩ = some (.slice A0_3 l0_3.length c0_3) := (blk_cell BK106.out 3).trans rfl
      have hfz25_0 := blk_frozen BK106.out 0
      have hfz25_1 := blk_frozen BK106.out 1
      have hfz25_2 := blk_frozen BK106.out 2
      have hfz25_3 := blk_frozen BK106.out 3
      go_wp2_with (first | (go_at_call 43;(with_reducible refine (impl_in.calls a0_2 1 20 false _ A20.out).mono ?_);rintro e w' ⟨rfl, ⟨nd, rfl⟩⟩))
      go_ret
      exact ⟨by first | rfl | (simp [errW_none, errW_some] <;> rfl) | (simp [*, errW_none, errW_some] <;> rfl), by repeat (first | (with_reducible first | exact HB.out | apply below_alloc | apply pw_below_drewN | apply below_drew1 | refine below_set ?_ GE106.out) | exact HB.out)⟩
     subst c21
     have H1 : ((impl_Ex_44.f kj10 l0_3).bind fun t111 => (some (!t111))) = some r := by rw [if_pos rfl] at H;exact H
     clear H
     have H := H1
     clear H1
     replace H := Option.bind_eq_some_iff.mp H
     obtain ⟨t111, A220, H⟩ := H
     replace H : (some (!t111)) = some r := H
     have A22 := m0_ A220
     clear A220
     obtain rfl := Option.some.inj H
     have hcz23_0 : wc.cell? ⟨gb106, 0, none⟩ = some (.int .i64 a0_0) := (blk_cell BK106.out 0).trans rfl
     have hcz23_1 : wc.cell? ⟨gb106, 1, none⟩ = some (.int .i64 a0_1) := (blk_cell BK106.out 1).trans rfl
     have hcz23_2 : wc.cell? ⟨gb106, 2, none⟩ = some (.int .i64 a0_2) := (blk_cell BK106.out 2).trans rfl
     have hcz23_3 : wc.cell? ⟨gb106, 3, none⟩ = some (.slice A0_3 l0_3.length c0_3) := (blk_cell BK106.out 3).trans rfl
     have hfz23_0 := blk_frozen BK106.out 0
     have hfz23_1 := blk_frozen BK106.out 1
     have hfz23_2 := blk_frozen BK106.out 2
     have hfz23_3 := blk_frozen BK106.out 3
     go_wp2_with (first | (go_at_call 43;(with_reducible refine (impl_in.calls a0_2 1 20 true _ A20.out).mono ?_);rintro e w' ⟨rfl, ⟨nd, rfl⟩⟩) | ((with_reducible refine gate_callee (f := 44) rfl ?_);refine goesL_ (some 56) rfl rfl Try.func44 (by kernel_rfl) rfl #[.slice A0_3 l0_3.length c0_3, .func (.func 45) #[] #[]] rfl (by (try simp only [List.map_toArray, List.map_cons, List.map_nil]);first | done | rfl | (simp only [List.length_drop, List.length_take];rfl)) ?_;(with_reducible refine (ih_44 kj10 (by have := HJ1.out;have := HJ10.out;omega) _ _ l0_3  t111 _ ?side1 ?side2 A22.out).mono ?_);(case side1 => repeat (first | exact (Kd.C_below HR0_3.out (by repeat (first | (with_reducible first | exact HB.out | apply below_alloc | apply pw_below_drewN | apply below_drew1 | refine below_set ?_ GE106.out) | exact HB.out))) | (with_reducible refine Kd.C_alloc ?_ _) | (with_reducible refine Kd.C_drewN ?_ _) | (with_reducible refine Kd.C_drew ?_)));(case side2 => exact HC0_3.out);rintro e w24 ⟨rfl, hb⟩;refine ⟨_, rfl, ?_⟩;have n0_ := m0_ (blk_below (g := gb106) (o := .cells #[.int .i64 a0_0, .int .i64 a0_1, .int .i64 a0_2, .slice A0_3 l0_3.length c0_3] 29 (0, 0)) (by (with_reducible repeat (first | refine blk_drewN ?_ _ | refine blk_drew ?_ | refine blk_alloc ?_ _));exact BK106.out) hb);have n1_ := m0_ (below_step (by repeat (first | (with_reducible first | exact HB.out | apply below_alloc | apply pw_below_drewN | apply below_drew1 | refine below_set ?_ GE106.out) | exact HB.out)) hb);clear BK106;clear HB;have BK106 := n0_;have HB := n1_;clear n0_ n1_;(try clear hb);(try clear hb2);(try clear hk);(try clear hi)))
     go_ret
     exact ⟨by first | rfl | (simp [errW_none, errW_some] <;> rfl) | (simp [*, errW_none, errW_some] <;> rfl), by repeat (first | (with_reducible first | exact HB.out | apply below_alloc | apply pw_below_drewN | apply below_drew1 | refine below_set ?_ GE106.out) | exact HB.out)⟩

theorem impl_Ex_formed_1.calls_all (k : Nat) : (∀ (a0_0 : Int) (a0_1 : Int) (a0_2 : Int) (A0_3 : Option Addr) (c0_3 : Nat) (l0_3 : List (S29)) (r : Bool) (w : World) (hr0_3 : Kd.C k29 w A0_3 l0_3.length l0_3) (hc0_3 : l0_3.length ≤ c0_3) (h : impl_Ex_formed_1.f k a0_0 a0_1 a0_2 l0_3 = some r),
  Calls Try.prog 45 #[.agg #[.int .i64 a0_0, .int .i64 a0_1, .int .i64 a0_2, .slice A0_3 l0_3.length c0_3]] w fun e w' => e = .returned (.bool r) ∧ Below w.heap.size w w') ∧ (∀ (A0 : Option Addr) (c0 : Nat) (l0 : List (S29))  (r : Int) (w : World) (hr0 : Kd.C k29 w A0 l0.length l0) (hc0 : l0.length ≤ c0) (h : impl_Ex_52.f k l0 = some r),
  Calls Try.prog 52 #[.slice A0 l0.length c0, .func (.func 45) #[] #[]] w fun e w' => e = .returned (.int .i64 r) ∧ Below w.heap.size w w') ∧ (∀ (A0 : Option Addr) (c0 : Nat) (l0 : List (S29))  (r : Bool) (w : World) (hr0 : Kd.C k29 w A0 l0.length l0) (hc0 : l0.length ≤ c0) (h : impl_Ex_44.f k l0 = some r),
  Calls Try.prog 44 #[.slice A0 l0.length c0, .func (.func 45) #[] #[]] w fun e w' => e = .returned (.bool r) ∧ Below w.heap.size w w') ∧ (∀ (a0_0 : Int) (a0_1 : Int) (a0_2 : Int) (A0_3 : Option Addr) (c0_3 : Nat) (l0_3 : List (S29)) (r : Bool) (w : World) (hr0_3 : Kd.C k29 w A0_3 l0_3.length l0_3) (hc0_3 : l0_3.length ≤ c0_3) (h : impl_Ex_formed.f k a0_0 a0_1 a0_2 l0_3 = some r),
  Calls Try.prog 31 #[.agg #[.int .i64 a0_0, .int .i64 a0_1, .int .i64 a0_2, .slice A0_3 l0_3.length c0_3]] w fun e w' => e = .returned (.bool r) ∧ Below w.heap.size w w') := by
 induction k using Nat.strongRecOn with
 | _ k ih =>
 exact ⟨impl_Ex_formed_1.calls_step k (fun k_ h_ => (ih k_ h_).1) (fun k_ h_ => (ih k_ h_).2.1) (fun k_ h_ => (ih k_ h_).2.2.1) (fun k_ h_ => (ih k_ h_).2.2.2), impl_Ex_52.calls_step k (fun k_ h_ => (ih k_ h_).1) (fun k_ h_ => (ih k_ h_).2.1) (fun k_ h_ => (ih k_ h_).2.2.1) (fun k_ h_ => (ih k_ h_).2.2.2), impl_Ex_44.calls_step k (fun k_ h_ => (ih k_ h_).1) (fun k_ h_ => (ih k_ h_).2.1) (fun k_ h_ => (ih k_ h_).2.2.1) (fun k_ h_ => (ih k_ h_).2.2.2), impl_Ex_formed.calls_step k (fun k_ h_ => (ih k_ h_).1) (fun k_ h_ => (ih k_ h_).2.1) (fun k_ h_ => (ih k_ h_).2.2.1) (fun k_ h_ => (ih k_ h_).2.2.2)⟩
theorem impl_Ex_formed.calls (k : Nat) : ∀ (a0_0 : Int) (a0_1 : Int) (a0_2 : Int) (A0_3 : Option Addr) (c0_3 : Nat) (l0_3 : List (S29)) (r : Bool) (w : World) (hr0_3 : Kd.C k29 w A0_3 l0_3.length l0_3) (hc0_3 : l0_3.length ≤ c0_3) (h : impl_Ex_formed.f k a0_0 a0_1 a0_2 l0_3 = some r),
  Calls Try.prog 31 #[.agg #[.int .i64 a0_0, .int .i64 a0_1, .int .i64 a0_2, .slice A0_3 l0_3.length c0_3]] w fun e w' => e = .returned (.bool r) ∧ Below w.heap.size w w' := (impl_Ex_formed_1.calls_all k).2.2.2

def impl_ExOk.f (k : Nat) (a0_0 : Int) (a0_1 : Int) (a0_2 : Int) (l0_3 : List (S29)) : Option (Bool) := (impl_Ex_size.f k a0_0 a0_1 a0_2 l0_3).bind fun bt102 => (if bt102.1 ≤ 12 then (if bt102.2 ≤ 5 then ((impl_Ex_formed.f k a0_0 a0_1 a0_2 l0_3).bind fun t104 => (some t104)) else (some false)) else (some false))
set_option maxHeartbeats 8000000 in
set_option maxRecDepth 100000 in
theorem impl_ExOk.calls (k : Nat) (a0_0 : Int) (a0_1 : Int) (a0_2 : Int) (A0_3 : Option Addr) (c0_3 : Nat) (l0_3 : List (S29)) (r : Bool) (w : World) (hr0_3 : Kd.C k29 w A0_3 l0_3.length l0_3) (hc0_3 : l0_3.length ≤ c0_3) (h : impl_ExOk.f k a0_0 a0_1 a0_2 l0_3 = some r) :
  Calls Try.prog 14 #[.agg #[.int .i64 a0_0, .int .i64 a0_1, .int .i64 a0_2, .slice A0_3 l0_3.length c0_3]] w fun e w' => e = .returned (.bool r) ∧ Below w.heap.size w w' := by
 have hu29 := Try.underlying29
 have HR0_3 := m0_ hr0_3
 have HC0_3 := m0_ hc0_3
 clear hr0_3 hc0_3
 have HB := m0_ (Below.refl w.heap.size w)
 have H : ((impl_Ex_size.f k a0_0 a0_1 a0_2 l0_3).bind fun bt102 => (if bt102.1 ≤ 12 then (if bt102.2 ≤ 5 then ((impl_Ex_formed.f k a0_0 a0_1 a0_2 l0_3).bind fun t104 => (some t104)) else (some false)) else (some false))) = some r := h
 clear h
 replace H := Option.bind_eq_some_iff.mp H
 obtain ⟨⟨t102, t103⟩, A20, H⟩ := H
 replace H : (if t102 ≤ 12 then (if t103 ≤ 5 then ((impl_Ex_formed.f k a0_0 a0_1 a0_2 l0_3).bind fun t104 => (some t104)) else (some false)) else (some false)) = some r := H
 have A2 := m0_ A20
 clear A20
 by_cases c3 : t102 ≤ 12
 rotate_left
 ·rw [if_neg c3] at H
  have c3b0 : decide (t102 ≤ 12) = false := decide_eq_false c3
  clear c3
  obtain rfl := Option.some.inj H
  go_enter Try.func14, Try.ntmps14
  go_wp2_with (first | ((with_reducible refine gate_dst (N := 1) rfl ?_);refine box_event ?hg (N := 1) ?hd (cs := #[.int .i64 a0_0, .int .i64 a0_1, .int .i64 a0_2, .slice A0_3 l0_3.length c0_3]) (t := 29) ?hr ?_;(case hd => rfl);(case hg => rfl);(case hr => first | (go_simp;done) | (go_simp;rfl));intro gb101 hg w14 hbox hb;have BK101 := m0_ (hbox);have GW101 := m0_ ((by rw [hg];exact (below_size (by exact HB.out)) : w.heap.size ≤ gb101));have GE101 := m0_ ((by rw [hg];exact (below_size (by exact HB.out)) : w.heap.size ≤ gb101));replace HB := m0_ (below_step (by exact HB.out) hb);clear hb hbox hg;obtain ⟨hcz15_0, hcz15_1, hcz15_2, hcz15_3, hfz15_0, hfz15_1, hfz15_2, hfz15_3⟩ := bx4 BK101.out) | ((with_reducible refine gate_callee (f := 30) rfl ?_);refine goesL_ (some 7) rfl rfl Try.func30 (by kernel_rfl) rfl #[.agg #[.int .i64 a0_0, .int .i64 a0_1, .int .i64 a0_2, .slice A0_3 l0_3.length c0_3]] rfl (by (try simp only [List.map_toArray, List.map_cons, List.map_nil]);first | done | rfl | (simp only [List.length_drop, List.length_take];rfl)) ?_;(with_reducible refine (impl_Ex_size.calls k a0_0 a0_1 a0_2 _ _ l0_3 t102 t103 _ ?side1 ?side2 A2.out).mono ?_);(case side1 => repeat (first | exact (Kd.C_below HR0_3.out HB.out) | (with_reducible refine Kd.C_alloc ?_ _) | (with_reducible refine Kd.C_drewN ?_ _) | (with_reducible refine Kd.C_drew ?_)));(case side2 => exact HC0_3.out);rintro e w16 ⟨rfl, hb⟩;refine ⟨_, rfl, ?_⟩;replace BK101 := m0_ (blk_below BK101.out hb);replace HB := m0_ (below_step (by exact HB.out) hb);(try clear hb);(try clear hb2);(try clear hk);(try clear hi)))
  go_ret
  exact ⟨by first | rfl | (simp [errW_none, errW_some] <;> rfl) | (simp [*, errW_none, errW_some] <;> rfl), by repeat (first | (with_reducible first | exact HB.out | apply below_alloc | apply pw_below_drewN | apply below_drew1 | refine below_set ?_ GE101.out) | exact HB.out)⟩
 rw [if_pos c3] at H
 have c3b0 : decide (t102 ≤ 12) = true := decide_eq_true c3
 clear c3
 by_cases c4 : t103 ≤ 5
 ·rw [if_pos c4] at H
  have c4b0 : decide (t103 ≤ 5) = true := decide_eq_true c4
  clear c4
  replace H := Option.bind_eq_some_iff.mp H
  obtain ⟨t104, A50, H⟩ := H
  replace H : (some t104) = some r := H
  have A5 := m0_ A50
  clear A50
  obtain rfl := Option.some.inj H
  go_enter Try.func14, Try.ntmps14
  go_wp2_with (first | ((with_reducible refine gate_dst (N := 1) rfl ?_);refine box_event ?hg (N := 1) ?hd (cs := #[.int .i64 a0_0, .int .i64 a0_1, .int .i64 a0_2, .slice A0_3 l0_3.length c0_3]) (t := 29) ?hr ?_;(case hd => rfl);(case hg => rfl);(case hr => first | (go_simp;done) | (go_simp;rfl));intro gb101 hg w6 hbox hb;have BK101 := m0_ (hbox);have GW101 := m0_ ((by rw [hg];exact (below_size (by exact HB.out)) : w.heap.size ≤ gb101));have GE101 := m0_ ((by rw [hg];exact (below_size (by exact HB.out)) : w.heap.size ≤ gb101));replace HB := m0_ (below_step (by exact HB.out) hb);clear hb hbox hg;obtain ⟨hcz7_0, hcz7_1, hcz7_2, hcz7_3, hfz7_0, hfz7_1, hfz7_2, hfz7_3⟩ := bx4 BK101.out) | ((with_reducible refine gate_callee (f := 30) rfl ?_);refine goesL_ (some 7) rfl rfl Try.func30 (by kernel_rfl) rfl #[.agg #[.int .i64 a0_0, .int .i64 a0_1, .int .i64 a0_2, .slice A0_3 l0_3.length c0_3]] rfl (by (try simp only [List.map_toArray, List.map_cons, List.map_nil]);first | done | rfl | (simp only [List.length_drop, List.length_take];rfl)) ?_;(with_reducible refine (impl_Ex_size.calls k a0_0 a0_1 a0_2 _ _ l0_3 t102 t103 _ ?side1 ?side2 A2.out).mono ?_);(case side1 => repeat (first | exact (Kd.C_below HR0_3.out HB.out) | (with_reducible refine Kd.C_alloc ?_ _) | (with_reducible refine Kd.C_drewN ?_ _) | (with_reducible refine Kd.C_drew ?_)));(case side2 => exact HC0_3.out);rintro e w8 ⟨rfl, hb⟩;refine ⟨_, rfl, ?_⟩;replace BK101 := m0_ (blk_below BK101.out hb);replace HB := m0_ (below_step (by exact HB.out) hb);(try clear hb);(try clear hb2);(try clear hk);(try clear hi);obtain ⟨hcz9_0, hcz9_1, hcz9_2, hcz9_3, hfz9_0, hfz9_1, hfz9_2, hfz9_3⟩ := bx4 BK101.out) | (go_at_call 31;(with_reducible refine (impl_Ex_formed.calls k a0_0 a0_1 a0_2 _ _ l0_3 t104 _ ?side1 ?side2 A5.out).mono ?_);(case side1 => repeat (first | exact (Kd.C_below HR0_3.out HB.out) | (with_reducible refine Kd.C_alloc ?_ _) | (with_reducible refine Kd.C_drewN ?_ _) | (with_reducible refine Kd.C_drew ?_)));(case side2 => exact HC0_3.out);rintro e w10 ⟨rfl, hb⟩;replace BK101 := m0_ (blk_below BK101.out hb);replace HB := m0_ (below_step (by exact HB.out) hb);(try clear hb);(try clear hb2);(try clear hk);(try clear hi)))
  go_ret
  exact ⟨by first | rfl | (simp [errW_none, errW_some] <;> rfl) | (simp [*, errW_none, errW_some] <;> rfl), by repeat (first | (with_reducible first | exact HB.out | apply below_alloc | apply pw_below_drewN | apply below_drew1 | refine below_set ?_ GE101.out) | exact HB.out)⟩
 ·rw [if_neg c4] at H
  have c4b0 : decide (t103 ≤ 5) = false := decide_eq_false c4
  clear c4
  obtain rfl := Option.some.inj H
  go_enter Try.func14, Try.ntmps14
  go_wp2_with (first | ((with_reducible refine gate_dst (N := 1) rfl ?_);refine box_event ?hg (N := 1) ?hd (cs := #[.int .i64 a0_0, .int .i64 a0_1, .int .i64 a0_2, .slice A0_3 l0_3.length c0_3]) (t := 29) ?hr ?_;(case hd => rfl);(case hg => rfl);(case hr => first | (go_simp;done) | (go_simp;rfl));intro gb101 hg w11 hbox hb;have BK101 := m0_ (hbox);have GW101 := m0_ ((by rw [hg];exact (below_size (by exact HB.out)) : w.heap.size ≤ gb101));have GE101 := m0_ ((by rw [hg];exact (below_size (by exact HB.out)) : w.heap.size ≤ gb101));replace HB := m0_ (below_step (by exact HB.out) hb);clear hb hbox hg;obtain ⟨hcz12_0, hcz12_1, hcz12_2, hcz12_3, hfz12_0, hfz12_1, hfz12_2, hfz12_3⟩ := bx4 BK101.out) | ((with_reducible refine gate_callee (f := 30) rfl ?_);refine goesL_ (some 7) rfl rfl Try.func30 (by kernel_rfl) rfl #[.agg #[.int .i64 a0_0, .int .i64 a0_1, .int .i64 a0_2, .slice A0_3 l0_3.length c0_3]] rfl (by (try simp only [List.map_toArray, List.map_cons, List.map_nil]);first | done | rfl | (simp only [List.length_drop, List.length_take];rfl)) ?_;(with_reducible refine (impl_Ex_size.calls k a0_0 a0_1 a0_2 _ _ l0_3 t102 t103 _ ?side1 ?side2 A2.out).mono ?_);(case side1 => repeat (first | exact (Kd.C_below HR0_3.out HB.out) | (with_reducible refine Kd.C_alloc ?_ _) | (with_reducible refine Kd.C_drewN ?_ _) | (with_reducible refine Kd.C_drew ?_)));(case side2 => exact HC0_3.out);rintro e w13 ⟨rfl, hb⟩;refine ⟨_, rfl, ?_⟩;replace BK101 := m0_ (blk_below BK101.out hb);replace HB := m0_ (below_step (by exact HB.out) hb);(try clear hb);(try clear hb2);(try clear hk);(try clear hi)))
  go_ret
  exact ⟨by first | rfl | (simp [errW_none, errW_some] <;> rfl) | (simp [*, errW_none, errW_some] <;> rfl), by repeat (first | (with_reducible first | exact HB.out | apply below_alloc | apply pw_below_drewN | apply below_drew1 | refine below_set ?_ GE101.out) | exact HB.out)⟩

end Go.Proofs.Ytbcdfbiggjfmlaa.M
namespace Go.Proofs.Ytbcdfbiggjfmlaa.M
set_option linter.unusedVariables false
set_option linter.unusedSimpArgs false
open Go Go.RowKit Go.Proofs.YtbcdfbiggjfmlaaW.PrintWords Go.Proofs.YtbcdfbiggjfmlaaW.PrintLast Go.Proofs.YtbcdfbiggjfmlaaW.PrintMore

theorem keep_setRow {w : World} {g : Nat} (cs : Array Value) : KeepBut w (w.setRow g cs) g none := ⟨by simp [World.setRow], fun k _ hk _ => setRow_other w g k cs hk⟩
theorem store_blk {P : Program} {ops : Array Oper} {rest : List Oper} {o : Oper} {a : Act} {Q : Exit → Act → World → Prop} {W w0 : World} {base : Nat} (hgd : o.guard = none) (hN : o.dst = none) {t e : TypeId} {p : Tmp} {v : Operand} (ho : o.op = .store t (.tmp p) v) {g off : Nat} {cur cur' : Array Value} {u : Value} {seg : List Value}
    (hp : a.eval (.tmp p) = .pointer (some ⟨g, off, none⟩)) (hx : a.eval v = u) (hg : W.heap[g]? = some (.cells cur e (0, 0))) (hu : u.cells.toList = seg) (ht : (P.info? t).map (·.size) = some seg.length) (h1 : ∀ q ∈ seg, q.oneCell' = true) (hfit : off + seg.length ≤ cur.size) (hcur : (cur.toList.take off ++ seg ++ cur.toList.drop (off + seg.length)).toArray = cur')
    (hB : Below base w0 W) (hbg : base ≤ g)
    (h : ∀ w', w'.heap[g]? = some (.cells cur' e (0, 0)) → KeepBut W w' g none → Below base w0 w' → wpList P ops Q rest a w') : wpList P ops Q (o :: rest) a W := by
  obtain ⟨i, hi, hsz⟩ := Option.map_eq_some_iff.1 ht
  have hc : u.cells.size = i.size := by rw [hsz, ← hu, Array.length_toList]
  have hst := run_storeCells_at P g off e seg 0 cur W hg (by simpa using hfit) h1
  refine wpList_plain hgd fun K hK => ?_
  have hrun : (execOp a.eval o).run P W = .ok .skip (W.setRow g (cur.toList.take off ++ seg ++ cur.toList.drop (off + seg.length)).toArray) := by
    rw [Nat.add_zero] at hst
    simp [execOp, ho, hp, hx, Instr.storeAt, Instr.sureAddr, storeVar, sizeOf, typeInfo, hi, hc, hu, hst, Result.andThen]
  unfold Oper.wp
  rw [hrun]
  show K (a.put o.dst undef) _
  rw [hN]
  refine hK _ _ (h _ ?_ (keep_setRow _) (below_setRow hB hbg _))
  rw [setRow_heap W g cur _ e _ hg, hcur]
theorem blk_keep {w w1 : World} {g g' : Nat} {o : Obj} (h : w.heap[g']? = some o) (hk : KeepBut w w1 g none) (hne : g' ≠ g) : w1.heap[g']? = some o := (hk.2 g' (blk_lt h) hne (by simp)).trans h
def SimC (cs cs' : Array Value) : Prop := cs'.size = cs.size ∧ ∀ i : Nat, cs'[i]? = cs[i]? ∨ ∃ a b, cs[i]? = some (.int .i64 a) ∧ cs'[i]? = some (.int .i64 b)
theorem SimC.refl (cs : Array Value) : SimC cs cs := ⟨rfl, fun _ => .inl rfl⟩
theorem SimC.trans {a b c : Array Value} (h : SimC a b) (g : SimC b c) : SimC a c := by
  refine ⟨g.1.trans h.1, fun i => ?_⟩
  rcases g.2 i with e | ⟨p, q, e1, e2⟩
  · rcases h.2 i with e' | ⟨p, q, e1, e2⟩
    · exact .inl (e.trans e')
    · exact .inr ⟨p, q, e1, e.trans e2⟩
  · rcases h.2 i with e' | ⟨p', q', e1', e2'⟩
    · exact .inr ⟨p, q, e'.symm.trans e1, e2⟩
    · exact .inr ⟨p', q, e1', e2⟩
theorem SimC.set {cs : Array Value} {i : Nat} {a : Int} (h : cs[i]? = some (.int .i64 a)) (b : Int) : SimC cs (cs.setIfInBounds i (.int .i64 b)) := by
  obtain ⟨hi, _⟩ := Array.getElem?_eq_some_iff.1 h
  refine ⟨by simp, fun j => ?_⟩
  by_cases e : i = j
  · subst e
    exact .inr ⟨a, b, h, by simp [hi]⟩
  · exact .inl (by simp [Array.getElem?_setIfInBounds, e])
structure Numb (P : Nat → Prop) (W W1 : World) : Prop where
  kept : Kept W W1 P
  sim : ∀ k, P k → ∀ cells t, W.heap[k]? = some (.cells cells t (0, 0)) → ∃ cells', W1.heap[k]? = some (.cells cells' t (0, 0)) ∧ SimC cells cells'
theorem Numb.refl (P : Nat → Prop) (W : World) : Numb P W W := ⟨Kept.refl W P, fun _ _ cells _ h => ⟨cells, h, SimC.refl _⟩⟩
theorem Numb.trans {P : Nat → Prop} {W W1 W2 : World} (h : Numb P W W1) (g : Numb P W1 W2) : Numb P W W2 := by
  refine ⟨⟨Nat.le_trans h.kept.1 g.kept.1, fun i hi hn => (g.kept.2 i (Nat.lt_of_lt_of_le hi h.kept.1) hn).trans (h.kept.2 i hi hn)⟩, fun k hk cells t hc => ?_⟩
  obtain ⟨c1, h1, s1⟩ := h.sim k hk cells t hc
  obtain ⟨c2, h2, s2⟩ := g.sim k hk c1 t h1
  exact ⟨c2, h2, s1.trans s2⟩
theorem Numb.mono {P Q : Nat → Prop} {W W1 : World} (h : Numb P W W1) (hq : ∀ k, P k → Q k) : Numb Q W W1 := by
  refine ⟨⟨h.kept.1, fun i hi hn => h.kept.2 i hi (fun hp => hn (hq i hp))⟩, fun k hk cells t hc => ?_⟩
  by_cases hp : P k
  · exact h.sim k hp cells t hc
  · exact ⟨cells, (h.kept.2 k (blk_lt hc) hp).trans hc, SimC.refl _⟩
theorem Numb.of_below {P : Nat → Prop} {W W1 : World} (hb : Below W.heap.size W W1) : Numb P W W1 := ⟨Kept.of_below hb P, fun k _ cells _ hc => ⟨cells, (hb.block k (blk_lt hc)).trans hc, SimC.refl _⟩⟩
def ShRow (W : World) (P : Nat → Prop) : Nat → Value → List S29 → Prop
  | 0, _, _ => False
  | n + 1, v, xs => (v = .slice none 0 0 ∧ xs = []) ∨ ∃ g cap cells, v = .slice (some ⟨g, 0, none⟩) xs.length cap ∧ P g ∧ xs.length ≤ cap ∧ W.heap[g]? = some (.cells cells 29 (0, 0)) ∧ cells.size = cap * 4 ∧ cap ≤ maxLen ∧
      ∀ i x, xs[i]? = some x → ∃ a b c v3, cells[i * 4]? = some (.int .i64 a) ∧ cells[i * 4 + 1]? = some (.int .i64 b) ∧ cells[i * 4 + 2]? = some (.int .i64 c) ∧ cells[i * 4 + 3]? = some v3 ∧ ShRow W P n v3 x.f3
theorem ShRow.notint {W : World} {P : Nat → Prop} {n : Nat} {v : Value} {xs : List S29} (h : ShRow W P n v xs) (a : Int) : v ≠ .int .i64 a := by
  cases n with
  | zero => exact h.elim
  | succ n =>
    rcases h with ⟨rfl, _⟩ | ⟨g, cap, cells, rfl, _⟩
    · intro e; cases e
    · intro e; cases e
theorem ShRow.numb {P : Nat → Prop} {W W1 : World} (hm : Numb P W W1) : ∀ (n : Nat) (v : Value) (xs : List S29), ShRow W P n v xs → ShRow W1 P n v xs
  | 0, _, _, h => h
  | n + 1, v, xs, h => by
    rcases h with h | ⟨g, cap, cells, hv, hp, hl, hg, hs, hc, hx⟩
    · exact .inl h
    obtain ⟨cells', hg', hsz, hsim⟩ := hm.sim g hp cells _ hg
    refine .inr ⟨g, cap, cells', hv, hp, hl, hg', hsz.trans hs, hc, fun i x hi => ?_⟩
    obtain ⟨a, b, c, v3, h0, h1, h2, h3, hr⟩ := hx i x hi
    have num : ∀ (j : Nat) (p : Int), cells[j]? = some (.int .i64 p) → ∃ q, cells'[j]? = some (.int .i64 q) := by
      intro j p hj
      rcases hsim j with e | ⟨_, q, _, e⟩
      · exact ⟨p, e.trans hj⟩
      · exact ⟨q, e⟩
    obtain ⟨a', h0⟩ := num _ _ h0
    obtain ⟨b', h1⟩ := num _ _ h1
    obtain ⟨c', h2⟩ := num _ _ h2
    refine ⟨a', b', c', v3, h0, h1, h2, ?_, ShRow.numb hm n v3 x.f3 hr⟩
    rcases hsim (i * 4 + 3) with e | ⟨p, q, e, _⟩
    · exact e.trans h3
    · rw [h3] at e
      exact absurd (Option.some.inj e) (hr.notint p)
theorem take4 {cs : List Value} {a b c d : Value} {j : Nat} (h : (cs.drop j).take 4 = [a, b, c, d]) : cs[j]? = some a ∧ cs[j + 1]? = some b ∧ cs[j + 2]? = some c ∧ cs[j + 3]? = some d := by
  have key : ∀ q, q < 4 → cs[j + q]? = [a, b, c, d][q]? := by
    intro q hq
    rw [← h, List.getElem?_take_of_lt hq, List.getElem?_drop]
  exact ⟨key 0 (by omega), key 1 (by omega), key 2 (by omega), key 3 (by omega)⟩
theorem R_ShRow {base : Nat} {W : World} : ∀ (n : Nat) (P : Nat → Prop) (v : Value) (xs : List S29), (Kd.upto F29 4 [29] n).R 29 W base P v xs → ShRow W P (n + 1) v xs := by
  intro n
  induction n with
  | zero =>
    rintro P v xs ⟨h0, inner, ⟨hlen, ho⟩, hr⟩
    cases xs with
    | nil =>
      rcases ho with ⟨rfl, _⟩ | ⟨g, cap, cur, rfl, hg, hh, hl, hm, hs, ht⟩
      · exact .inl ⟨rfl, rfl⟩
      · exact .inr ⟨g, cap, cur, rfl, h0 g rfl, hl, hh, hs, hm, fun i x hi => by simp at hi⟩
    | cons x xs => exact (hr.2 0 x rfl).elim
  | succ n ih =>
    rintro P v xs ⟨h0, inner, ⟨hlen, ho⟩, hr⟩
    rw [sz29] at ho
    rcases ho with ⟨rfl, e⟩ | ⟨g, cap, cur, rfl, hg, hh, hl, hm, hs, ht⟩
    · exact .inl ⟨rfl, List.eq_nil_of_length_eq_zero e⟩
    refine .inr ⟨g, cap, cur, rfl, h0 g rfl, hl, hh, hs, hm, fun i x hi => ?_⟩
    have hM := hr.2 i x hi
    obtain ⟨_, _, e0, rfl, ⟨_, _, rfl, rfl, ⟨_, _, rfl, rfl, ⟨v3, rfl, g3⟩⟩⟩⟩ := hM
    obtain ⟨k0, k1, k2, k3⟩ := take4 e0
    have up : ∀ (j : Nat) (u : Value), inner[j]? = some u → cur[j]? = some u := by
      intro j u hu
      rw [← ht] at hu
      have hlt : j < xs.length * 4 := by
        have := (List.getElem?_eq_some_iff.1 hu).1
        rw [List.length_take] at this
        omega
      rw [List.getElem?_take_of_lt hlt] at hu
      simpa using hu
    exact ⟨_, _, _, v3, up _ _ k0, up _ _ k1, up _ _ k2, up _ _ k3, ih P v3 x.f3 (Kd.R_mono g3 (fun k hk => hk.1))⟩
theorem shape_of {base : Nat} {W : World} {P : Nat → Prop} {v : Value} {xs : List S29} (h : k29.R 29 W base P v xs) : ∃ n, ShRow W P n v xs := by
  obtain ⟨n, h⟩ := Kd.fix_R_back mono29 h
  exact ⟨n + 1, R_ShRow n P v xs h⟩
theorem set_list {cs : Array Value} {off : Nat} {u : Value} (h : off < cs.size) : (cs.toList.take off ++ [u] ++ cs.toList.drop (off + 1)).toArray = cs.setIfInBounds off u := by
  apply Array.ext'
  rw [Array.toList_setIfInBounds, List.set_eq_take_append_cons_drop, if_pos (by simpa using h)]
  simp
theorem store_one {P : Program} {ops : Array Oper} {rest : List Oper} {o : Oper} {a : Act} {Q : Exit → Act → World → Prop} {W w0 : World} {base : Nat} (hgd : o.guard = none) (hN : o.dst = none) {t e : TypeId} {p : Tmp} {v : Operand} (ho : o.op = .store t (.tmp p) v) {g off : Nat} {cur : Array Value} {u : Value}
    (hp : a.eval (.tmp p) = .pointer (some ⟨g, off, none⟩)) (hx : a.eval v = u) (hg : W.heap[g]? = some (.cells cur e (0, 0))) (hu : u.cells.toList = [u]) (ht : (P.info? t).map (·.size) = some 1) (h1 : u.oneCell' = true) (hoff : off < cur.size)
    (hB : Below base w0 W) (hbg : base ≤ g)
    (h : ∀ w', w'.heap[g]? = some (.cells (cur.setIfInBounds off u) e (0, 0)) → KeepBut W w' g none → Below base w0 w' → wpList P ops Q rest a w') : wpList P ops Q (o :: rest) a W :=
  store_blk hgd hN ho hp hx hg hu ht (fun q hq => by rw [List.mem_singleton.1 hq]; exact h1) (show off + 1 ≤ cur.size from hoff) (set_list hoff) hB hbg h
theorem Numb.store {P : Nat → Prop} {W W1 : World} {g off e : Nat} {cur : Array Value} {a b : Int} (hp : P g) (hg : W.heap[g]? = some (.cells cur e (0, 0))) (ho : cur[off]? = some (.int .i64 a)) (h1 : W1.heap[g]? = some (.cells (cur.setIfInBounds off (.int .i64 b)) e (0, 0))) (hk : KeepBut W W1 g none) : Numb P W W1 := by
  refine ⟨⟨hk.1, fun i hi hn => hk.2 i hi (fun e => hn (e ▸ hp)) (by simp)⟩, fun k hk' cells t hc => ?_⟩
  by_cases e : k = g
  · subst e
    rw [hg] at hc
    injection hc with hc
    injection hc with c1 c2
    subst c1
    subst c2
    exact ⟨_, h1, SimC.set ho b⟩
  · exact ⟨cells, (hk.2 k (blk_lt hc) e (by simp)).trans hc, SimC.refl _⟩
theorem ShRow.slice {W : World} {P : Nat → Prop} {n : Nat} {v : Value} {xs : List S29} (h : ShRow W P n v xs) : ∃ A c, v = .slice A xs.length c ∧ xs.length ≤ maxLen := by
  cases n with
  | zero => exact h.elim
  | succ n =>
    rcases h with ⟨rfl, rfl⟩ | ⟨g, cap, cells, rfl, _, hl, _, _, hm, _⟩
    · exact ⟨none, 0, rfl, Nat.zero_le _⟩
    · exact ⟨_, _, rfl, Nat.le_trans hl hm⟩
theorem ShRow.at {W : World} {P : Nat → Prop} {n c : Nat} {A : Option Addr} {xs : List S29} (h : ShRow W P n (.slice A xs.length c) xs) (i : Nat) (hi : i < xs.length) :
    ∃ (g m : Nat) (cells : Array Value) (a b d : Int) (v3 : Value), A = some ⟨g, 0, none⟩ ∧ P g ∧ W.heap[g]? = some (.cells cells 29 (0, 0)) ∧ cells[i * 4]? = some (.int .i64 a) ∧ cells[i * 4 + 1]? = some (.int .i64 b) ∧ cells[i * 4 + 2]? = some (.int .i64 d) ∧ cells[i * 4 + 3]? = some v3 ∧ ShRow W P m v3 (xs.getD i z29).f3 := by
  cases n with
  | zero => exact h.elim
  | succ n =>
    rcases h with ⟨hv, rfl⟩ | ⟨g, cap, cells, hv, hp, hl, hg, hs, hm, hx⟩
    · simp at hi
    obtain ⟨a, b, d, v3, h0, h1, h2, h3, hr⟩ := hx i _ (List.getElem?_eq_getElem hi)
    injection hv with e1 e2 e3
    refine ⟨g, n, cells, a, b, d, v3, e1, hp, hg, h0, h1, h2, h3, ?_⟩
    rw [List.getD_eq_getElem?_getD, List.getElem?_eq_getElem hi]
    exact hr
def marksE : Nat → List S29 → Int → Option Int
  | 0, _, _ => none
  | _ + 1, [], a => some a
  | k + 1, x :: xs, a => (marksE k x.f3 (wrap64 (wrap64 (wrap64 (a + 1) + 1) + 1))).bind fun b => marksE k xs b
end Go.Proofs.Ytbcdfbiggjfmlaa.M
namespace Go.Proofs
open Go.Shelf
def Try.lays189_ren : Go.Shelf.Ren := ⟨fun | 189 => 34 | 125 => 47 | 257 => 46 | 128 => 62 | 129 => 63 | 294 => 53 | 295 => 54 | 296 => 55 | 297 => 56 | 298 => 57 | 299 => 58 | 216 => 59 | 300 => 60 | 301 => 61 | 328 => 65 | 329 => 66 | 330 => 67 | 331 => 68 | 332 => 69 | 215 => 70 | 343 => 71 | n => n, fun | 28 => 35 | 3 => 3 | 46 => 65 | 0 => 0 | 51 => 81 | 53 => 83 | 4 => 4 | 183 => 73 | 182 => 72 | 131 => 78 | 5 => 5 | 9 => 9 | 218 => 85 | 222 => 89 | 228 => 91 | 229 => 49 | n => n, fun | n => n⟩
theorem Try.lays189 : Go.Proofs.Lays.n189 Try.prog Try.lays189_ren := {
  mixed := by kernel_rfl
  f125 := Try.func47.trans (congrArg some (by kernel_rfl))
  f128 := Try.func62.trans (congrArg some (by kernel_rfl))
  f129 := Try.func63.trans (congrArg some (by kernel_rfl))
  f189 := Try.func34.trans (congrArg some (by kernel_rfl))
  f215 := Try.func70.trans (congrArg some (by kernel_rfl))
  f216 := Try.func59.trans (congrArg some (by kernel_rfl))
  f257 := Try.func46.trans (congrArg some (by kernel_rfl))
  f294 := Try.func53.trans (congrArg some (by kernel_rfl))
  f295 := Try.func54.trans (congrArg some (by kernel_rfl))
  f296 := Try.func55.trans (congrArg some (by kernel_rfl))
  f297 := Try.func56.trans (congrArg some (by kernel_rfl))
  f298 := Try.func57.trans (congrArg some (by kernel_rfl))
  f299 := Try.func58.trans (congrArg some (by kernel_rfl))
  f300 := Try.func60.trans (congrArg some (by kernel_rfl))
  f301 := Try.func61.trans (congrArg some (by kernel_rfl))
  f328 := Try.func65.trans (congrArg some (by kernel_rfl))
  f329 := Try.func66.trans (congrArg some (by kernel_rfl))
  f330 := Try.func67.trans (congrArg some (by kernel_rfl))
  f331 := Try.func68.trans (congrArg some (by kernel_rfl))
  f332 := Try.func69.trans (congrArg some (by kernel_rfl))
  f343 := Try.func71.trans (congrArg some (by kernel_rfl))
  t0 := Try.underlying0
  a0 := Try.isAgg0
  z0 := Try.sizeOf0
  v0 := Try.zeroValue0
  t3 := Try.underlying3
  a3 := Try.isAgg3
  z3 := Try.sizeOf3
  v3 := Try.zeroValue3
  t4 := Try.underlying4
  a4 := Try.isAgg4
  z4 := Try.sizeOf4
  v4 := Try.zeroValue4
  t5 := Try.underlying5
  a5 := Try.isAgg5
  z5 := Try.sizeOf5
  v5 := Try.zeroValue5
  t9 := Try.underlying9
  a9 := Try.isAgg9
  z9 := Try.sizeOf9
  v9 := Try.zeroValue9
  t28 := Try.underlying35
  a28 := Try.isAgg35
  z28 := Try.sizeOf35
  v28 := Try.zeroValue35
  t46 := Try.underlying65
  a46 := Try.isAgg65
  z46 := Try.sizeOf65
  v46 := Try.zeroValue65
  t51 := Try.underlying81
  a51 := Try.isAgg81
  z51 := Try.sizeOf81
  v51 := Try.zeroValue81
  t53 := Try.underlying83
  a53 := Try.isAgg83
  z53 := Try.sizeOf83
  v53 := Try.zeroValue83
  t131 := Try.underlying78
  a131 := Try.isAgg78
  z131 := Try.sizeOf78
  v131 := Try.zeroValue78
  t182 := Try.underlying72
  a182 := Try.isAgg72
  z182 := Try.sizeOf72
  v182 := Try.zeroValue72
  t183 := Try.underlying73
  a183 := Try.isAgg73
  z183 := Try.sizeOf73
  v183 := Try.zeroValue73
  t218 := Try.underlying85
  a218 := Try.isAgg85
  z218 := Try.sizeOf85
  v218 := Try.zeroValue85
  t222 := Try.underlying89
  a222 := Try.isAgg89
  z222 := Try.sizeOf89
  v222 := Try.zeroValue89
  t228 := Try.underlying91
  a228 := Try.isAgg91
  z228 := Try.sizeOf91
  v228 := Try.zeroValue91
  t229 := Try.underlying49
  a229 := Try.isAgg49
  z229 := Try.sizeOf49
  v229 := Try.zeroValue49 }
open Go.Sort Go.RowKit in
theorem Try.slices_Sort_int (blk off cap : Nat) (zs : List Int) (w : World) (hH : Holds (Value.int .i64) w blk off zs.toArray) (hblk : blk < w.heap.size) (hsz : zs.length < 4611686018427387904) :
    Calls Try.prog 34 #[.slice (some ⟨blk, off, none⟩) zs.length cap] w fun e w' =>
      e = .returned (.tuple #[]) ∧ ∃ n os, w' = grow (putRow (Value.int .i64) (Sort.ahead w n) blk off (zs.mergeSort fun x y => decide (x ≤ y)).toArray) os := Any.slices_Sort_int Try.lays189 blk off cap zs w hH hblk hsz
def Try.laysNm220_ren : Go.Shelf.Ren := ⟨fun | 20 => 35 | n => n, fun | 22 => 35 | 3 => 3 | 4 => 4 | 0 => 0 | n => n, fun | n => n⟩
theorem Try.laysNm220 : Go.Proofs.Lays2.n20 Try.prog Try.laysNm220_ren := {
  mixed := by kernel_rfl
  f20 := Try.func35.trans (congrArg some (by kernel_rfl))
  t0 := Try.underlying0
  a0 := Try.isAgg0
  z0 := Try.sizeOf0
  v0 := Try.zeroValue0
  t3 := Try.underlying3
  a3 := Try.isAgg3
  z3 := Try.sizeOf3
  v3 := Try.zeroValue3
  t4 := Try.underlying4
  a4 := Try.isAgg4
  z4 := Try.sizeOf4
  v4 := Try.zeroValue4
  t22 := Try.underlying35
  a22 := Try.isAgg35
  z22 := Try.sizeOf35
  v22 := Try.zeroValue35
  i3 := by kernel_rfl }
open Go.RowKit Go.Lib Go.Sort in
theorem Try.slices_Compact_int (blk off cap : Nat) (zs : List Int) (w : World) (hH : Holds (Value.int .i64) w blk off zs.toArray) (hsz : zs.length ≤ 9223372036854775807) (hcap : zs.length ≤ cap) :
    Calls Try.prog 35 #[.slice (some ⟨blk, off, none⟩) zs.length cap] w fun e w' => e = .returned (.slice (some ⟨blk, off, none⟩) (Lib.compact zs).length cap) ∧ ∃ q, w' = putRow (Value.int .i64) (Sort.ahead w q) blk off (Lib.compact zs ++ List.replicate (zs.length - (Lib.compact zs).length) 0).toArray := Any.slices_Compact_int Try.laysNm220 blk off cap zs w hH hsz hcap
end Go.Proofs
namespace Go.Proofs.Ytbcdfbiggjfmlaa.M
set_option linter.unusedVariables false
set_option linter.unusedSimpArgs false
open Go.RowKit Go.Sort Go.Proofs.YtbcdfbiggjfmlaaW.PrintWords Go.Proofs.YtbcdfbiggjfmlaaW.PrintLast Go.Proofs.YtbcdfbiggjfmlaaW.PrintMore

def sortI (xs : List Int) : List Int := xs.mergeSort fun x y => decide (x ≤ y)
section
variable {α : Type} {enc : α → Value} {w : World} {base g cap n : Nat} {e : TypeId} {cur : Array Value} {ss ts : List α} {os : Array Obj} [Inhabited α]
theorem holds_cells (hb : w.heap[g]? = some (.cells cur e (0, 0))) (ht : cur.toList.take ss.length = ss.map enc) : Holds enc w g 0 ss.toArray := by
  intro j hj
  have hj' : j < ss.length := by simpa using hj
  refine ⟨?_, by simp [World.frozen?, hb]⟩
  have h1 : (cur.toList.take ss.length)[j]? = (ss.map enc)[j]? := by rw [ht]
  rw [List.getElem?_take_of_lt hj'] at h1
  simp only [World.cell?, hb, Nat.zero_add]
  simp only [Option.isSome_none, Bool.false_eq_true, if_false]
  rw [← Array.getElem?_toList, h1]
  simp [hj']
theorem heap_put (d : Array α) (hb : w.heap[g]? = some (.cells cur e (0, 0))) : (grow (putRow enc (Sort.ahead w n) g 0 d) os).heap[g]? = some (.cells (putCells enc 0 d cur) e (0, 0)) := by
  have hg : g < w.heap.size := (Array.getElem?_eq_some_iff.1 hb).1
  rw [heap_grow_old _ _ (by simpa using hg)]
  simp [putRow, mapBlock, Sort.ahead, Array.getElem?_modify, hb, onCells]
theorem grown_put (d : Array α) : w.grownBy (grow (putRow enc (Sort.ahead w n) g 0 d) os) (some g) := by
  refine ⟨rfl, rfl, rfl, by simp, fun k hk hne => ?_⟩
  rw [heap_grow_old _ _ (by simpa using hk)]
  have : g ≠ k := fun e => hne (by rw [e])
  simp [putRow, mapBlock, Sort.ahead, Array.getElem?_modify, this]
theorem take_put (h : ts.length ≤ cur.size) : (putCells enc 0 ts.toArray cur).toList.take ts.length = ts.map enc := by
  apply List.ext_getElem?
  intro j
  by_cases hj : j < ts.length
  · rw [List.getElem?_take_of_lt hj, Array.getElem?_toList]
    simp [putCells, hj, show j < cur.size by omega]
  · rw [List.getElem?_take_eq_none (by omega), List.getElem?_eq_none (by simp; omega)]
theorem own_put (hl : ts.length = ss.length) (hbase : base ≤ g) (hb : w.heap[g]? = some (.cells cur e (0, 0))) (h1 : ss.length ≤ cap) (h2 : cap ≤ maxLen) (h3 : cur.size = cap * 1) :
    (grow (putRow enc (Sort.ahead w n) g 0 ts.toArray) os).ownsRow base e 1 (.slice (some ⟨g, 0, none⟩) ss.length cap) ss.length (ts.map enc) :=
  ⟨by simp [hl], .inr ⟨g, cap, _, rfl, hbase, heap_put _ hb, h1, h2, by simp [putCells, h3], by rw [Nat.mul_one, ← hl]; exact take_put (by omega)⟩⟩
end
theorem row_block {w : World} {base : Nat} {ok : Nat → Prop} {v : Value} {xs : List Int} (h : Kd.R (Kd.int .i64) 3 w base ok v xs) (hp : 0 < xs.length) :
    ∃ g cap cur, v = .slice (some ⟨g, 0, none⟩) xs.length cap ∧ base ≤ g ∧ w.heap[g]? = some (.cells cur 3 (0, 0)) ∧ xs.length ≤ cap ∧ cap ≤ maxLen ∧ cur.size = cap * 1 ∧ cur.toList.take xs.length = xs.map (Value.int .i64) := by
  have ho := Kd.own_of_R (enc := Value.int .i64) (h1 := fun _ => rfl) h
  rcases ho.2 with ⟨_, h0⟩ | ⟨g, cap, cur, rfl, hb, hh, h1, h2, h3, h4⟩
  · omega
  · rw [Nat.mul_one] at h4
    exact ⟨g, cap, cur, rfl, hb, hh, h1, h2, h3, h4⟩
theorem sort_own {w : World} {base : Nat} {ok : Nat → Prop} {v : Value} {xs : List Int} (h : Kd.R (Kd.int .i64) 3 w base ok v xs) (hp : 0 < xs.length) (hm : xs.length < 4611686018427387904) :
    Calls Try.prog 34 #[v] w fun e w' => e = .returned (.tuple #[]) ∧ Kd.R (Kd.int .i64) 3 w' base ok v (sortI xs) ∧ w.grownBy w' v.ownBlock := by
  obtain ⟨g, cap, cur, rfl, hb, hh, h1, h2, h3, h4⟩ := row_block h hp
  have hl : (sortI xs).length = xs.length := by simp [sortI]
  refine (Try.slices_Sort_int g 0 cap xs w (holds_cells hh h4) (blk_lt hh) hm).mono ?_
  rintro e w' ⟨rfl, n, os, rfl⟩
  refine ⟨rfl, ?_, grown_put _⟩
  have ho := own_put (n := n) (os := os) (enc := Value.int .i64) hl hb hh h1 h2 h3
  refine Kd.R_of_own (enc := Value.int .i64) (h1 := fun _ => rfl) ?_ h.1
  rw [hl]
  exact ho
theorem compact_le (xs : List Int) : (Lib.compact xs).length ≤ xs.length := by
  unfold Lib.compact Lib.compactUpTo
  rw [List.length_map]
  exact Nat.le_trans (List.length_filter_le _ _) (by simp)
theorem compact_own {w : World} {base g cap m : Nat} {ok : Nat → Prop} {xs : List Int} (hm : xs.length = m) (h : Kd.R (Kd.int .i64) 3 w base ok (.slice (some ⟨g, 0, none⟩) m cap) xs) (hp : 0 < m) :
    Calls Try.prog 35 #[.slice (some ⟨g, 0, none⟩) m cap] w fun e w' => e = .returned (.slice (some ⟨g, 0, none⟩) (Lib.compact xs).length cap) ∧ Kd.R (Kd.int .i64) 3 w' base ok (.slice (some ⟨g, 0, none⟩) (Lib.compact xs).length cap) (Lib.compact xs) ∧ w.grownBy w' (some g) := by
  subst hm
  obtain ⟨g', cap', cur, he, hb, hh, h1, h2, h3, h4⟩ := row_block h hp
  injection he with e1 _ e3
  injection e1 with e1
  injection e1 with e1
  subst e1; subst e3
  have hc := compact_le xs
  have hl : (Lib.compact xs ++ List.replicate (xs.length - (Lib.compact xs).length) 0).length = xs.length := by rw [List.length_append, List.length_replicate]; omega
  refine (Try.slices_Compact_int g 0 cap xs w (holds_cells hh h4) (by unfold maxLen at h2; omega) h1).mono ?_
  rintro e w' ⟨rfl, n, rfl⟩
  rw [← grow_empty (putRow _ _ _ _ _)]
  refine ⟨rfl, ?_, grown_put _⟩
  have ho := own_put (n := n) (os := #[]) (enc := Value.int .i64) hl hb hh h1 h2 h3
  have hr : Kd.R (Kd.int .i64) 3 (grow (putRow (Value.int .i64) (Sort.ahead w n) g 0 (Lib.compact xs ++ List.replicate (xs.length - (Lib.compact xs).length) 0).toArray) #[]) base ok (.slice (some ⟨g, 0, none⟩) xs.length cap) (Lib.compact xs ++ List.replicate (xs.length - (Lib.compact xs).length) 0) := by
    refine Kd.R_of_own (enc := Value.int .i64) (h1 := fun _ => rfl) ?_ h.1
    rw [hl]
    exact ho
  have ht := Kd.R_take hr (m := (Lib.compact xs).length) (by rw [hl]; exact hc)
  rwa [List.take_left] at ht
theorem compact_row {w : World} {base : Nat} {ok : Nat → Prop} {v : Value} {xs : List Int} (h : Kd.R (Kd.int .i64) 3 w base ok v xs) (hp : 0 < xs.length) :
    Calls Try.prog 35 #[v] w fun e w' => ∃ u, e = .returned u ∧ Kd.R (Kd.int .i64) 3 w' base ok u (Lib.compact xs) ∧ w.grownBy w' v.ownBlock := by
  obtain ⟨g, cap, cur, rfl, _⟩ := row_block h hp
  refine (compact_own rfl h hp).mono ?_
  rintro e w' ⟨rfl, ho, hg⟩
  exact ⟨_, rfl, ho, hg⟩
end Go.Proofs.Ytbcdfbiggjfmlaa.M
namespace Go.Proofs.Ytbcdfbiggjfmlaa.M
set_option linter.unusedVariables false
set_option linter.unusedSimpArgs false
open Go Go.RowKit Go.Proofs.YtbcdfbiggjfmlaaW.PrintWords Go.Proofs.YtbcdfbiggjfmlaaW.PrintLast Go.Proofs.YtbcdfbiggjfmlaaW.PrintMore

theorem indS {P : S29 → Prop} (h : ∀ x, (∀ y ∈ x.f3, P y) → P x) : ∀ x, P x := by
  have key : ∀ n, ∀ x : S29, SizeOf.sizeOf x ≤ n → P x := by
    intro n
    induction n with
    | zero => intro x hx; cases x; simp at hx
    | succ n ih =>
      intro x hx
      refine h x (fun y hy => ih y ?_)
      have := List.sizeOf_lt_of_mem hy
      cases x
      simp at *
      omega
  exact fun x => key _ x (Nat.le_refl _)
mutual
def symsX : S29 → List Int
  | ⟨f0, f1, _, l⟩ => (if f0 = 1 then [f1] else []) ++ symsL l
def symsL : List S29 → List Int
  | [] => []
  | x :: xs => symsX x ++ symsL xs
end
theorem symsX_is (x : S29) : symsX x = (if x.f0 = 1 then [x.f1] else []) ++ symsL x.f3 := by cases x; simp [symsX]
theorem symsL_nil : symsL [] = [] := by simp [symsL]
theorem symsL_cons (x : S29) (l : List S29) : symsL (x :: l) = symsX x ++ symsL l := by simp [symsL]
theorem symsL_drop (l : List S29) (n : Nat) (h : n < l.length) : symsL (l.drop n) = symsX (l.getD n z29) ++ symsL (l.drop (n + 1)) := by
  rw [List.drop_eq_getElem_cons h, symsL_cons, List.getD_eq_getElem?_getD, List.getElem?_eq_getElem h]
  rfl
structure SymSt (w0 W : World) (ob wb : Nat) (os : List Int) : Prop where
  out : ∃ v, W.heap[ob]? = some (.cells #[v] 35 (0, 0)) ∧ Kd.R (Kd.int .i64) 3 W w0.heap.size (fun _ => True) v os
  walk : W.heap[wb]? = some (.cells #[.func (.func 33) #[] #[.pointer (some ⟨ob, 0, none⟩), .pointer (some ⟨wb, 0, none⟩)]] 52 (0, 0))
  below : Below w0.heap.size w0 W
set_option maxHeartbeats 4000000 in
set_option maxRecDepth 100000 in
theorem syms_walk (ob wb : Nat) (hne : ob ≠ wb) (w0 : World) (hgo : w0.heap.size ≤ ob) : ∀ (x : S29) (A : Option Addr) (c : Nat) (os : List Int) (w : World), x.f3.length ≤ c → Kd.C k29 w0 A x.f3.length x.f3 → SymSt w0 w ob wb os → os.length + (symsX x).length ≤ 1000000 →
    Calls Try.prog 33 #[.agg #[.int .i64 x.f0, .int .i64 x.f1, .int .i64 x.f2, .slice A x.f3.length c], .pointer (some ⟨ob, 0, none⟩), .pointer (some ⟨wb, 0, none⟩)] w fun e w' => e = .returned (.tuple #[]) ∧ SymSt w0 w' ob wb (os ++ symsX x) := by
  refine indS ?_
  intro x ih A c os w hc hC hst hl
  obtain ⟨⟨v, ho, hr⟩, hw, hb⟩ := hst
  have HI := m0_ ih
  have HC := m0_ hc
  have HK := m0_ hC
  have HO := m0_ ho
  have HR := m0_ hr
  have HW := m0_ hw
  have HB := m0_ hb
  have HNE := m0_ hne
  have HGO := m0_ hgo
  rw [symsX_is] at hl
  rw [symsX_is]
  have HKL := m0_ hC.2.1
  have hu1_ := Try.underlying29
  clear ih hc hC ho hr hw hb hne hgo
  go_enter Try.func33, Try.ntmps33
  have c1d : ∀ b, (x.f0 == 1) = b → (x.f0 == 1) = b := fun _ h => h
  by_cases hk : x.f0 = 1
  rotate_left
  · rw [if_neg hk] at hl
    rw [if_neg hk]
    have HL2 := m0_ (show os.length + (symsL x.f3).length ≤ 1000000 by rw [List.length_append] at hl; simp only [List.length_nil, Nat.zero_add] at hl; exact hl)
    have HE := m0_ (show os ++ symsL x.f3 = os ++ ([] ++ symsL x.f3) by rw [List.nil_append])
    have kb : (x.f0 == 1) = false := beq_eq_false_iff_ne.2 hk
    have kd : decide (x.f0 = 1) = false := decide_eq_false hk
    clear hl
    go_wp2_with (first | ((with_reducible refine gate_dst (N := 3) rfl ?_); refine box_event ?hg (N := 3) ?hd (cs := #[.int .i64 x.f0, .int .i64 x.f1, .int .i64 x.f2, .slice A x.f3.length c]) (t := 29) ?hr ?_; (case hd => rfl); (case hg => rfl); (case hr => first | (go_simp; done) | (go_simp; rfl)); intro g3 hg wg3 hbox hb; have GE := m0_ (show w0.heap.size ≤ g3 from by rw [hg]; exact below_size HB.out); have n0_ := m0_ (blk_below HO.out hb); have n1_ := m0_ (blk_below HW.out hb); have n2_ := m0_ (Kd.R_below HR.out hb); have n3_ := m0_ (below_step HB.out hb); have n4_ := m0_ (hbox); clear HO HW HR HB; have HO := n0_; have HW := n1_; have HR := n2_; have HB := n3_; have BKg3 := n4_; clear n0_ n1_ n2_ n3_ n4_; clear hb hbox hg GE; have hz0_ := (blk_cell BKg3.out 0).trans (show _ = some (Value.int .i64 x.f0) from rfl); have hz1_ := (blk_cell BKg3.out 1).trans (show _ = some (Value.int .i64 x.f1) from rfl); have hz3_ := (blk_cell BKg3.out 3).trans (show _ = some (Value.slice A x.f3.length c) from rfl); have ho_ := (blk_cell HO.out 0).trans (show _ = some v from rfl)))
    have HS := m0_ (show SymSt w0 _ ob wb os from ⟨⟨_, HO.out, HR.out⟩, HW.out, HB.out⟩)
    clear HO HR HW HB BKg3 kb kd c1d
    go_loopw [17] (fun v17 w' => ∃ n : Nat, n ≤ x.f3.length ∧ v17 = .int .i64 n ∧ ∃ os' : List Int, Aside0 (os' ++ symsL (x.f3.drop n) = os ++ symsL x.f3) ∧ Aside0 (SymSt w0 w' ob wb os')) (fun v17 _ => x.f3.length - (intOf v17).toNat)
    case atStart => exact ⟨0, Nat.zero_le _, rfl, os, ⟨by rw [List.drop_zero]⟩, HS⟩
    case round =>
      rename_i wr
      clear HS
      obtain ⟨n, hn, rfl, os', HE2, HS⟩ := hrel
      have hkl := HKL.out
      by_cases hlt : n < x.f3.length
      · have hHB := HS.out.below
        obtain ⟨ad, A3, c3, e, k0, k1, k2, k3, hx6, hx7⟩ := at_T29 HK.out (n : Int) (by omega) (by omega)
        have h0 := (hHB.cell (World.block_lt_of_cell? _ _ k0)).trans k0
        have h1 := (hHB.cell (World.block_lt_of_cell? _ _ k1)).trans k1
        have h2 := (hHB.cell (World.block_lt_of_cell? _ _ k2)).trans k2
        have h3 := (hHB.cell (World.block_lt_of_cell? _ _ k3)).trans k3
        have HRD := m0_ (show rd_T29 x.f3 (n : Int) = x.f3.getD n z29 from rfl)
        have HMEM := m0_ (show rd_T29 x.f3 (n : Int) ∈ x.f3 from by rw [HRD.out, List.getD_eq_getElem?_getD, List.getElem?_eq_getElem hlt]; exact List.getElem_mem _)
        have hdr := symsL_drop x.f3 n hlt
        rw [← HRD.out] at hdr
        have HDR := m0_ hdr
        have HX6 := m0_ hx6
        have HKX := m0_ hx7
        clear hx6 hx7 hdr k0 k1 k2 k3
        generalize rd_T29 x.f3 (n : Int) = y at *
        simp only [Int.toNat_natCast] at h0 h1 h2 h3
        subst e
        obtain ⟨⟨v, ho, hr⟩, hw, hb⟩ := HS.out
        have HO := m0_ ho
        have HR := m0_ hr
        have HW := m0_ hw
        have HB := m0_ hb
        clear ho hr hw hb hHB HS
        have l1 : decide ((n : Int) < (x.f3.length : Int)) = true := decide_eq_true (by omega)
        have l2 : (n : Int) < (x.f3.length : Int) := by omega
        have l3 : (0 : Int) ≤ (n : Int) := by omega
        have HLY := m0_ (show os'.length + (symsX y).length ≤ 1000000 from by have q1 := congrArg List.length HE2.out; have q2 := congrArg List.length HDR.out; have q3 := HL2.out; simp only [List.length_append, List.length_singleton] at q1 q2 q3; omega)
        go_wp2_with (first | ((with_reducible refine gate_dst (N := 5) rfl ?_); refine box_event ?hg (N := 5) ?hd (cs := #[.int .i64 0, .int .i64 0, .int .i64 0, .slice none 0 0]) (t := 29) ?hr ?_; (case hd => rfl); (case hg => rfl); (case hr => first | (go_simp; done) | (go_simp; rfl)); intro g5 hg wg5 hbox hb; have GE := m0_ (show w0.heap.size ≤ g5 from by rw [hg]; exact below_size HB.out); have n0_ := m0_ (blk_below HO.out hb); have n1_ := m0_ (blk_below HW.out hb); have n2_ := m0_ (Kd.R_below HR.out hb); have n3_ := m0_ (below_step HB.out hb); have n4_ := m0_ (hbox); have n5_ := m0_ (GE.out); clear HO HW HR HB; have HO := n0_; have HW := n1_; have HR := n2_; have HB := n3_; have BKg5 := n4_; have HG5 := n5_; clear n0_ n1_ n2_ n3_ n4_ n5_; clear hb hbox hg GE) | ((with_reducible refine gate_store (t := 29) (p := 5) (v := .tmp 20) rfl ?_); refine store_blk (w0 := w0) (base := w0.heap.size) (e := 29) (g := g5) (off := 0) (cur := #[.int .i64 0, .int .i64 0, .int .i64 0, .slice none 0 0]) (cur' := #[.int .i64 y.f0, .int .i64 y.f1, .int .i64 y.f2, .slice A3 y.f3.length c3]) (u := .agg #[.int .i64 y.f0, .int .i64 y.f1, .int .i64 y.f2, .slice A3 y.f3.length c3]) (seg := [.int .i64 y.f0, .int .i64 y.f1, .int .i64 y.f2, .slice A3 y.f3.length c3]) rfl rfl rfl rfl rfl BKg5.out rfl ?ht ?h1 (by simp) rfl HB.out HG5.out ?_; (case ht => kernel_rfl); (case h1 => intro q hq; simp only [List.mem_cons, List.not_mem_nil, or_false] at hq; rcases hq with rfl | rfl | rfl | rfl <;> rfl); intro w15 hs_ hk_ hB_; have n0_ := m0_ (blk_keep HO.out hk_ (fun e_ => by have q_ := BKg5.out; have p_ := HO.out; rw [e_, q_] at p_; injection p_ with p_; injection p_ with _ p_; exact absurd p_ (by decide))); have n1_ := m0_ (blk_keep HW.out hk_ (fun e_ => by have q_ := BKg5.out; have p_ := HW.out; rw [e_, q_] at p_; injection p_ with p_; injection p_ with _ p_; exact absurd p_ (by decide))); have n2_ := m0_ (Kd.R_mono (Kd.R_keep (Kd.R_types HR.out BKg5.out (by decide)) hk_ (fun _ h => h.2)) (fun _ h => h.1)); have n3_ := m0_ (hs_); have n4_ := m0_ (hB_); clear HO HW HR BKg5 HB; have HO := n0_; have HW := n1_; have HR := n2_; have BKg5 := n3_; have HB := n4_; clear n0_ n1_ n2_ n3_ n4_; clear hs_ hk_ hB_; have hw_ := (blk_cell HW.out 0).trans (show _ = some (Value.func (.func 33) #[] #[.pointer (some ⟨ob, 0, none⟩), .pointer (some ⟨wb, 0, none⟩)]) from rfl); have hy0_ := (blk_cell BKg5.out 0).trans (show _ = some (Value.int .i64 y.f0) from rfl); have hy1_ := (blk_cell BKg5.out 1).trans (show _ = some (Value.int .i64 y.f1) from rfl); have hy2_ := (blk_cell BKg5.out 2).trans (show _ = some (Value.int .i64 y.f2) from rfl); have hy3_ := (blk_cell BKg5.out 3).trans (show _ = some (Value.slice A3 y.f3.length c3) from rfl)))
        refine (HI.out y HMEM.out A3 c3 os' _ HX6.out HKX.out ⟨⟨_, HO.out, HR.out⟩, HW.out, HB.out⟩ HLY.out).mono ?_
        rintro e w16 ⟨rfl, hst⟩
        have HS2 := m0_ hst
        clear hst HO HR HW HB BKg5 HG5 hw_ hy0_ hy1_ hy2_ hy3_
        go_wp2
        go_roundw
        case rel => exact ⟨n + 1, by omega, by go_num, os' ++ symsX y, ⟨by rw [List.append_assoc, ← HDR.out]; exact HE2.out⟩, HS2⟩
        case measure => simp [intOf]; omega
      · obtain rfl : n = x.f3.length := by omega
        have l1 : decide (((x.f3.length : Nat) : Int) < (x.f3.length : Int)) = false := decide_eq_false (by omega)
        have HF := m0_ (show os' = os ++ symsL x.f3 from by have q := HE2.out; rw [List.drop_length, symsL_nil, List.append_nil] at q; exact q)
        go_wp2
        go_end0
        refine ⟨rfl, ?_⟩
        rw [← HE.out, ← HF.out]
        exact HS.out
  rw [if_pos hk] at hl
  rw [if_pos hk]
  have HL := m0_ (show os.length + 1 ≤ 1000000 by rw [List.length_append, List.length_singleton] at hl; omega)
  have HL2 := m0_ (show (os ++ [x.f1]).length + (symsL x.f3).length ≤ 1000000 by rw [List.length_append] at hl ⊢; rw [List.length_singleton] at hl ⊢; omega)
  have HE := m0_ (show (os ++ [x.f1]) ++ symsL x.f3 = os ++ ([x.f1] ++ symsL x.f3) by rw [List.append_assoc])
  have kb : (x.f0 == 1) = true := beq_iff_eq.2 hk
  have kd : decide (x.f0 = 1) = true := decide_eq_true hk
  clear hl
  go_wp2_with (first | ((with_reducible refine gate_dst (N := 3) rfl ?_); refine box_event ?hg (N := 3) ?hd (cs := #[.int .i64 x.f0, .int .i64 x.f1, .int .i64 x.f2, .slice A x.f3.length c]) (t := 29) ?hr ?_; (case hd => rfl); (case hg => rfl); (case hr => first | (go_simp; done) | (go_simp; rfl)); intro g3 hg wg3 hbox hb; have GE := m0_ (show w0.heap.size ≤ g3 from by rw [hg]; exact below_size HB.out); have n0_ := m0_ (blk_below HO.out hb); have n1_ := m0_ (blk_below HW.out hb); have n2_ := m0_ (Kd.R_below HR.out hb); have n3_ := m0_ (below_step HB.out hb); have n4_ := m0_ (hbox); clear HO HW HR HB; have HO := n0_; have HW := n1_; have HR := n2_; have HB := n3_; have BKg3 := n4_; clear n0_ n1_ n2_ n3_ n4_; clear hb hbox hg GE; have hz0_ := (blk_cell BKg3.out 0).trans (show _ = some (Value.int .i64 x.f0) from rfl); have hz1_ := (blk_cell BKg3.out 1).trans (show _ = some (Value.int .i64 x.f1) from rfl); have hz3_ := (blk_cell BKg3.out 3).trans (show _ = some (Value.slice A x.f3.length c) from rfl); have ho_ := (blk_cell HO.out 0).trans (show _ = some v from rfl)) | ((with_reducible refine gate_builtin (b := .append) (xs := #[.tmp 9, .tmp 12]) rfl ?_); at_builtin; clear hz0_ hz1_ hz3_ ho_; refine Kd.R_append (Kd.int .i64) (w0 := w0) w0.heap.size rfl (.tmp 9) (.tmp 12) 35 3 (.int .i64 0) 8 rfl Try.underlying35 info3 rfl (by decide) (by omega) v os x.f1 [.int .i64 x.f1] (fun _ => True) (fun _ => False) rfl rfl ?aP (fun _ hk => hk.elim) ?aF ?aO ?aB ?aS ?aL ?_; (case aP => exact rfl); (case aB => exact HB.out); (case aF => exact (fun _ _ => trivial)); (case aO => exact HR.out); (case aS => exact (below_size HB.out)); (case aL => have := HL.out; omega); intro v1 w13 ho hb hg hat; have n0_ := m0_ (blk_grown HO.out hg (Kd.R_ne HR.out HO.out (by decide))); have n1_ := m0_ (blk_grown HW.out hg (Kd.R_ne HR.out HW.out (by decide))); have n2_ := m0_ (blk_grown BKg3.out hg (Kd.R_ne HR.out BKg3.out (by decide))); have n3_ := m0_ (hb); have n4_ := m0_ (ho); clear HO HW BKg3 HB HR; have HO := n0_; have HW := n1_; have BKg3 := n2_; have HB := n3_; have HR := n4_; clear n0_ n1_ n2_ n3_ n4_; clear ho hb hg hat) | ((with_reducible refine gate_store (t := 35) (p := 1) rfl ?_); obtain ⟨A1, c1, e1⟩ := Kd.R_slice HR.out; refine store_one (w0 := w0) (base := w0.heap.size) (e := 35) (g := ob) (off := 0) (cur := #[v]) (u := v1) rfl rfl rfl rfl rfl HO.out (by rw [e1]; rfl) (by kernel_rfl) (by rw [e1]; rfl) (by simp) HB.out HGO.out ?_; intro w14 hs_ hk_ hB_; have n0_ := m0_ (Kd.R_mono (Kd.R_keep (Kd.R_types HR.out HO.out (by decide)) hk_ (fun _ h => h.2)) (fun _ h => h.1)); have n1_ := m0_ (blk_keep HW.out hk_ (Ne.symm HNE.out)); have n2_ := m0_ (blk_keep BKg3.out hk_ (fun e_ => by have q_ := BKg3.out; have p_ := HO.out; rw [e_, p_] at q_; injection q_ with q_; injection q_ with _ q_; exact absurd q_ (by decide))); have n3_ := m0_ (hs_); have n4_ := m0_ (hB_); clear HR HW BKg3 HO HB; have HR := n0_; have HW := n1_; have BKg3 := n2_; have HO := n3_; have HB := n4_; clear n0_ n1_ n2_ n3_ n4_; clear hs_ hk_ hB_ e1; have hz3_ := (blk_cell BKg3.out 3).trans (show _ = some (Value.slice A x.f3.length c) from rfl)))
  have HS := m0_ (show SymSt w0 _ ob wb (os ++ [x.f1]) from ⟨⟨_, HO.out, HR.out⟩, HW.out, HB.out⟩)
  clear HO HR HW HB BKg3 HL kb kd c1d
  go_loopw [17] (fun v17 w' => ∃ n : Nat, n ≤ x.f3.length ∧ v17 = .int .i64 n ∧ ∃ os' : List Int, Aside0 (os' ++ symsL (x.f3.drop n) = (os ++ [x.f1]) ++ symsL x.f3) ∧ Aside0 (SymSt w0 w' ob wb os')) (fun v17 _ => x.f3.length - (intOf v17).toNat)
  case atStart => exact ⟨0, Nat.zero_le _, rfl, (os ++ [x.f1]), ⟨by rw [List.drop_zero]⟩, HS⟩
  case round =>
    rename_i wr
    clear HS
    obtain ⟨n, hn, rfl, os', HE2, HS⟩ := hrel
    have hkl := HKL.out
    by_cases hlt : n < x.f3.length
    rotate_left
    · obtain rfl : n = x.f3.length := by omega
      have l1 : decide (((x.f3.length : Nat) : Int) < (x.f3.length : Int)) = false := decide_eq_false (by omega)
      have HF := m0_ (show os' = (os ++ [x.f1]) ++ symsL x.f3 from by have q := HE2.out; rw [List.drop_length, symsL_nil, List.append_nil] at q; exact q)
      go_wp2
      go_end0
      refine ⟨rfl, ?_⟩
      rw [← HE.out, ← HF.out]
      exact HS.out
    have hHB := HS.out.below
    obtain ⟨ad, A3, c3, e, k0, k1, k2, k3, hx6, hx7⟩ := at_T29 HK.out (n : Int) (by omega) (by omega)
    have h0 := (hHB.cell (World.block_lt_of_cell? _ _ k0)).trans k0
    have h1 := (hHB.cell (World.block_lt_of_cell? _ _ k1)).trans k1
    have h2 := (hHB.cell (World.block_lt_of_cell? _ _ k2)).trans k2
    have h3 := (hHB.cell (World.block_lt_of_cell? _ _ k3)).trans k3
    have HRD := m0_ (show rd_T29 x.f3 (n : Int) = x.f3.getD n z29 from rfl)
    have HMEM := m0_ (show rd_T29 x.f3 (n : Int) ∈ x.f3 from by rw [HRD.out, List.getD_eq_getElem?_getD, List.getElem?_eq_getElem hlt]; exact List.getElem_mem _)
    have hdr := symsL_drop x.f3 n hlt
    rw [← HRD.out] at hdr
    have HDR := m0_ hdr
    have HX6 := m0_ hx6
    have HKX := m0_ hx7
    clear hx6 hx7 hdr k0 k1 k2 k3
    generalize rd_T29 x.f3 (n : Int) = y at *
    simp only [Int.toNat_natCast] at h0 h1 h2 h3
    subst e
    obtain ⟨⟨v, ho, hr⟩, hw, hb⟩ := HS.out
    have HO := m0_ ho
    have HR := m0_ hr
    have HW := m0_ hw
    have HB := m0_ hb
    clear ho hr hw hb hHB HS
    have l1 : decide ((n : Int) < (x.f3.length : Int)) = true := decide_eq_true (by omega)
    have l2 : (n : Int) < (x.f3.length : Int) := by omega
    have l3 : (0 : Int) ≤ (n : Int) := by omega
    have HLY := m0_ (show os'.length + (symsX y).length ≤ 1000000 from by have q1 := congrArg List.length HE2.out; have q2 := congrArg List.length HDR.out; have q3 := HL2.out; simp only [List.length_append, List.length_singleton] at q1 q2 q3; omega)
    go_wp2_with (first | ((with_reducible refine gate_dst (N := 5) rfl ?_); refine box_event ?hg (N := 5) ?hd (cs := #[.int .i64 0, .int .i64 0, .int .i64 0, .slice none 0 0]) (t := 29) ?hr ?_; (case hd => rfl); (case hg => rfl); (case hr => first | (go_simp; done) | (go_simp; rfl)); intro g5 hg wg5 hbox hb; have GE := m0_ (show w0.heap.size ≤ g5 from by rw [hg]; exact below_size HB.out); have n0_ := m0_ (blk_below HO.out hb); have n1_ := m0_ (blk_below HW.out hb); have n2_ := m0_ (Kd.R_below HR.out hb); have n3_ := m0_ (below_step HB.out hb); have n4_ := m0_ (hbox); have n5_ := m0_ (GE.out); clear HO HW HR HB; have HO := n0_; have HW := n1_; have HR := n2_; have HB := n3_; have BKg5 := n4_; have HG5 := n5_; clear n0_ n1_ n2_ n3_ n4_ n5_; clear hb hbox hg GE) | ((with_reducible refine gate_store (t := 29) (p := 5) (v := .tmp 20) rfl ?_); refine store_blk (w0 := w0) (base := w0.heap.size) (e := 29) (g := g5) (off := 0) (cur := #[.int .i64 0, .int .i64 0, .int .i64 0, .slice none 0 0]) (cur' := #[.int .i64 y.f0, .int .i64 y.f1, .int .i64 y.f2, .slice A3 y.f3.length c3]) (u := .agg #[.int .i64 y.f0, .int .i64 y.f1, .int .i64 y.f2, .slice A3 y.f3.length c3]) (seg := [.int .i64 y.f0, .int .i64 y.f1, .int .i64 y.f2, .slice A3 y.f3.length c3]) rfl rfl rfl rfl rfl BKg5.out rfl ?ht ?h1 (by simp) rfl HB.out HG5.out ?_; (case ht => kernel_rfl); (case h1 => intro q hq; simp only [List.mem_cons, List.not_mem_nil, or_false] at hq; rcases hq with rfl | rfl | rfl | rfl <;> rfl); intro w15 hs_ hk_ hB_; have n0_ := m0_ (blk_keep HO.out hk_ (fun e_ => by have q_ := BKg5.out; have p_ := HO.out; rw [e_, q_] at p_; injection p_ with p_; injection p_ with _ p_; exact absurd p_ (by decide))); have n1_ := m0_ (blk_keep HW.out hk_ (fun e_ => by have q_ := BKg5.out; have p_ := HW.out; rw [e_, q_] at p_; injection p_ with p_; injection p_ with _ p_; exact absurd p_ (by decide))); have n2_ := m0_ (Kd.R_mono (Kd.R_keep (Kd.R_types HR.out BKg5.out (by decide)) hk_ (fun _ h => h.2)) (fun _ h => h.1)); have n3_ := m0_ (hs_); have n4_ := m0_ (hB_); clear HO HW HR BKg5 HB; have HO := n0_; have HW := n1_; have HR := n2_; have BKg5 := n3_; have HB := n4_; clear n0_ n1_ n2_ n3_ n4_; clear hs_ hk_ hB_; have hw_ := (blk_cell HW.out 0).trans (show _ = some (Value.func (.func 33) #[] #[.pointer (some ⟨ob, 0, none⟩), .pointer (some ⟨wb, 0, none⟩)]) from rfl); have hy0_ := (blk_cell BKg5.out 0).trans (show _ = some (Value.int .i64 y.f0) from rfl); have hy1_ := (blk_cell BKg5.out 1).trans (show _ = some (Value.int .i64 y.f1) from rfl); have hy2_ := (blk_cell BKg5.out 2).trans (show _ = some (Value.int .i64 y.f2) from rfl); have hy3_ := (blk_cell BKg5.out 3).trans (show _ = some (Value.slice A3 y.f3.length c3) from rfl)))
    refine (HI.out y HMEM.out A3 c3 os' _ HX6.out HKX.out ⟨⟨_, HO.out, HR.out⟩, HW.out, HB.out⟩ HLY.out).mono ?_
    rintro e w16 ⟨rfl, hst⟩
    have HS2 := m0_ hst
    clear hst HO HR HW HB BKg5 HG5 hw_ hy0_ hy1_ hy2_ hy3_
    go_wp2
    go_roundw
    case rel => exact ⟨n + 1, by omega, by go_num, os' ++ symsX y, ⟨by rw [List.append_assoc, ← HDR.out]; exact HE2.out⟩, HS2⟩
    case measure => simp [intOf]; omega
end Go.Proofs.Ytbcdfbiggjfmlaa.M
namespace Go.Proofs.Ytbcdfbiggjfmlaa.M
open Go.RowKit Go.Proofs.YtbcdfbiggjfmlaaW.PrintWords Go.Proofs.YtbcdfbiggjfmlaaW.PrintLast Go.Proofs.YtbcdfbiggjfmlaaW.PrintMore
attribute [local go_sem] max2_int min2_int max_two min_two max_three min_three max_four min_four
set_option linter.unusedVariables false
set_option linter.unusedSimpArgs false

def impl_ExSyms.f (k : Nat) (a0 a1 a2 : Int) (l : List S29) : Option (List Int) := (impl_ExOk.f k a0 a1 a2 l).bind fun ok => if ok = true then (if 0 < (symsX ⟨a0, a1, a2, l⟩).length ∧ (symsX ⟨a0, a1, a2, l⟩).length ≤ 1000000 then some (Lib.compact (sortI (symsX ⟨a0, a1, a2, l⟩))) else none) else some []
set_option maxHeartbeats 4000000 in
set_option maxRecDepth 100000 in
theorem impl_ExSyms.calls (k : Nat) (a0 : Int) (a1 : Int) (a2 : Int) (A : Option Addr) (c : Nat) (l : List (S29)) (r : List Int) (w : World) (hr0 : Kd.C k29 w A l.length l) (hc0 : l.length ≤ c) (h : impl_ExSyms.f k a0 a1 a2 l = some r) :
  Calls Try.prog 18 #[.agg #[.int .i64 a0, .int .i64 a1, .int .i64 a2, .slice A l.length c]] w fun e w' => ∃ v0_ : Value, e = .returned (v0_) ∧ Kd.R (Kd.int .i64) 3 w' w.heap.size (fun _ => True) v0_ r ∧ Below w.heap.size w w' := by
 unfold impl_ExSyms.f at h
 obtain ⟨ok, hk, h_⟩ := Option.bind_eq_some_iff.1 h
 have TK := m0_ hk
 have HK := m0_ hr0
 have HC := m0_ hc0
 have HH := m0_ h_
 have HB := m0_ (Below.refl w.heap.size w)
 have hu1_ := Try.underlying29
 clear h hk h_ hr0 hc0
 go_enter Try.func18, Try.ntmps18
 go_wp2_with (first | ((with_reducible refine gate_dst (N := 1) rfl ?_);refine box_event ?hg (N := 1) ?hd (cs := #[.int .i64 a0, .int .i64 a1, .int .i64 a2, .slice A l.length c]) (t := 29) ?hr ?_;(case hd => rfl);(case hg => rfl);(case hr => first | (go_simp;done) | (go_simp;rfl));intro g1 hg wg1 hbox hb;have Gg1 := m0_ (show w.heap.size ≤ g1 from by rw [hg];exact below_size HB.out);replace HB := m0_ (below_step HB.out hb);have BKg1 := m0_ (hbox);clear hb hbox hg;have hz0_ := (blk_cell BKg1.out 0).trans (show _ = some (Value.int .i64 a0) from rfl);have hz1_ := (blk_cell BKg1.out 1).trans (show _ = some (Value.int .i64 a1) from rfl);have hz2_ := (blk_cell BKg1.out 2).trans (show _ = some (Value.int .i64 a2) from rfl);have hz3_ := (blk_cell BKg1.out 3).trans (show _ = some (Value.slice A l.length c) from rfl)) | (go_at_call 14;fail))
 clear hz0_ hz1_ hz2_ hz3_
 refine (impl_ExOk.calls k a0 a1 a2 _ _ l ok _ (Kd.C_below HK.out HB.out) HC.out TK.out).mono ?_
 rintro e w1 ⟨rfl, hb⟩
 have n0_ := m0_ (blk_below BKg1.out hb);have n1_ := m0_ (below_step HB.out hb);clear BKg1 HB;have BKg1 := n0_;have HB := n1_;clear n0_ n1_
 clear hb
 cases ok with
 | false =>
  have h : some ([] : List Int) = some r := HH.out
  obtain rfl := Option.some.inj h
  go_wp2
  go_ret
  exact ⟨_, rfl, Kd.R_nil _ _ _ _ _, HB.out⟩
 | true =>
  have h := HH.out
  rw [if_pos rfl] at h
  have h2 := Decidable.byContradiction (fun c => by rw [if_neg c] at h;cases h) (p := 0 < (symsX ⟨a0, a1, a2, l⟩).length ∧ (symsX ⟨a0, a1, a2, l⟩).length ≤ 1000000)
  rw [if_pos h2] at h
  obtain rfl := Option.some.inj h
  have HP := m0_ h2.1
  have HL := m0_ h2.2
  have HP2 := m0_ (show 0 < (sortI (symsX ⟨a0, a1, a2, l⟩)).length by unfold sortI;rw [List.length_mergeSort];exact h2.1)
  have hcl1 := compact_le (sortI (symsX ⟨a0, a1, a2, l⟩))
  have hcl2 : (sortI (symsX ⟨a0, a1, a2, l⟩)).length = (symsX ⟨a0, a1, a2, l⟩).length := by unfold sortI;rw [List.length_mergeSort]
  have HCL := m0_ (show (Lib.compact (sortI (symsX ⟨a0, a1, a2, l⟩))).length ≤ 1000000 by omega)
  clear hcl1 hcl2
  have hmf : ∀ (fn : Fn) (first cap : Array Value) (w : World), (Instr.makeFunc fn first cap).run Try.prog w = .ok (.func fn first cap) w := fun _ _ _ _ => rfl
  clear h h2 HH
  go_wp2_with (first | ((with_reducible refine gate_dst (N := 3) rfl ?_);refine box_event ?hg (N := 3) ?hd (cs := #[.slice none 0 0]) (t := 35) ?hr ?_;(case hd => rfl);(case hg => rfl);(case hr => first | (go_simp;done) | (go_simp;rfl));intro g3 hg wg3 hbox hb;have Gg3 := m0_ (show w.heap.size ≤ g3 from by rw [hg];exact below_size HB.out);have Ng1 := m0_ (show g1 ≠ g3 from by rw [hg];exact Nat.ne_of_lt (blk_lt BKg1.out));have n0_ := m0_ (blk_below BKg1.out hb);have n1_ := m0_ (below_step HB.out hb);have n2_ := m0_ (hbox);clear BKg1 HB;have BKg1 := n0_;have HB := n1_;have BKg3 := n2_;clear n0_ n1_ n2_;clear hb hbox hg) | ((with_reducible refine gate_dst (N := 4) rfl ?_);refine box_event ?hg (N := 4) ?hd (cs := #[.nilFunc]) (t := 52) ?hr ?_;(case hd => rfl);(case hg => rfl);(case hr => first | (go_simp;done) | (go_simp;rfl));intro g4 hg wg4 hbox hb;have Gg4 := m0_ (show w.heap.size ≤ g4 from by rw [hg];exact below_size HB.out);have Ng1b := m0_ (show g1 ≠ g4 from by rw [hg];exact Nat.ne_of_lt (blk_lt BKg1.out));have Ng3 := m0_ (show g3 ≠ g4 from by rw [hg];exact Nat.ne_of_lt (blk_lt BKg3.out));have n0_ := m0_ (blk_below BKg1.out hb);have n1_ := m0_ (blk_below BKg3.out hb);have n2_ := m0_ (below_step HB.out hb);have n3_ := m0_ (hbox);clear BKg1 BKg3 HB;have BKg1 := n0_;have BKg3 := n1_;have HB := n2_;have BKg4 := n3_;clear n0_ n1_ n2_ n3_;clear hb hbox hg) | ((with_reducible refine gate_store (t := 52) (p := 4) (v := .tmp 8) rfl ?_);refine store_one (w0 := w) (base := w.heap.size) (e := 52) (g := g4) (off := 0) (cur := #[.nilFunc]) (u := .func (.func 33) #[] #[.pointer (some ⟨g3, 0, none⟩), .pointer (some ⟨g4, 0, none⟩)]) rfl rfl rfl rfl rfl BKg4.out rfl (by kernel_rfl) rfl (by decide) HB.out Gg4.out ?_;intro ws hs_ hk_ hB_;have n0_ := m0_ (blk_keep BKg1.out hk_ Ng1b.out);have n1_ := m0_ (blk_keep BKg3.out hk_ Ng3.out);have n2_ := m0_ (hs_);have n3_ := m0_ (hB_);clear BKg1 BKg3 BKg4 HB;have BKg1 := n0_;have BKg3 := n1_;have BKg4 := n2_;have HB := n3_;clear n0_ n1_ n2_ n3_;clear hs_ hk_ hB_;have hw_ := (blk_cell BKg4.out 0).trans (show _ = some (Value.func (.func 33) #[] #[.pointer (some ⟨g3, 0, none⟩), .pointer (some ⟨g4, 0, none⟩)]) from rfl);have hz0_ := (blk_cell BKg1.out 0).trans (show _ = some (Value.int .i64 a0) from rfl);have hz1_ := (blk_cell BKg1.out 1).trans (show _ = some (Value.int .i64 a1) from rfl);have hz2_ := (blk_cell BKg1.out 2).trans (show _ = some (Value.int .i64 a2) from rfl);have hz3_ := (blk_cell BKg1.out 3).trans (show _ = some (Value.slice A l.length c) from rfl)))
  clear hw_ hz0_ hz1_ hz2_ hz3_ hmf
  refine (syms_walk g3 g4 Ng3.out w Gg3.out ⟨a0, a1, a2, l⟩ A c [] _ HC.out HK.out ⟨⟨_, BKg3.out, Kd.R_nil _ _ _ _ _⟩, BKg4.out, HB.out⟩ (by rw [List.length_nil, Nat.zero_add];exact HL.out)).mono ?_
  rintro e w2 ⟨rfl, hst⟩
  rw [List.nil_append] at hst
  obtain ⟨⟨v, ho, hr⟩, _, hb⟩ := hst
  clear BKg3 BKg4 BKg1 HB
  have HO := m0_ ho
  have HR := m0_ hr
  have HB := m0_ hb
  clear hr hb
  have ho_ := (blk_cell ho 0).trans (show _ = some v from rfl)
  clear ho
  go_wp2_with (go_at_call 34;fail)
  clear ho_
  refine (sort_own HR.out HP.out (by have := HL.out;omega)).mono ?_
  rintro e w3 ⟨rfl, hs, hg⟩
  have n0_ := m0_ (blk_grown HO.out hg (Kd.R_ne HR.out HO.out (by decide)))
  have n1_ := m0_ (HB.out.grown hg HB.out.size (fun j hj => Kd.R_base HR.out j hj))
  have n2_ := m0_ hs
  clear HO HB HR hs hg
  have HO := n0_
  have HB := n1_
  have HR := n2_
  clear n0_ n1_ n2_
  have ho_ := (blk_cell HO.out 0).trans (show _ = some v from rfl)
  go_wp2_with (go_at_call 35;fail)
  clear ho_
  refine (compact_row HR.out HP2.out).mono ?_
  rintro e w4 ⟨u, rfl, hs, hg⟩
  have n1_ := m0_ (HB.out.grown hg HB.out.size (fun j hj => Kd.R_base HR.out j hj))
  clear HB HO HR hg
  have HB := n1_
  clear n1_
  obtain ⟨A7, c7, e7, hl7, hc7⟩ := Kd.R_reads hs
  subst e7
  have HR := m0_ hs
  have HC7 := m0_ hc7
  clear hs hl7 hc7
  go_wp2_with (first | ((with_reducible refine gate_builtin (b := .append) (xs := #[.const (.slice none 0 0), .tmp 15]) rfl ?_);at_builtin;refine Kd.R_append_rows (Kd.int .i64) (w0 := w) w.heap.size rfl (.const (.slice none 0 0)) (.tmp 15) 35 3 (.int .i64 0) 8 rfl Try.underlying35 info3 rfl (by decide) (by omega) (.slice none 0 0) [] (Lib.compact (sortI (symsX ⟨a0, a1, a2, l⟩))) _ _ _ (fun _ => True) (fun _ => False) rfl rfl ?aO ?aR (fun _ _ h => h) (fun _ h => h.elim) ?aF ?aB ?aS ?aL ?_;(case aO => exact Kd.R_nil _ _ _ _ _);(case aR => exact HC7.out);(case aF => exact fun _ _ => trivial);(case aB => exact HB.out);(case aS => exact below_size HB.out);(case aL => have := HCL.out;simp only [List.length_nil];omega);intro v16 w16 ho hb hg hat;have HB2 := m0_ hb;have HO2 := m0_ ho;clear ho hb hg hat))
  go_ret
  exact ⟨_, rfl, HO2.out, HB2.out⟩

def laws_eqIntS.l0 : Nat → List Int → List Int → Int → Option (Bool)
 | 0, _, _, _ => none
 | k + 1, x0, x1, x5 => if x5 < (x0.length : Int) then (if 0 ≤ x5 then (if x5 < (x1.length : Int) then (if (rd x0 x5) = (rd x1 x5) then (laws_eqIntS.l0 k x0 x1 (wrap64 (x5 + 1))) else (some false)) else (none)) else (none)) else (some true)
def laws_eqIntS.f (k : Nat) (l0 : List Int) (l1 : List Int) : Option (Bool) := if (l0.length : Int) = (l1.length : Int) then (laws_eqIntS.l0 k l0 l1 0) else (some false)
set_option maxHeartbeats 8000000 in
set_option maxRecDepth 100000 in
theorem laws_eqIntS.calls (k : Nat) (A0 : Option Addr) (c0 : Nat) (l0 : List Int) (A1 : Option Addr) (c1 : Nat) (l1 : List Int) (r : Bool) (hT_ : Aside0 (r = true)) (w : World) (hr0 : Kd.C (Kd.int .i64) w A0 l0.length l0) (hc0 : l0.length ≤ c0) (hr1 : Kd.C (Kd.int .i64) w A1 l1.length l1) (hc1 : l1.length ≤ c1) (h : laws_eqIntS.f k l0 l1 = some r) :
  Calls Try.prog 19 #[.slice A0 l0.length c0, .slice A1 l1.length c1] w fun e w' => e = .returned (.bool r) ∧ Drawn0 w w' := by
 have HR0 := m0_ hr0
 have HC0 := m0_ hc0
 clear hr0 hc0
 have HR1 := m0_ hr1
 have HC1 := m0_ hc1
 clear hr1 hc1
 have H : (if (l0.length : Int) = (l1.length : Int) then (laws_eqIntS.l0 k l0 l1 0) else (some false)) = some r := h
 clear h
 by_cases c3 : (l0.length : Int) = (l1.length : Int)
 rotate_left
 ·rw [if_neg c3] at H
  have c3b0 : ((l0.length : Int) == (l1.length : Int)) = false := beq_eq_false_iff_ne.mpr c3
  have c3b1 : ((l0.length : Int) != (l1.length : Int)) = true := bne_iff_ne.mpr c3
  have c3b2 : (l0.length == l1.length) = false := by first | simpa using c3 | (simp at c3 ⊢;omega)
  exact absurd (Option.some.inj H) (by rw [hT_.out];decide)
 rw [if_pos c3] at H
 have c3b0 : ((l0.length : Int) == (l1.length : Int)) = true := beq_iff_eq.mpr c3
 have c3b1 : ((l0.length : Int) != (l1.length : Int)) = false := bne_eq_false_iff_eq.mpr c3
 have c3b2 : (l0.length == l1.length) = true := by first | simpa using c3 | (simp at c3 ⊢;omega)
 clear c3
 have H' := m0_ H
 clear H
 go_enter Try.func19, Try.ntmps19
 go_wp2
 repeat (go_quiet (fail);try go_wp2)
 go_loopg [5] k (fun kq v5 w' => ∃ (x5_1 : Int), v5 = .int .i64 x5_1 ∧ Aside0 (laws_eqIntS.l0 kq l0 l1 x5_1 = some r) ∧ Aside0 (kq ≤ k) ∧ Drawn0 w w')
 case atStart => exact ⟨(0), (by first | rfl | (simp;done) | (simp [*];done)), H', ⟨Nat.le_refl _⟩, by repeat (first | exact Drawn0.refl _ | apply Drawn0.step)⟩
 case round =>
  clear H'
  try clear c1
  try clear p2
  try clear c3
  try clear c3b0
  try clear c3b1
  try clear c3b2
  obtain ⟨x5_1, rfl, HA, HK1, ⟨m1, rfl⟩⟩ := hrel
  cases gk with
  | zero => exact absurd HA.out (by simp [laws_eqIntS.l0])
  | succ k1 =>
   have H := HA.out
   clear HA
   simp only [laws_eqIntS.l0] at H
   by_cases c4 : x5_1 < (l0.length : Int)
   rotate_left
   ·rw [if_neg c4] at H
    have c4b0 : decide (x5_1 < (l0.length : Int)) = false := decide_eq_false c4
    clear c4
    obtain rfl := Option.some.inj H
    go_wp2
    repeat (go_quiet (fail);try go_wp2)
    go_ret
    exact ⟨by first | rfl | (simp;done) | (simp [*];done), by repeat (first | exact Drawn0.refl _ | apply Drawn0.step)⟩
   rw [if_pos c4] at H
   have c4b0 : decide (x5_1 < (l0.length : Int)) = true := decide_eq_true c4
   clear c4
   by_cases c5 : 0 ≤ x5_1
   rotate_left
   ·rw [if_neg c5] at H
    exact absurd H (by simp)
   rw [if_pos c5] at H
   have c5b0 : decide (0 ≤ x5_1) = true := decide_eq_true c5
   clear c5
   by_cases c6 : x5_1 < (l1.length : Int)
   rotate_left
   ·rw [if_neg c6] at H
    exact absurd H (by simp)
   rw [if_pos c6] at H
   have c6b0 : decide (x5_1 < (l1.length : Int)) = true := decide_eq_true c6
   clear c6
   by_cases c7 : (rd l0 x5_1) = (rd l1 x5_1)
   rotate_left
   ·rw [if_neg c7] at H
    have c7b0 : ((rd l0 x5_1) == (rd l1 x5_1)) = false := beq_eq_false_iff_ne.mpr c7
    have c7b1 : ((rd l0 x5_1) != (rd l1 x5_1)) = true := bne_iff_ne.mpr c7
    exact absurd (Option.some.inj H) (by rw [hT_.out];decide)
   rw [if_pos c7] at H
   have c7b0 : ((rd l0 x5_1) == (rd l1 x5_1)) = true := beq_iff_eq.mpr c7
   have c7b1 : ((rd l0 x5_1) != (rd l1 x5_1)) = false := bne_eq_false_iff_eq.mpr c7
   clear c7
   have H' := m0_ H
   clear H
   have p101 : 0 ≤ (x5_1 : Int) := of_decide_eq_true (by first | (with_reducible assumption) | assumption)
   have q101 : x5_1 < (l0.length : Int) := of_decide_eq_true (by first | (with_reducible assumption) | assumption)
   obtain ⟨ad101, e101, hx101_0⟩ := Kd.at_int HR0.out x5_1 p101 q101
   cases e101
   replace p101 := eq_true p101
   replace q101 := eq_true q101
   have p102 : 0 ≤ (x5_1 : Int) := of_decide_eq_true (by first | (with_reducible assumption) | assumption)
   have q102 : x5_1 < (l1.length : Int) := of_decide_eq_true (by first | (with_reducible assumption) | assumption)
   obtain ⟨ad102, e102, hx102_0⟩ := Kd.at_int HR1.out x5_1 p102 q102
   cases e102
   replace p102 := eq_true p102
   replace q102 := eq_true q102
   go_wp2
   repeat (go_quiet (fail);try go_wp2)
   go_roundg k1
   case measure => have := HK1.out;omega
   case rel => exact ⟨(wrap64 (x5_1 + 1)), (by first | rfl | (simp;done) | (simp [*];done)), H', ⟨by have := HK1.out;omega⟩, by repeat (first | exact Drawn0.refl _ | apply Drawn0.step)⟩

def laws_markIntS.l0 : Nat → List Int → Int → Int → Option (Int × List Int)
 | 0, _, _, _ => none
 | k + 1, x0, x1, x5 => if x5 < (x0.length : Int) then (if 0 ≤ x5 then (laws_markIntS.l0 k (x0.set (x5 : Int).toNat x1) (wrap64 (x1 + 1)) (wrap64 (x5 + 1))) else (none)) else (some (x1, x0))
def laws_markIntS.f (k : Nat) (l0 : List Int) (a1 : Int) : Option (Int × List Int) := laws_markIntS.l0 k l0 a1 0
set_option maxHeartbeats 8000000 in
set_option maxRecDepth 100000 in
theorem laws_markIntS.calls (k : Nat) (P0_ : Nat → Prop) (u9000_ : Value) (l0 : List Int) (a1 : Int) (r1 : Int) (r2 : List Int) (w0 w : World) (hB : Below w0.heap.size w0 w) (ho0 : Kd.R (Kd.int .i64) 3 w w0.heap.size P0_ u9000_ l0) (h : laws_markIntS.f k l0 a1 = some (r1, r2)) :
  Calls Try.prog 21 #[u9000_, .int .i64 a1] w fun e w' => e = .returned (.int .i64 r1) ∧ Kd.R (Kd.int .i64) 3 w' w0.heap.size (fun k_ => (P0_ k_ ∨ w.heap.size ≤ k_)) u9000_ r2 ∧ Below w0.heap.size w0 w' ∧ Kept w w' (fun k_ => P0_ k_) := by
 have HO0 := m0_ (show Kd.R (Kd.int .i64) 3 w w0.heap.size (fun k_ => (P0_ k_ ∨ w.heap.size ≤ k_)) u9000_ l0 from Kd.R_mono ho0 (fun k_ hk => (.inl hk)))
 have HK := m0_ (Kept.refl w (fun k_ => P0_ k_))
 have HW0 := m0_ hB.size
 have HB := m0_ hB
 clear hB
 have H : (laws_markIntS.l0 k l0 a1 0) = some (r1, r2) := h
 clear h
 have H' := m0_ H
 clear H
 go_enter Try.func21, Try.ntmps21
 go_wp2
 go_loopg [1, 5] k (fun kq v1 v5 w' => ∃ (x0_1 : List Int) (x1_1 : Int) (x5_1 : Int), v1 = .int .i64 x1_1 ∧ v5 = .int .i64 x5_1 ∧ Aside0 (laws_markIntS.l0 kq x0_1 x1_1 x5_1 = some (r1, r2)) ∧ Aside0 (kq ≤ k) ∧ Aside0 (Kd.R (Kd.int .i64) 3 w' w0.heap.size (fun k_ => (P0_ k_ ∨ w.heap.size ≤ k_)) u9000_ x0_1) ∧ Aside0 (Kept w w' (fun k_ => P0_ k_)) ∧ Aside0 (Below w0.heap.size w0 w'))
 case atStart => exact ⟨(l0), (a1), (0), (by first | rfl | (simp;done) | (simp [*];done)), (by first | rfl | (simp;done) | (simp [*];done)), H', ⟨Nat.le_refl _⟩, ⟨by (with_reducible repeat (first | apply Kd.R_alloc | apply Kd.R_drewN | apply Kd.R_drew));exact HO0.out⟩, ⟨by repeat (first | (with_reducible first | exact HK.out | apply Kept.alloc | apply Kept.drewN | apply Kept.drew) | exact HK.out)⟩, ⟨by repeat (first | (with_reducible first | exact HB.out | apply below_alloc | apply pw_below_drewN | apply below_drew1) | exact HB.out)⟩⟩
 case round =>
  clear H'
  try clear c2
  try clear p2
  obtain ⟨x0_1, x1_1, x5_1, rfl, rfl, HA, HK1, HO_0, HK, HB⟩ := hrel
  cases gk with
  | zero => exact absurd HA.out (by simp [laws_markIntS.l0])
  | succ k1 =>
   have H := HA.out
   clear HA
   simp only [laws_markIntS.l0] at H
   by_cases c3 : x5_1 < (x0_1.length : Int)
   rotate_left
   ·rw [if_neg c3] at H
    have c3b0 : decide (x5_1 < (x0_1.length : Int)) = false := decide_eq_false c3
    clear c3
    simp only [Option.some.injEq, Prod.mk.injEq] at H
    obtain ⟨rfl, rfl⟩ := H
    obtain ⟨Ao9, co9, eo9⟩ := Kd.R_slice HO_0.out
    subst eo9
    go_wp2
    go_ret
    exact ⟨by first | rfl | (simp [errW_none, errW_some] <;> rfl) | (simp [*, errW_none, errW_some] <;> rfl), by (with_reducible repeat (first | apply Kd.R_alloc | apply Kd.R_drewN | apply Kd.R_drew));exact HO_0.out, by repeat (first | (with_reducible first | exact HB.out | apply below_alloc | apply pw_below_drewN | apply below_drew1) | exact HB.out), by repeat (first | (with_reducible first | exact HK.out | apply Kept.alloc | apply Kept.drewN | apply Kept.drew) | exact HK.out)⟩
   rw [if_pos c3] at H
   have c3b0 : decide (x5_1 < (x0_1.length : Int)) = true := decide_eq_true c3
   clear c3
   by_cases c4 : 0 ≤ x5_1
   rotate_left
   ·rw [if_neg c4] at H
    exact absurd H (by simp)
   rw [if_pos c4] at H
   have c4b0 : decide (0 ≤ x5_1) = true := decide_eq_true c4
   clear c4
   obtain ⟨y101, hy101⟩ : ∃ y_ : List Int, y_ = (x0_1.set (x5_1 : Int).toNat x1_1) := ⟨_, rfl⟩
   replace H : (laws_markIntS.l0 k1 y101 (wrap64 (x1_1 + 1)) (wrap64 (x5_1 + 1))) = some (r1, r2) := by first | (rw [hy101];with_reducible exact H) | (have H2_ := (Option.bind_some _ _).symm.trans H;rw [hy101];with_reducible exact H2_) | (have H2_ := (Option.bind_some _ _).symm.trans H;with_reducible exact H2_) | with_reducible exact H | (rw [hy101];exact H) | exact H
   have Ny101 := m0_ hy101
   clear hy101
   have H' := m0_ H
   clear H
   obtain ⟨Ao6, co6, eo6⟩ := Kd.R_slice HO_0.out
   subst eo6
   have p5 : 0 ≤ (x5_1 : Int) := of_decide_eq_true (by first | (with_reducible assumption) | assumption)
   have q5 : (x5_1 : Int) < ((x0_1.length : Int) : Int) := of_decide_eq_true (by first | (with_reducible assumption) | assumption)
   obtain ⟨go5, co5, eo5, gb5, gl5, cl5, HG5⟩ := Kd.R_form HO_0.out (by omega)
   (first | cases eo5 | (injection eo5 with ea_ en_ ec_;(first | subst ea_ | (injection ea_ with ea_;subst ea_));subst ec_;clear en_))
   have GB5 := m0_ gb5
   have GG5 := m0_ HG5
   clear gb5 gl5 HG5
   have HMgo5 := m0_ (show (P0_ go5 ∨ w.heap.size ≤ go5) from (HO_0.out.1 _ rfl))
   obtain ⟨hx5_0, hf5_0⟩ := Kd.R_celln 0 HO_0.out (x5_1 : Int) p5 q5
   replace p5 := eq_true p5
   replace q5 := eq_true q5
   have HP7 := Kd.R_putg HO_0.out (x5_1 : Int) x1_1
   go_wp2_with (first | ((with_reducible refine gate_store (t := 3) (p := 15) rfl ?_);refine store_event (t := 3) (p := 15) (v := ?vo_w8) (w1 := (wr.setCell ⟨go5, (x5_1 : Int).toNat, none⟩ (.int .i64 x1_1))) ?hg ?ho ?hn ?hr ?_;(case ho => rfl);(case hg => rfl);(case hn => rfl);(case hr => first | (go_simp;done) | (go_simp;rfl));intro w8 hw;have hg : wr.grownBy w8 (some go5) := (by rw [hw];exact HP7.2);have hp_ : Kd.R (Kd.int .i64) 3 w8 w0.heap.size (fun k_ => (P0_ k_ ∨ w.heap.size ≤ k_)) (.slice (some ⟨go5, 0, none⟩) x0_1.length co6) y101 := (by rw [hw, Ny101.out];exact HP7.1);clear HP7;replace HB := m0_ ((by rw [hw];exact below_set (HB.out) GB5.out : Below w0.heap.size w0 w8));replace HK := m0_ (Kept.of_grown (S := (fun k_ => P0_ k_)) hg (by repeat (first | (with_reducible first | exact HK.out | apply Kept.alloc | apply Kept.drewN | apply Kept.drew) | exact HK.out)) (fun k_ e_ => (HO_0.out.1 k_ e_)));replace HO_0 := m0_ (hp_);clear hg hw hp_))
   go_roundg k1
   case measure => have := HK1.out;omega
   case rel => exact ⟨(y101), (wrap64 (x1_1 + 1)), (wrap64 (x5_1 + 1)), (by first | rfl | (simp;done) | (simp [*];done)), (by first | rfl | (simp;done) | (simp [*];done)), H', ⟨by have := HK1.out;omega⟩, ⟨by (with_reducible repeat (first | apply Kd.R_alloc | apply Kd.R_drewN | apply Kd.R_drew));exact HO_0.out⟩, ⟨by repeat (first | (with_reducible first | exact HK.out | apply Kept.alloc | apply Kept.drewN | apply Kept.drew) | exact HK.out)⟩, ⟨by repeat (first | (with_reducible first | exact HB.out | apply below_alloc | apply pw_below_drewN | apply below_drew1) | exact HB.out)⟩⟩

def laws_heldIntS.l0 : Nat → List Int → Int → Int → Option (Int)
 | 0, _, _, _ => none
 | k + 1, x0, x1, x5 => if x5 < (x0.length : Int) then (if 0 ≤ x5 then (if (rd x0 x5) = x1 then (laws_heldIntS.l0 k x0 (wrap64 (x1 + 1)) (wrap64 (x5 + 1))) else (some (-1))) else (none)) else (some x1)
def laws_heldIntS.f (k : Nat) (l0 : List Int) (a1 : Int) : Option (Int) := laws_heldIntS.l0 k l0 a1 0
set_option maxHeartbeats 8000000 in
set_option maxRecDepth 100000 in
theorem laws_heldIntS.calls (k : Nat) (A0 : Option Addr) (c0 : Nat) (l0 : List Int) (a1 : Int) (r : Int) (w : World) (hr0 : Kd.C (Kd.int .i64) w A0 l0.length l0) (hc0 : l0.length ≤ c0) (h : laws_heldIntS.f k l0 a1 = some r) :
  Calls Try.prog 22 #[.slice A0 l0.length c0, .int .i64 a1] w fun e w' => e = .returned (.int .i64 r) ∧ Drawn0 w w' := by
 have HR0 := m0_ hr0
 have HC0 := m0_ hc0
 clear hr0 hc0
 have H : (laws_heldIntS.l0 k l0 a1 0) = some r := h
 clear h
 have H' := m0_ H
 clear H
 go_enter Try.func22, Try.ntmps22
 go_wp2
 go_loopg [1, 5] k (fun kq v1 v5 w' => ∃ (x1_1 : Int) (x5_1 : Int), v1 = .int .i64 x1_1 ∧ v5 = .int .i64 x5_1 ∧ Aside0 (laws_heldIntS.l0 kq l0 x1_1 x5_1 = some r) ∧ Aside0 (kq ≤ k) ∧ Drawn0 w w')
 case atStart => exact ⟨(a1), (0), (by first | rfl | (simp;done) | (simp [*];done)), (by first | rfl | (simp;done) | (simp [*];done)), H', ⟨Nat.le_refl _⟩, by repeat (first | exact Drawn0.refl _ | apply Drawn0.step)⟩
 case round =>
  clear H'
  try clear c2
  try clear p2
  obtain ⟨x1_1, x5_1, rfl, rfl, HA, HK1, ⟨m1, rfl⟩⟩ := hrel
  cases gk with
  | zero => exact absurd HA.out (by simp [laws_heldIntS.l0])
  | succ k1 =>
   have H := HA.out
   clear HA
   simp only [laws_heldIntS.l0] at H
   by_cases c3 : x5_1 < (l0.length : Int)
   rotate_left
   ·rw [if_neg c3] at H
    have c3b0 : decide (x5_1 < (l0.length : Int)) = false := decide_eq_false c3
    clear c3
    obtain rfl := Option.some.inj H
    go_wp2
    go_ret
    exact ⟨by first | rfl | (simp;done) | (simp [*];done), by repeat (first | exact Drawn0.refl _ | apply Drawn0.step)⟩
   rw [if_pos c3] at H
   have c3b0 : decide (x5_1 < (l0.length : Int)) = true := decide_eq_true c3
   clear c3
   by_cases c4 : 0 ≤ x5_1
   rotate_left
   ·rw [if_neg c4] at H
    exact absurd H (by simp)
   rw [if_pos c4] at H
   have c4b0 : decide (0 ≤ x5_1) = true := decide_eq_true c4
   clear c4
   by_cases c5 : (rd l0 x5_1) = x1_1
   rotate_left
   ·rw [if_neg c5] at H
    have c5b0 : ((rd l0 x5_1) == x1_1) = false := beq_eq_false_iff_ne.mpr c5
    have c5b1 : ((rd l0 x5_1) != x1_1) = true := bne_iff_ne.mpr c5
    obtain rfl := Option.some.inj H
    have p101 : 0 ≤ (x5_1 : Int) := of_decide_eq_true (by first | (with_reducible assumption) | assumption)
    have q101 : x5_1 < (l0.length : Int) := of_decide_eq_true (by first | (with_reducible assumption) | assumption)
    obtain ⟨ad101, e101, hx101_0⟩ := Kd.at_int HR0.out x5_1 p101 q101
    cases e101
    replace p101 := eq_true p101
    replace q101 := eq_true q101
    go_wp2
    go_ret
    exact ⟨by first | rfl | (simp;done) | (simp [*];done), by repeat (first | exact Drawn0.refl _ | apply Drawn0.step)⟩
   rw [if_pos c5] at H
   have c5b0 : ((rd l0 x5_1) == x1_1) = true := beq_iff_eq.mpr c5
   have c5b1 : ((rd l0 x5_1) != x1_1) = false := bne_eq_false_iff_eq.mpr c5
   clear c5
   have H' := m0_ H
   clear H
   have p101 : 0 ≤ (x5_1 : Int) := of_decide_eq_true (by first | (with_reducible assumption) | assumption)
   have q101 : x5_1 < (l0.length : Int) := of_decide_eq_true (by first | (with_reducible assumption) | assumption)
   obtain ⟨ad101, e101, hx101_0⟩ := Kd.at_int HR0.out x5_1 p101 q101
   cases e101
   replace p101 := eq_true p101
   replace q101 := eq_true q101
   go_wp2
   go_roundg k1
   case measure => have := HK1.out;omega
   case rel => exact ⟨(wrap64 (x1_1 + 1)), (wrap64 (x5_1 + 1)), (by first | rfl | (simp;done) | (simp [*];done)), (by first | rfl | (simp;done) | (simp [*];done)), H', ⟨by have := HK1.out;omega⟩, by repeat (first | exact Drawn0.refl _ | apply Drawn0.step)⟩

mutual
def laws_szExS.l0 : Nat → List (S24) → Int → Int → Option (Int)
 | 0, _, _, _ => none
 | k + 1, x0, x1, x5 => if x5 < (x0.length : Int) then (if 0 ≤ x5 then ((laws_szEx.f k ((rd_T24 x0 x5).f0) ((rd_T24 x0 x5).f1) ((rd_T24 x0 x5).f2) ((rd_T24 x0 x5).f3) x1).bind fun t102 => (if t102 < 0 then (some (-1)) else (laws_szExS.l0 k x0 t102 (wrap64 (x5 + 1))))) else (none)) else (some x1)
def laws_szExS.f : Nat → List (S24) → Int → Option (Int)
 | 0, _, _ => none
 | k + 1, l0, a1 => if (wrap64 (a1 - (l0.length : Int))) < 0 then (some (-1)) else (laws_szExS.l0 k l0 (wrap64 (a1 - (l0.length : Int))) 0)
def laws_szEx.f : Nat → Int → Int → Int → List (S24) → Int → Option (Int)
 | 0, _, _, _, _, _ => none
 | k + 1, a0_0, a0_1, a0_2, l0_3, a1 => (laws_szExS.f k l0_3 a1).bind fun t104 => (if t104 < 0 then (some (-1)) else (some t104))
end
set_option maxHeartbeats 8000000 in
set_option maxRecDepth 100000 in
theorem laws_szExS.calls_step (k : Nat) (ih_24 : ∀ k_, k_ < k → ∀ (A0 : Option Addr) (c0 : Nat) (l0 : List (S24)) (a1 : Int) (r : Int) (w : World) (hr0 : Kd.C k24 w A0 l0.length l0) (hc0 : l0.length ≤ c0) (h : laws_szExS.f k_ l0 a1 = some r),
  Calls Try.prog 24 #[.slice A0 l0.length c0, .int .i64 a1] w fun e w' => e = .returned (.int .i64 r) ∧ Below w.heap.size w w') (ih_8 : ∀ k_, k_ < k → ∀ (a0_0 : Int) (a0_1 : Int) (a0_2 : Int) (A0_3 : Option Addr) (c0_3 : Nat) (l0_3 : List (S24)) (a1 : Int) (r : Int) (w : World) (hr0_3 : Kd.C k24 w A0_3 l0_3.length l0_3) (hc0_3 : l0_3.length ≤ c0_3) (h : laws_szEx.f k_ a0_0 a0_1 a0_2 l0_3 a1 = some r),
  Calls Try.prog 8 #[.agg #[.int .i64 a0_0, .int .i64 a0_1, .int .i64 a0_2, .slice A0_3 l0_3.length c0_3], .int .i64 a1] w fun e w' => e = .returned (.int .i64 r) ∧ Below w.heap.size w w') : ∀ (A0 : Option Addr) (c0 : Nat) (l0 : List (S24)) (a1 : Int) (r : Int) (w : World) (hr0 : Kd.C k24 w A0 l0.length l0) (hc0 : l0.length ≤ c0) (h : laws_szExS.f k l0 a1 = some r),
  Calls Try.prog 24 #[.slice A0 l0.length c0, .int .i64 a1] w fun e w' => e = .returned (.int .i64 r) ∧ Below w.heap.size w w' := by
 intro A0 c0 l0 a1 r w hr0 hc0 h
 cases k with
 | zero => exact absurd h (by simp [laws_szExS.f])
 | succ k =>
 simp only [laws_szExS.f] at h
 have hu24 := Try.underlying24
 have HR0 := m0_ hr0
 have HC0 := m0_ hc0
 clear hr0 hc0
 have HB := m0_ (Below.refl w.heap.size w)
 have H : (if (wrap64 (a1 - (l0.length : Int))) < 0 then (some (-1)) else (laws_szExS.l0 k l0 (wrap64 (a1 - (l0.length : Int))) 0)) = some r := h
 clear h
 by_cases c3 : (wrap64 (a1 - (l0.length : Int))) < 0
 ·rw [if_pos c3] at H
  have c3b0 : decide ((wrap64 (a1 - (l0.length : Int))) < 0) = true := decide_eq_true c3
  clear c3
  obtain rfl := Option.some.inj H
  go_enter Try.func24, Try.ntmps24
  go_wp2
  go_ret
  exact ⟨by first | rfl | (simp [errW_none, errW_some] <;> rfl) | (simp [*, errW_none, errW_some] <;> rfl), by repeat (first | (with_reducible first | exact HB.out | apply below_alloc | apply pw_below_drewN | apply below_drew1) | exact HB.out)⟩
 rw [if_neg c3] at H
 have c3b0 : decide ((wrap64 (a1 - (l0.length : Int))) < 0) = false := decide_eq_false c3
 clear c3
 have H' := m0_ H
 clear H
 go_enter Try.func24, Try.ntmps24
 go_wp2
 go_loopg [1, 5] k (fun kq v1 v5 w' => ∃ (x1_1 : Int) (x5_1 : Int), v1 = .int .i64 x1_1 ∧ v5 = .int .i64 x5_1 ∧ Aside0 (laws_szExS.l0 kq l0 x1_1 x5_1 = some r) ∧ Aside0 (kq ≤ k) ∧ Aside0 (Below w.heap.size w w'))
 case atStart => exact ⟨(wrap64 (a1 - (l0.length : Int))), (0), (by first | rfl | (simp;done) | (simp [*];done)), (by first | rfl | (simp;done) | (simp [*];done)), H', ⟨Nat.le_refl _⟩, ⟨by repeat (first | (with_reducible first | exact HB.out | apply below_alloc | apply pw_below_drewN | apply below_drew1) | exact HB.out)⟩⟩
 case round =>
  clear H'
  try clear c2
  try clear p2
  try clear c3
  try clear c3b0
  obtain ⟨x1_1, x5_1, rfl, rfl, HA, HK1, HB⟩ := hrel
  cases gk with
  | zero => exact absurd HA.out (by simp [laws_szExS.l0])
  | succ k1 =>
   have H := HA.out
   clear HA
   simp only [laws_szExS.l0] at H
   by_cases c4 : x5_1 < (l0.length : Int)
   rotate_left
   ·rw [if_neg c4] at H
    have c4b0 : decide (x5_1 < (l0.length : Int)) = false := decide_eq_false c4
    clear c4
    obtain rfl := Option.some.inj H
    go_wp2
    go_ret
    exact ⟨by first | rfl | (simp [errW_none, errW_some] <;> rfl) | (simp [*, errW_none, errW_some] <;> rfl), by repeat (first | (with_reducible first | exact HB.out | apply below_alloc | apply pw_below_drewN | apply below_drew1) | exact HB.out)⟩
   rw [if_pos c4] at H
   have c4b0 : decide (x5_1 < (l0.length : Int)) = true := decide_eq_true c4
   clear c4
   by_cases c5 : 0 ≤ x5_1
   rotate_left
   ·rw [if_neg c5] at H
    exact absurd H (by simp)
   rw [if_pos c5] at H
   have c5b0 : decide (0 ≤ x5_1) = true := decide_eq_true c5
   clear c5
   replace H := Option.bind_eq_some_iff.mp H
   obtain ⟨t102, A60, H⟩ := H
   replace H : (if t102 < 0 then (some (-1)) else (laws_szExS.l0 k1 l0 t102 (wrap64 (x5_1 + 1)))) = some r := H
   have A6 := m0_ A60
   clear A60
   by_cases c7 : t102 < 0
   ·rw [if_pos c7] at H
    have c7b0 : decide (t102 < 0) = true := decide_eq_true c7
    clear c7
    obtain rfl := Option.some.inj H
    have p101 : 0 ≤ (x5_1 : Int) := of_decide_eq_true (by first | (with_reducible assumption) | assumption)
    have q101 : x5_1 < (l0.length : Int) := of_decide_eq_true (by first | (with_reducible assumption) | assumption)
    obtain ⟨ad101, A101_3, c101_3, e101, hx101_0, hx101_1, hx101_2, hx101_3, hl101_3, hi101_3⟩ := at_T24 HR0.out x5_1 p101 q101
    cases e101
    replace hx101_0 := (HB.out.cell (World.block_lt_of_cell? w _ hx101_0)).trans hx101_0
    replace hx101_1 := (HB.out.cell (World.block_lt_of_cell? w _ hx101_1)).trans hx101_1
    replace hx101_2 := (HB.out.cell (World.block_lt_of_cell? w _ hx101_2)).trans hx101_2
    replace hx101_3 := (HB.out.cell (World.block_lt_of_cell? w _ hx101_3)).trans hx101_3
    have HR101_3 := m0_ hi101_3
    have HC101_3 := m0_ hl101_3
    clear hi101_3 hl101_3
    replace p101 := eq_true p101
    replace q101 := eq_true q101
    go_wp2_with (first | ((with_reducible refine gate_callee (f := 8) rfl ?_);refine goesL_ (some 23) rfl rfl Try.func8 (by kernel_rfl) rfl #[.agg #[.int .i64 ((rd_T24 l0 x5_1).f0), .int .i64 ((rd_T24 l0 x5_1).f1), .int .i64 ((rd_T24 l0 x5_1).f2), .slice A101_3 ((rd_T24 l0 x5_1).f3).length c101_3], .int .i64 x1_1] rfl (by (try simp only [List.map_toArray, List.map_cons, List.map_nil]);first | done | rfl | (simp only [List.length_drop, List.length_take];rfl)) ?_;(with_reducible refine (ih_8 k1 (by have := HK1.out;omega) ((rd_T24 l0 x5_1).f0) ((rd_T24 l0 x5_1).f1) ((rd_T24 l0 x5_1).f2) _ _ ((rd_T24 l0 x5_1).f3) x1_1 t102 _ ?side1 ?side2 A6.out).mono ?_);(case side1 => repeat (first | exact (Kd.C_below HR101_3.out HB.out) | (with_reducible refine Kd.C_alloc ?_ _) | (with_reducible refine Kd.C_drewN ?_ _) | (with_reducible refine Kd.C_drew ?_)));(case side2 => exact HC101_3.out);rintro e w8 ⟨rfl, hb⟩;refine ⟨_, rfl, ?_⟩;replace HB := m0_ (below_step (by exact HB.out) hb);(try clear hb);(try clear hb2);(try clear hk);(try clear hi)))
    go_ret
    exact ⟨by first | rfl | (simp [errW_none, errW_some] <;> rfl) | (simp [*, errW_none, errW_some] <;> rfl), by repeat (first | (with_reducible first | exact HB.out | apply below_alloc | apply pw_below_drewN | apply below_drew1) | exact HB.out)⟩
   rw [if_neg c7] at H
   have c7b0 : decide (t102 < 0) = false := decide_eq_false c7
   clear c7
   have H' := m0_ H
   clear H
   have p101 : 0 ≤ (x5_1 : Int) := of_decide_eq_true (by first | (with_reducible assumption) | assumption)
   have q101 : x5_1 < (l0.length : Int) := of_decide_eq_true (by first | (with_reducible assumption) | assumption)
   obtain ⟨ad101, A101_3, c101_3, e101, hx101_0, hx101_1, hx101_2, hx101_3, hl101_3, hi101_3⟩ := at_T24 HR0.out x5_1 p101 q101
   cases e101
   replace hx101_0 := (HB.out.cell (World.block_lt_of_cell? w _ hx101_0)).trans hx101_0
   replace hx101_1 := (HB.out.cell (World.block_lt_of_cell? w _ hx101_1)).trans hx101_1
   replace hx101_2 := (HB.out.cell (World.block_lt_of_cell? w _ hx101_2)).trans hx101_2
   replace hx101_3 := (HB.out.cell (World.block_lt_of_cell? w _ hx101_3)).trans hx101_3
   have HR101_3 := m0_ hi101_3
   have HC101_3 := m0_ hl101_3
   clear hi101_3 hl101_3
   replace p101 := eq_true p101
   replace q101 := eq_true q101
   go_wp2_with (first | ((with_reducible refine gate_callee (f := 8) rfl ?_);refine goesL_ (some 23) rfl rfl Try.func8 (by kernel_rfl) rfl #[.agg #[.int .i64 ((rd_T24 l0 x5_1).f0), .int .i64 ((rd_T24 l0 x5_1).f1), .int .i64 ((rd_T24 l0 x5_1).f2), .slice A101_3 ((rd_T24 l0 x5_1).f3).length c101_3], .int .i64 x1_1] rfl (by (try simp only [List.map_toArray, List.map_cons, List.map_nil]);first | done | rfl | (simp only [List.length_drop, List.length_take];rfl)) ?_;(with_reducible refine (ih_8 k1 (by have := HK1.out;omega) ((rd_T24 l0 x5_1).f0) ((rd_T24 l0 x5_1).f1) ((rd_T24 l0 x5_1).f2) _ _ ((rd_T24 l0 x5_1).f3) x1_1 t102 _ ?side1 ?side2 A6.out).mono ?_);(case side1 => repeat (first | exact (Kd.C_below HR101_3.out HB.out) | (with_reducible refine Kd.C_alloc ?_ _) | (with_reducible refine Kd.C_drewN ?_ _) | (with_reducible refine Kd.C_drew ?_)));(case side2 => exact HC101_3.out);rintro e w9 ⟨rfl, hb⟩;refine ⟨_, rfl, ?_⟩;replace HB := m0_ (below_step (by exact HB.out) hb);(try clear hb);(try clear hb2);(try clear hk);(try clear hi)))
   go_roundg k1
   case measure => have := HK1.out;omega
   case rel => exact ⟨(t102), (wrap64 (x5_1 + 1)), (by first | rfl | (simp;done) | (simp [*];done)), (by first | rfl | (simp;done) | (simp [*];done)), H', ⟨by have := HK1.out;omega⟩, ⟨by repeat (first | (with_reducible first | exact HB.out | apply below_alloc | apply pw_below_drewN | apply below_drew1) | exact HB.out)⟩⟩


set_option maxHeartbeats 8000000 in
set_option maxRecDepth 100000 in
theorem laws_szEx.calls_step (k : Nat) (ih_24 : ∀ k_, k_ < k → ∀ (A0 : Option Addr) (c0 : Nat) (l0 : List (S24)) (a1 : Int) (r : Int) (w : World) (hr0 : Kd.C k24 w A0 l0.length l0) (hc0 : l0.length ≤ c0) (h : laws_szExS.f k_ l0 a1 = some r),
  Calls Try.prog 24 #[.slice A0 l0.length c0, .int .i64 a1] w fun e w' => e = .returned (.int .i64 r) ∧ Below w.heap.size w w') (ih_8 : ∀ k_, k_ < k → ∀ (a0_0 : Int) (a0_1 : Int) (a0_2 : Int) (A0_3 : Option Addr) (c0_3 : Nat) (l0_3 : List (S24)) (a1 : Int) (r : Int) (w : World) (hr0_3 : Kd.C k24 w A0_3 l0_3.length l0_3) (hc0_3 : l0_3.length ≤ c0_3) (h : laws_szEx.f k_ a0_0 a0_1 a0_2 l0_3 a1 = some r),
  Calls Try.prog 8 #[.agg #[.int .i64 a0_0, .int .i64 a0_1, .int .i64 a0_2, .slice A0_3 l0_3.length c0_3], .int .i64 a1] w fun e w' => e = .returned (.int .i64 r) ∧ Below w.heap.size w w') : ∀ (a0_0 : Int) (a0_1 : Int) (a0_2 : Int) (A0_3 : Option Addr) (c0_3 : Nat) (l0_3 : List (S24)) (a1 : Int) (r : Int) (w : World) (hr0_3 : Kd.C k24 w A0_3 l0_3.length l0_3) (hc0_3 : l0_3.length ≤ c0_3) (h : laws_szEx.f k a0_0 a0_1 a0_2 l0_3 a1 = some r),
  Calls Try.prog 8 #[.agg #[.int .i64 a0_0, .int .i64 a0_1, .int .i64 a0_2, .slice A0_3 l0_3.length c0_3], .int .i64 a1] w fun e w' => e = .returned (.int .i64 r) ∧ Below w.heap.size w w' := by
 intro a0_0 a0_1 a0_2 A0_3 c0_3 l0_3 a1 r w hr0_3 hc0_3 h
 cases k with
 | zero => exact absurd h (by simp [laws_szEx.f])
 | succ k =>
 simp only [laws_szEx.f] at h
 have hu24 := Try.underlying24
 have HR0_3 := m0_ hr0_3
 have HC0_3 := m0_ hc0_3
 clear hr0_3 hc0_3
 have HB := m0_ (Below.refl w.heap.size w)
 have H : ((laws_szExS.f k l0_3 a1).bind fun t104 => (if t104 < 0 then (some (-1)) else (some t104))) = some r := h
 clear h
 replace H := Option.bind_eq_some_iff.mp H
 obtain ⟨t104, A30, H⟩ := H
 replace H : (if t104 < 0 then (some (-1)) else (some t104)) = some r := H
 have A3 := m0_ A30
 clear A30
 by_cases c4 : t104 < 0
 ·rw [if_pos c4] at H
  have c4b0 : decide (t104 < 0) = true := decide_eq_true c4
  clear c4
  obtain rfl := Option.some.inj H
  go_enter Try.func8, Try.ntmps8
  go_wp2_with (first | ((with_reducible refine gate_dst (N := 2) rfl ?_);refine box_event ?hg (N := 2) ?hd (cs := #[.int .i64 a0_0, .int .i64 a0_1, .int .i64 a0_2, .slice A0_3 l0_3.length c0_3]) (t := 24) ?hr ?_;(case hd => rfl);(case hg => rfl);(case hr => first | (go_simp;done) | (go_simp;rfl));intro gb103 hg w5 hbox hb;have BK103 := m0_ (hbox);have GW103 := m0_ ((by rw [hg];exact (below_size (by exact HB.out)) : w.heap.size ≤ gb103));have GE103 := m0_ ((by rw [hg];exact (below_size (by exact HB.out)) : w.heap.size ≤ gb103));replace HB := m0_ (below_step (by exact HB.out) hb);clear hb hbox hg;obtain ⟨hcz6_0, hcz6_1, hcz6_2, hcz6_3, hfz6_0, hfz6_1, hfz6_2, hfz6_3⟩ := bx4 BK103.out) | ((with_reducible refine gate_callee (f := 24) rfl ?_);refine goesL_ (some 8) rfl rfl Try.func24 (by kernel_rfl) rfl #[.slice A0_3 l0_3.length c0_3, .int .i64 a1] rfl (by (try simp only [List.map_toArray, List.map_cons, List.map_nil]);first | done | rfl | (simp only [List.length_drop, List.length_take];rfl)) ?_;(with_reducible refine (ih_24 k (by omega) _ _ l0_3 a1 t104 _ ?side1 ?side2 A3.out).mono ?_);(case side1 => repeat (first | exact (Kd.C_below HR0_3.out HB.out) | (with_reducible refine Kd.C_alloc ?_ _) | (with_reducible refine Kd.C_drewN ?_ _) | (with_reducible refine Kd.C_drew ?_)));(case side2 => exact HC0_3.out);rintro e w7 ⟨rfl, hb⟩;refine ⟨_, rfl, ?_⟩;replace BK103 := m0_ (blk_below BK103.out hb);replace HB := m0_ (below_step (by exact HB.out) hb);(try clear hb);(try clear hb2);(try clear hk);(try clear hi)))
  go_ret
  exact ⟨by first | rfl | (simp [errW_none, errW_some] <;> rfl) | (simp [*, errW_none, errW_some] <;> rfl), by repeat (first | (with_reducible first | exact HB.out | apply below_alloc | apply pw_below_drewN | apply below_drew1 | refine below_set ?_ GE103.out) | exact HB.out)⟩
 ·rw [if_neg c4] at H
  have c4b0 : decide (t104 < 0) = false := decide_eq_false c4
  clear c4
  obtain rfl := Option.some.inj H
  go_enter Try.func8, Try.ntmps8
  go_wp2_with (first | ((with_reducible refine gate_dst (N := 2) rfl ?_);refine box_event ?hg (N := 2) ?hd (cs := #[.int .i64 a0_0, .int .i64 a0_1, .int .i64 a0_2, .slice A0_3 l0_3.length c0_3]) (t := 24) ?hr ?_;(case hd => rfl);(case hg => rfl);(case hr => first | (go_simp;done) | (go_simp;rfl));intro gb103 hg w8 hbox hb;have BK103 := m0_ (hbox);have GW103 := m0_ ((by rw [hg];exact (below_size (by exact HB.out)) : w.heap.size ≤ gb103));have GE103 := m0_ ((by rw [hg];exact (below_size (by exact HB.out)) : w.heap.size ≤ gb103));replace HB := m0_ (below_step (by exact HB.out) hb);clear hb hbox hg;obtain ⟨hcz9_0, hcz9_1, hcz9_2, hcz9_3, hfz9_0, hfz9_1, hfz9_2, hfz9_3⟩ := bx4 BK103.out) | ((with_reducible refine gate_callee (f := 24) rfl ?_);refine goesL_ (some 8) rfl rfl Try.func24 (by kernel_rfl) rfl #[.slice A0_3 l0_3.length c0_3, .int .i64 a1] rfl (by (try simp only [List.map_toArray, List.map_cons, List.map_nil]);first | done | rfl | (simp only [List.length_drop, List.length_take];rfl)) ?_;(with_reducible refine (ih_24 k (by omega) _ _ l0_3 a1 t104 _ ?side1 ?side2 A3.out).mono ?_);(case side1 => repeat (first | exact (Kd.C_below HR0_3.out HB.out) | (with_reducible refine Kd.C_alloc ?_ _) | (with_reducible refine Kd.C_drewN ?_ _) | (with_reducible refine Kd.C_drew ?_)));(case side2 => exact HC0_3.out);rintro e w10 ⟨rfl, hb⟩;refine ⟨_, rfl, ?_⟩;replace BK103 := m0_ (blk_below BK103.out hb);replace HB := m0_ (below_step (by exact HB.out) hb);(try clear hb);(try clear hb2);(try clear hk);(try clear hi)))
  go_ret
  exact ⟨by first | rfl | (simp [errW_none, errW_some] <;> rfl) | (simp [*, errW_none, errW_some] <;> rfl), by repeat (first | (with_reducible first | exact HB.out | apply below_alloc | apply pw_below_drewN | apply below_drew1 | refine below_set ?_ GE103.out) | exact HB.out)⟩

theorem laws_szExS.calls_all (k : Nat) : (∀ (A0 : Option Addr) (c0 : Nat) (l0 : List (S24)) (a1 : Int) (r : Int) (w : World) (hr0 : Kd.C k24 w A0 l0.length l0) (hc0 : l0.length ≤ c0) (h : laws_szExS.f k l0 a1 = some r),
  Calls Try.prog 24 #[.slice A0 l0.length c0, .int .i64 a1] w fun e w' => e = .returned (.int .i64 r) ∧ Below w.heap.size w w') ∧ (∀ (a0_0 : Int) (a0_1 : Int) (a0_2 : Int) (A0_3 : Option Addr) (c0_3 : Nat) (l0_3 : List (S24)) (a1 : Int) (r : Int) (w : World) (hr0_3 : Kd.C k24 w A0_3 l0_3.length l0_3) (hc0_3 : l0_3.length ≤ c0_3) (h : laws_szEx.f k a0_0 a0_1 a0_2 l0_3 a1 = some r),
  Calls Try.prog 8 #[.agg #[.int .i64 a0_0, .int .i64 a0_1, .int .i64 a0_2, .slice A0_3 l0_3.length c0_3], .int .i64 a1] w fun e w' => e = .returned (.int .i64 r) ∧ Below w.heap.size w w') := by
 induction k using Nat.strongRecOn with
 | _ k ih =>
 exact ⟨laws_szExS.calls_step k (fun k_ h_ => (ih k_ h_).1) (fun k_ h_ => (ih k_ h_).2), laws_szEx.calls_step k (fun k_ h_ => (ih k_ h_).1) (fun k_ h_ => (ih k_ h_).2)⟩
theorem laws_szEx.calls (k : Nat) : ∀ (a0_0 : Int) (a0_1 : Int) (a0_2 : Int) (A0_3 : Option Addr) (c0_3 : Nat) (l0_3 : List (S24)) (a1 : Int) (r : Int) (w : World) (hr0_3 : Kd.C k24 w A0_3 l0_3.length l0_3) (hc0_3 : l0_3.length ≤ c0_3) (h : laws_szEx.f k a0_0 a0_1 a0_2 l0_3 a1 = some r),
  Calls Try.prog 8 #[.agg #[.int .i64 a0_0, .int .i64 a0_1, .int .i64 a0_2, .slice A0_3 l0_3.length c0_3], .int .i64 a1] w fun e w' => e = .returned (.int .i64 r) ∧ Below w.heap.size w w' := (laws_szExS.calls_all k).2

end Go.Proofs.Ytbcdfbiggjfmlaa.M
namespace Go.Proofs.Ytbcdfbiggjfmlaa.M
set_option linter.unusedVariables false
set_option linter.unusedSimpArgs false
open Go Go.RowKit Go.Proofs.YtbcdfbiggjfmlaaW.PrintWords Go.Proofs.YtbcdfbiggjfmlaaW.PrintLast Go.Proofs.YtbcdfbiggjfmlaaW.PrintMore

set_option maxHeartbeats 4000000 in
set_option maxRecDepth 100000 in
theorem markExS_walk : ∀ (k : Nat) (xs : List S29) (a r : Int) (n : Nat) (P : Nat → Prop) (v : Value) (w0 w : World), marksE k xs a = some r → ShRow w P n v xs → Below w0.heap.size w0 w → (∀ q, P q → w0.heap.size ≤ q) →
    Calls Try.prog 36 #[v, .int .i64 a] w fun e w' => e = .returned (.int .i64 r) ∧ Numb P w w' ∧ Below w0.heap.size w0 w' := by
  intro k
  induction k using Nat.strongRecOn with
  | ind k ih =>
  intro xs a r n P v w0 w hk hs hB hP
  obtain ⟨A, c, rfl, hl⟩ := hs.slice
  have HI := m0_ ih
  have HK := m0_ (show marksE k (xs.drop (0 : Int).toNat) a = some r from hk)
  have HS := m0_ hs
  have HM := m0_ (Numb.refl P w)
  have HB := m0_ hB
  have HP := m0_ hP
  have HX := m0_ hl
  have hu_ := Try.underlying29
  clear ih hk hs hB hP hl
  go_enter Try.func36, Try.ntmps36
  go_wp2
  go_loopg [1, 5] k (fun kq v1 v5 w' => ∃ (x1 : Int) (x5 : Int), v1 = .int .i64 x1 ∧ v5 = .int .i64 x5 ∧ Aside0 (marksE kq (xs.drop x5.toNat) x1 = some r) ∧ Aside0 (0 ≤ x5 ∧ x5.toNat ≤ xs.length) ∧ Aside0 (kq ≤ k) ∧ Aside0 (ShRow w' P n (.slice A xs.length c) xs) ∧ Aside0 (Numb P w w') ∧ Aside0 (Below w0.heap.size w0 w'))
  case atStart => exact ⟨a, 0, rfl, rfl, HK, ⟨Int.le_refl _, Nat.zero_le _⟩, ⟨Nat.le_refl _⟩, HS, HM, HB⟩
  case round =>
    clear HS HM HB HK
    obtain ⟨x1, x5, rfl, rfl, HA, H5, HK1, HS, HM, HB⟩ := hrel
    cases gk with
    | zero => exact absurd HA.out (by simp [marksE])
    | succ k1 =>
      have H := HA.out
      clear HA
      by_cases c1 : x5 < (xs.length : Int)
      rotate_left
      · have hd : xs.drop x5.toNat = [] := List.drop_of_length_le (by omega)
        rw [hd] at H
        unfold marksE at H
        obtain rfl := Option.some.inj H
        have c1b : decide (x5 < (xs.length : Int)) = false := decide_eq_false c1
        go_wp2
        go_ret
        exact ⟨rfl, HM.out, HB.out⟩
      have c2 : 0 ≤ x5 := H5.out.1
      have hlt : x5.toNat < xs.length := by omega
      have HL := m0_ hlt
      have ed : xs.drop x5.toNat = xs.getD x5.toNat z29 :: xs.drop (x5.toNat + 1) := by rw [List.drop_eq_getElem_cons hlt, List.getD_eq_getElem?_getD, List.getElem?_eq_getElem hlt]; rfl
      rw [ed] at H
      clear ed
      unfold marksE at H
      obtain ⟨y, hy⟩ : ∃ y, xs.getD x5.toNat z29 = y := ⟨_, rfl⟩
      rw [hy] at H
      have HY := m0_ hy
      clear hy
      obtain ⟨b, hb, H⟩ := Option.bind_eq_some_iff.1 H
      have HC := m0_ hb
      have HN := m0_ H
      clear H hb
      obtain ⟨go, m_, cells_, a_, b_, d_, v_, eA_, hp_, hg_, h0_, h1_, h2_, h3_, hr_⟩ := ShRow.at HS.out x5.toNat hlt
      subst eA_
      clear hp_ hg_ h0_ h1_ h2_ h3_ hr_ hlt
      have c1b : decide (x5 < (xs.length : Int)) = true := decide_eq_true c1
      have p5 := eq_true c2
      have q5 := eq_true c1
      go_wp2_with (first | ((with_reducible refine gate_store (t := 3) (p := 16) rfl ?_); obtain ⟨g_, m_, cells_, a_, b_, d_, v_, eA_, hp_, hg_, h0_, h1_, h2_, h3_, hr_⟩ := ShRow.at HS.out x5.toNat (by have := HL.out; omega); injection eA_ with eA_; injection eA_ with eA_; subst eA_; refine store_one (w0 := w0) (base := w0.heap.size) (e := 29) (g := go) (off := x5.toNat * 4) (cur := cells_) (u := .int .i64 x1) rfl rfl rfl rfl rfl hg_ rfl (by kernel_rfl) rfl (Array.getElem?_eq_some_iff.1 h0_).1 HB.out (HP.out go hp_) ?_; intro w16 hs_ hk_ hB_; have hm_ := Numb.store hp_ hg_ h0_ hs_ hk_; have n0_ := m0_ (HM.out.trans hm_); have n1_ := m0_ (ShRow.numb hm_ _ _ _ HS.out); have n2_ := m0_ hB_; clear HM HS HB hs_ hk_ hB_ hm_ hp_ hg_ h0_ h1_ h2_ h3_ hr_; have HM := n0_; have HS := n1_; have HB := n2_; clear n0_ n1_ n2_) | ((with_reducible refine gate_store (t := 3) (p := 23) rfl ?_); obtain ⟨g_, m_, cells_, a_, b_, d_, v_, eA_, hp_, hg_, h0_, h1_, h2_, h3_, hr_⟩ := ShRow.at HS.out x5.toNat (by have := HL.out; omega); injection eA_ with eA_; injection eA_ with eA_; subst eA_; refine store_one (w0 := w0) (base := w0.heap.size) (e := 29) (g := go) (off := x5.toNat * 4 + 1) (cur := cells_) (u := .int .i64 (wrap64 (x1 + 1))) rfl rfl rfl rfl rfl hg_ rfl (by kernel_rfl) rfl (Array.getElem?_eq_some_iff.1 h1_).1 HB.out (HP.out go hp_) ?_; intro w23 hs_ hk_ hB_; have hm_ := Numb.store hp_ hg_ h1_ hs_ hk_; have n0_ := m0_ (HM.out.trans hm_); have n1_ := m0_ (ShRow.numb hm_ _ _ _ HS.out); have n2_ := m0_ hB_; clear HM HS HB hs_ hk_ hB_ hm_ hp_ hg_ h0_ h1_ h2_ h3_ hr_; have HM := n0_; have HS := n1_; have HB := n2_; clear n0_ n1_ n2_) | ((with_reducible refine gate_store (t := 3) (p := 30) rfl ?_); obtain ⟨g_, m_, cells_, a_, b_, d_, v_, eA_, hp_, hg_, h0_, h1_, h2_, h3_, hr_⟩ := ShRow.at HS.out x5.toNat (by have := HL.out; omega); injection eA_ with eA_; injection eA_ with eA_; subst eA_; refine store_one (w0 := w0) (base := w0.heap.size) (e := 29) (g := go) (off := x5.toNat * 4 + 2) (cur := cells_) (u := .int .i64 (wrap64 (wrap64 (x1 + 1) + 1))) rfl rfl rfl rfl rfl hg_ rfl (by kernel_rfl) rfl (Array.getElem?_eq_some_iff.1 h2_).1 HB.out (HP.out go hp_) ?_; intro w30 hs_ hk_ hB_; have hm_ := Numb.store hp_ hg_ h2_ hs_ hk_; have n0_ := m0_ (HM.out.trans hm_); have n1_ := m0_ (ShRow.numb hm_ _ _ _ HS.out); have n2_ := m0_ hB_; clear HM HS HB hs_ hk_ hB_ hm_ hp_ hg_ h0_ h1_ h2_ h3_ hr_; have HM := n0_; have HS := n1_; have HB := n2_; clear n0_ n1_ n2_; obtain ⟨g2_, m2_, cells2_, a2_, b2_, d2_, v2_, eA2_, hp2_, hg2_, h02_, h12_, h22_, h32_, hr2_⟩ := ShRow.at HS.out x5.toNat (by have := HL.out; omega); rw [HY.out] at hr2_; injection eA2_ with eA2_; injection eA2_ with eA2_; subst eA2_; obtain ⟨Ak_, ck_, ek_, lk_⟩ := hr2_.slice; subst ek_; have hcell_ : w30.cell? ⟨go, x5.toNat * 4 + 3, none⟩ = some _ := (blk_cell hg2_ _).trans h32_; have HR := m0_ hr2_; clear hp2_ hg2_ h02_ h12_ h22_ h32_ hr2_) | ((with_reducible refine gate_callee (f := 36) rfl ?_); refine goesL_ (some 39) rfl rfl Try.func36 (by kernel_rfl) rfl #[.slice Ak_ y.f3.length ck_, .int .i64 (wrap64 (wrap64 (wrap64 (x1 + 1) + 1) + 1))] rfl (by (try simp only [List.map_toArray, List.map_cons, List.map_nil]); first | done | rfl) ?_; refine (HI.out k1 (by have := HK1.out; omega) _ _ b _ P _ w0 _ HC.out HR.out HB.out HP.out).mono ?_; rintro e w10 ⟨rfl, hm, hb⟩; refine ⟨_, rfl, ?_⟩; have n0_ := m0_ (HM.out.trans hm); have n1_ := m0_ (ShRow.numb hm _ _ _ HS.out); have n2_ := m0_ hb; clear HM HS HB hm hb HR hcell_))
      go_roundg k1
      case measure => have := HK1.out; omega
      case rel =>
        have hw : wrap64 (x5 + 1) = x5 + 1 := by have := HX.out; have hx := HL.out; unfold maxLen at this; unfold wrap64; omega
        have e5 : (x5 + 1).toNat = x5.toNat + 1 := by omega
        refine ⟨_, _, rfl, rfl, ?_, ?_, ⟨by have := HK1.out; omega⟩, n1_, n0_, n2_⟩
        · rw [hw, e5]; exact HN
        · rw [hw, e5]; exact ⟨by omega, HL.out⟩
theorem markEx_walk (k : Nat) (f0 f1 f2 : Int) (xs : List S29) (a r : Int) (n : Nat) (P : Nat → Prop) (v : Value) (w0 w : World) (hk : marksE k xs a = some r) (hs : ShRow w P n v xs) (hB : Below w0.heap.size w0 w) (hP : ∀ q, P q → w0.heap.size ≤ q) :
    Calls Try.prog 20 #[.agg #[.int .i64 f0, .int .i64 f1, .int .i64 f2, v], .int .i64 a] w fun e w' => e = .returned (.int .i64 r) ∧ Numb P w w' ∧ Below w0.heap.size w0 w' := by
  obtain ⟨A, c, rfl, hl⟩ := hs.slice
  have HK := m0_ hk
  have HS := m0_ hs
  have HB := m0_ hB
  have HP := m0_ hP
  clear hk hs hB hP hl
  go_enter Try.func20, Try.ntmps20
  go_wp2_with (first | ((with_reducible refine gate_dst (N := 2) rfl ?_); refine box_event ?hg (N := 2) ?hd (cs := #[.int .i64 f0, .int .i64 f1, .int .i64 f2, .slice A xs.length c]) (t := 29) ?hr ?_; (case hd => rfl); (case hg => rfl); (case hr => first | (go_simp; done) | (go_simp; rfl)); intro gb2 hg wb2 hbox hb; have hm_ := Numb.of_below (P := P) hb; have n0_ := m0_ hm_; have n1_ := m0_ (ShRow.numb hm_ _ _ _ HS.out); have n2_ := m0_ (below_step HB.out hb); clear HS HB; have HM := n0_; have HS := n1_; have HB := n2_; have hz3_ := (blk_cell hbox 3).trans (show _ = some (Value.slice A xs.length c) from rfl); clear n0_ n1_ n2_ hm_ hg hb) | (go_at_call 36; fail))
  refine (markExS_walk k xs a r n P _ w0 _ HK.out HS.out HB.out HP.out).mono ?_
  rintro e w10 ⟨rfl, hm, hb⟩
  have n0_ := m0_ hm
  have n2_ := m0_ hb
  go_wp2
  go_ret
  exact ⟨rfl, HM.out.trans n0_.out, n2_.out⟩
end Go.Proofs.Ytbcdfbiggjfmlaa.M
namespace Go.Proofs.Ytbcdfbiggjfmlaa.M
open Go.RowKit Go.Proofs.YtbcdfbiggjfmlaaW.PrintWords Go.Proofs.YtbcdfbiggjfmlaaW.PrintLast Go.Proofs.YtbcdfbiggjfmlaaW.PrintMore
attribute [local go_sem] max2_int min2_int max_two min_two max_three min_three max_four min_four
set_option linter.unusedVariables false
set_option linter.unusedSimpArgs false

def laws_FnExactExSyms.f (k : Nat) (a0 a1 a2 : Int) (l : List S24) : Option Bool := (laws_szEx.f k a0 a1 a2 l 1048576).bind fun t => if t < 0 then some true else (laws_toEx.f k a0 a1 a2 l).bind fun x => (spec_ExSyms.f k x.1 x.2.1 x.2.2.1 x.2.2.2).bind fun v => (impl_ExSyms.f k x.1 x.2.1 x.2.2.1 x.2.2.2).bind fun g => (laws_eqIntS.f k g v).bind fun e1 => (laws_eqEx.f k x.1 x.2.1 x.2.2.1 x.2.2.2 x.1 x.2.1 x.2.2.1 x.2.2.2).bind fun e2 =>
 (marksE k x.2.2.2 1).bind fun p1 => (laws_markIntS.f k g 1).bind fun m => (laws_heldIntS.f k m.2 1).bind fun q => if (e1 = true ∧ e2 = true) ∧ (0 ≤ p1 ∧ 0 ≤ q ∧ q = m.1) then some true else none
def laws_FnExactExSyms.T10 : Bool × List (List Nat × List Nat) := (true, [([], []), ([], []), ([1], [1]), ([0, 2, 2], [0, 2]), ([3], [3])])
def laws_FnExactExSyms.B10 : List Nat := [0, 0, 2, 7, 15]
theorem laws_FnExactExSyms.tab10 : rtab .any (opsOf Try.f6 10) = laws_FnExactExSyms.T10 := by kernel_rfl
theorem laws_FnExactExSyms.bits10 : waitsOk laws_FnExactExSyms.T10.2 laws_FnExactExSyms.B10 = true := by kernel_rfl
set_option maxHeartbeats 4000000 in
set_option maxRecDepth 100000 in
theorem laws_FnExactExSyms.calls (k : Nat) (a0 : Int) (a1 : Int) (a2 : Int) (A : Option Addr) (c : Nat) (l : List (S24)) (r : Bool) (hT_ : Aside0 (r = true)) (w : World) (hr0 : Kd.C k24 w A l.length l) (hc0 : l.length ≤ c) (h : laws_FnExactExSyms.f k a0 a1 a2 l = some r) :
  Calls Try.prog 6 #[.agg #[.int .i64 a0, .int .i64 a1, .int .i64 a2, .slice A l.length c]] w fun e w' => e = .returned (.bool r) ∧ Below w.heap.size w w' := by
 obtain rfl := hT_.out
 unfold laws_FnExactExSyms.f at h
 obtain ⟨t, ht, h_⟩ := Option.bind_eq_some_iff.1 h
 have HT1 := m0_ ht
 have HRA := m0_ hr0
 have HCA := m0_ hc0
 have HH := m0_ h_
 have HB := m0_ (Below.refl w.heap.size w)
 have hu1_ := Try.underlying29
 have hu2_ := Try.underlying24
 clear ht hr0 hc0 h h_
 go_enter Try.func6, Try.ntmps6
 go_wp2_with (first | ((with_reducible refine gate_dst (N := 1) rfl ?_);refine box_event ?hg (N := 1) ?hd (cs := #[.int .i64 a0, .int .i64 a1, .int .i64 a2, .slice A l.length c]) (t := 24) ?hr ?_;(case hd => rfl);(case hg => rfl);(case hr => first | (go_simp;done) | (go_simp;rfl));intro gb1 hg wb1 hbox hb;have G1 := m0_ (show w.heap.size ≤ gb1 from by rw [hg];exact Nat.le_refl _);have L1 := m0_ (blk_lt hbox);have Zwb1 := m0_ (show w.heap.size ≤ wb1.heap.size from hb.size);replace HB := m0_ (below_step HB.out hb);have BK1 := m0_ hbox;clear hg hbox hb;have hz1_0 := (blk_cell BK1.out 0).trans (show _ = some (Value.int .i64 a0) from rfl);have hz1_1 := (blk_cell BK1.out 1).trans (show _ = some (Value.int .i64 a1) from rfl);have hz1_2 := (blk_cell BK1.out 2).trans (show _ = some (Value.int .i64 a2) from rfl);have hz1_3 := (blk_cell BK1.out 3).trans (show _ = some (Value.slice A l.length c) from rfl)) | (go_at_call 8;fail))
 clear hz1_0 hz1_1 hz1_2 hz1_3
 refine (laws_szEx.calls k a0 a1 a2 _ _ l 1048576 t _ ?s1 ?s2 HT1.out).mono ?_
 (case s1 => exact Kd.C_below HRA.out HB.out)
 (case s2 => exact HCA.out)
 rintro e w1 ⟨rfl, hb⟩
 have Zw1 := m0_ (show wb1.heap.size ≤ w1.heap.size from hb.size)
 replace BK1 := m0_ (blk_below BK1.out hb);replace HB := m0_ (below_step HB.out hb)
 clear hb
 by_cases c1_ : t < 0
 ·have c1b : decide (t < 0) = true := decide_eq_true c1_
  go_wp2
  go_ret
  exact ⟨rfl, HB.out⟩
 have c1b : decide (t < 0) = false := decide_eq_false c1_
 have h := HH.out
 rw [if_neg c1_] at h
 obtain ⟨⟨x0, x1, x2, xs⟩, hx, h_⟩ := Option.bind_eq_some_iff.1 h
 clear h
 have h := h_
 clear h_
 have TA := m0_ hx
 clear hx
 obtain ⟨v1, hx, h_⟩ := Option.bind_eq_some_iff.1 h
 clear h
 have h := h_
 clear h_
 have TV := m0_ hx
 clear hx
 obtain ⟨g1, hx, h_⟩ := Option.bind_eq_some_iff.1 h
 clear h
 have h := h_
 clear h_
 have TG := m0_ hx
 clear hx
 obtain ⟨e1, hx, h_⟩ := Option.bind_eq_some_iff.1 h
 clear h
 have h := h_
 clear h_
 have E1 := m0_ hx
 clear hx
 obtain ⟨e2, hx, h_⟩ := Option.bind_eq_some_iff.1 h
 clear h
 have h := h_
 clear h_
 have E2 := m0_ hx
 clear hx
 obtain ⟨p1, hx, h_⟩ := Option.bind_eq_some_iff.1 h
 clear h
 have h := h_
 clear h_
 have MP := m0_ hx
 clear hx
 obtain ⟨⟨p2, y2⟩, hx, h_⟩ := Option.bind_eq_some_iff.1 h
 clear h
 have h := h_
 clear h_
 have M2 := m0_ hx
 clear hx
 obtain ⟨q, hx, h_⟩ := Option.bind_eq_some_iff.1 h
 clear h
 have h := h_
 clear h_
 have TQ := m0_ hx
 clear hx
 have h2 := Decidable.byContradiction (fun c => by rw [if_neg c] at h;cases h) (p := (e1 = true ∧ e2 = true) ∧ (0 ≤ p1 ∧ 0 ≤ q ∧ q = p2))
 obtain ⟨⟨rfl, rfl⟩, y1_, y2_, y3_⟩ := h2
 subst y3_
 have d1 : decide (p1 < 0) = false := decide_eq_false (by omega)
 have d2 : decide (q < 0) = false := decide_eq_false (by omega)
 have d3 : (q != q) = false := bne_self_eq_false q
 clear h HH y1_ y2_ c1_ HT1
 have hz1_0 := (blk_cell BK1.out 0).trans (show _ = some (Value.int .i64 a0) from rfl);have hz1_1 := (blk_cell BK1.out 1).trans (show _ = some (Value.int .i64 a1) from rfl);have hz1_2 := (blk_cell BK1.out 2).trans (show _ = some (Value.int .i64 a2) from rfl);have hz1_3 := (blk_cell BK1.out 3).trans (show _ = some (Value.slice A l.length c) from rfl)
 go_wp2_with (go_at_call 10;fail)
 clear hz1_0 hz1_1 hz1_2 hz1_3
 refine (laws_toEx.calls k a0 a1 a2 _ _ l x0 x1 x2 xs _ ?s1 ?s2 TA.out).mono ?_
 (case s1 => exact Kd.C_below HRA.out HB.out)
 (case s2 => exact HCA.out)
 rintro e w2 ⟨v_, rfl, hs, hb⟩
 have Zw2 := m0_ (show w1.heap.size ≤ w2.heap.size from hb.size)
 have hs_ := Kd.R_mono (ok' := fun k_ => w1.heap.size ≤ k_ ∧ k_ < w2.heap.size) (Kd.R_lower (Kd.R_bound hs) (below_size HB.out)) (fun k_ hk => ⟨hk.2.1, hk.2.2.1⟩)
 obtain ⟨AS, cS, rfl⟩ := Kd.R_slice hs_
 have NS_ := m0_ hs_
 clear hs_ hs
 replace BK1 := m0_ (blk_below BK1.out hb);replace HB := m0_ (below_step HB.out hb)
 clear hb
 have FS := NS_;clear NS_
 go_wp2_with (go_at_call 17;fail)
 refine (spec_ExSyms.calls k x0 x1 x2 _ _ xs v1 _ ?s1 ?s2 TV.out).mono ?_
 (case s1 => exact (Kd.R_reads' FS.out).2.2)
 (case s2 => exact (Kd.R_reads' FS.out).2.1)
 rintro e w3 ⟨v_, rfl, hs, hb⟩
 have Zw3 := m0_ (show w2.heap.size ≤ w3.heap.size from hb.size)
 have hs_ := Kd.R_mono (ok' := fun k_ => w2.heap.size ≤ k_ ∧ k_ < w3.heap.size) (Kd.R_lower (Kd.R_bound hs) (below_size HB.out)) (fun k_ hk => ⟨hk.2.1, hk.2.2.1⟩)
 obtain ⟨AV, cV, rfl⟩ := Kd.R_slice hs_
 have NV_ := m0_ hs_
 clear hs_ hs
 replace FS := m0_ (Kd.R_below FS.out hb);replace BK1 := m0_ (blk_below BK1.out hb);replace HB := m0_ (below_step HB.out hb)
 clear hb
 have FV := NV_;clear NV_
 clear FS
 have hz1_0 := (blk_cell BK1.out 0).trans (show _ = some (Value.int .i64 a0) from rfl);have hz1_1 := (blk_cell BK1.out 1).trans (show _ = some (Value.int .i64 a1) from rfl);have hz1_2 := (blk_cell BK1.out 2).trans (show _ = some (Value.int .i64 a2) from rfl);have hz1_3 := (blk_cell BK1.out 3).trans (show _ = some (Value.slice A l.length c) from rfl)
 go_wp2_with (first | ((with_reducible refine gate_callee (f := 10) rfl ?_);refine goesL_ (some 20) rfl rfl Try.func10 (by kernel_rfl) rfl #[.agg #[.int .i64 a0, .int .i64 a1, .int .i64 a2, .slice A l.length c]] rfl (by (try simp only [List.map_toArray, List.map_cons, List.map_nil]);first | done | rfl) ?_;(with_reducible refine (laws_toEx.calls k a0 a1 a2 _ _ l x0 x1 x2 xs _ ?s1 ?s2 TA.out).mono ?_);(case s1 => exact Kd.C_below HRA.out HB.out);(case s2 => exact HCA.out);rintro e w4 ⟨v_, rfl, hs, hb⟩;refine ⟨_, rfl, ?_⟩;clear hz1_0 hz1_1 hz1_2 hz1_3;have Zw4 := m0_ (show w3.heap.size ≤ w4.heap.size from hb.size);have hs_ := Kd.R_mono (ok' := fun k_ => w3.heap.size ≤ k_ ∧ k_ < w4.heap.size) (Kd.R_lower (Kd.R_bound hs) (below_size HB.out)) (fun k_ hk => ⟨hk.2.1, hk.2.2.1⟩);obtain ⟨AX, cX, rfl⟩ := Kd.R_slice hs_;have NX_ := m0_ hs_;clear hs_ hs;replace FV := m0_ (Kd.R_below FV.out hb);replace BK1 := m0_ (blk_below BK1.out hb);replace HB := m0_ (below_step HB.out hb);clear hb;have FX := NX_;clear NX_) | ((with_reducible refine gate_dst (N := 5) rfl ?_);refine box_event ?hg (N := 5) ?hd (cs := #[.int .i64 0, .int .i64 0, .int .i64 0, .slice none 0 0]) (t := 29) ?hr ?_;(case hd => rfl);(case hg => rfl);(case hr => first | (go_simp;done) | (go_simp;rfl));intro gb5 hg wb5 hbox hb;have G5 := m0_ (show w4.heap.size ≤ gb5 from by rw [hg];exact Nat.le_refl _);have L5 := m0_ (blk_lt hbox);have Zwb5 := m0_ (show w4.heap.size ≤ wb5.heap.size from hb.size);replace FV := m0_ (Kd.R_below FV.out hb);replace FX := m0_ (Kd.R_below FX.out hb);replace BK1 := m0_ (blk_below BK1.out hb);replace HB := m0_ (below_step HB.out hb);have BK5 := m0_ hbox;clear hg hbox hb) | ((with_reducible refine gate_store (t := 29) (p := 5) (v := .tmp 20) rfl ?_);refine store_blk (w0 := w) (base := w.heap.size) (e := 29) (g := gb5) (off := 0) (cur := #[.int .i64 0, .int .i64 0, .int .i64 0, .slice none 0 0]) (cur' := #[.int .i64 x0, .int .i64 x1, .int .i64 x2, .slice AX xs.length cX]) (u := .agg #[.int .i64 x0, .int .i64 x1, .int .i64 x2, .slice AX xs.length cX]) (seg := [.int .i64 x0, .int .i64 x1, .int .i64 x2, .slice AX xs.length cX]) rfl rfl rfl rfl rfl BK5.out rfl ?ht ?h1 (by simp) rfl HB.out (by have z_wb1 := Zwb1.out;have z_w1 := Zw1.out;have z_w2 := Zw2.out;have z_w3 := Zw3.out;have z_w4 := Zw4.out;have z_wb5 := Zwb5.out;have g_1 := G1.out;have l_1 := L1.out;have g_5 := G5.out;have l_5 := L5.out;have b_ := below_size HB.out;omega) ?_;(case ht => kernel_rfl);(case h1 => intro q hq;simp only [List.mem_cons, List.not_mem_nil, or_false] at hq;rcases hq with rfl | rfl | rfl | rfl <;> rfl);intro ws5 hs_ hk_ hB_;replace BK5 := m0_ (hs_);replace HB := m0_ (hB_);replace FV := m0_ (Kd.R_keep FV.out hk_ (fun k_ h1 => by have z_wb1 := Zwb1.out;have z_w1 := Zw1.out;have z_w2 := Zw2.out;have z_w3 := Zw3.out;have z_w4 := Zw4.out;have z_wb5 := Zwb5.out;have g_1 := G1.out;have l_1 := L1.out;have g_5 := G5.out;have l_5 := L5.out;omega));replace FX := m0_ (Kd.R_keep FX.out hk_ (fun k_ h1 => by have z_wb1 := Zwb1.out;have z_w1 := Zw1.out;have z_w2 := Zw2.out;have z_w3 := Zw3.out;have z_w4 := Zw4.out;have z_wb5 := Zwb5.out;have g_1 := G1.out;have l_1 := L1.out;have g_5 := G5.out;have l_5 := L5.out;omega));replace BK1 := m0_ (blk_keep BK1.out hk_ (by have z_wb1 := Zwb1.out;have z_w1 := Zw1.out;have z_w2 := Zw2.out;have z_w3 := Zw3.out;have z_w4 := Zw4.out;have z_wb5 := Zwb5.out;have g_1 := G1.out;have l_1 := L1.out;have g_5 := G5.out;have l_5 := L5.out;omega));have Zws5 := m0_ (hk_.1);clear hs_ hk_ hB_;have hz5_0 := (blk_cell BK5.out 0).trans (show _ = some (Value.int .i64 x0) from rfl);have hz5_1 := (blk_cell BK5.out 1).trans (show _ = some (Value.int .i64 x1) from rfl);have hz5_2 := (blk_cell BK5.out 2).trans (show _ = some (Value.int .i64 x2) from rfl);have hz5_3 := (blk_cell BK5.out 3).trans (show _ = some (Value.slice AX xs.length cX) from rfl)) | (go_at_call 18;fail))
 clear hz5_0 hz5_1 hz5_2 hz5_3
 refine (impl_ExSyms.calls k x0 x1 x2 _ _ xs g1 _ ?s1 ?s2 TG.out).mono ?_
 (case s1 => exact (Kd.R_reads' FX.out).2.2)
 (case s2 => exact (Kd.R_reads' FX.out).2.1)
 rintro e w5 ⟨v_, rfl, hs, hb⟩
 have Zw5 := m0_ (show ws5.heap.size ≤ w5.heap.size from hb.size)
 have hs_ := Kd.R_mono (ok' := fun k_ => ws5.heap.size ≤ k_ ∧ k_ < w5.heap.size) (Kd.R_lower (Kd.R_bound hs) (below_size HB.out)) (fun k_ hk => ⟨hk.2.1, hk.2.2.1⟩)
 obtain ⟨AG, cG, rfl⟩ := Kd.R_slice hs_
 have NG_ := m0_ hs_
 clear hs_ hs
 replace FV := m0_ (Kd.R_below FV.out hb);replace FX := m0_ (Kd.R_below FX.out hb);replace BK1 := m0_ (blk_below BK1.out hb);replace BK5 := m0_ (blk_below BK5.out hb);replace HB := m0_ (below_step HB.out hb)
 clear hb
 have FG := NG_;clear NG_
 go_wp2_with (go_at_call 19;fail)
 refine (laws_eqIntS.calls k _ _ g1 _ _ v1 true ⟨rfl⟩ _ ?s1 ?s2 ?s3 ?s4 E1.out).mono ?_
 (case s1 => exact (Kd.R_reads' FG.out).2.2)
 (case s2 => exact (Kd.R_reads' FG.out).2.1)
 (case s3 => exact (Kd.R_reads' FV.out).2.2)
 (case s4 => exact (Kd.R_reads' FV.out).2.1)
 rintro e w6 ⟨rfl, hb⟩
 have hb := hb.below
 have Zw6 := m0_ (show w5.heap.size ≤ w6.heap.size from hb.size)
 replace FV := m0_ (Kd.R_below FV.out hb);replace FX := m0_ (Kd.R_below FX.out hb);replace FG := m0_ (Kd.R_below FG.out hb);replace BK1 := m0_ (blk_below BK1.out hb);replace BK5 := m0_ (blk_below BK5.out hb);replace HB := m0_ (below_step HB.out hb)
 clear hb
 go_upto_region 10 with (fail)
 replace FV := m0_ (Kd.R_drew FV.out);replace FX := m0_ (Kd.R_drew FX.out);replace FG := m0_ (Kd.R_drew FG.out);replace BK1 := m0_ (blk_drew BK1.out);replace BK5 := m0_ (blk_drew BK5.out);replace HB := m0_ (below_drew1 HB.out)
 -- region 10
 refine start_ (n := 5) (S := fun w' => True) (ds := []) #[false, false, false, false, false] (by kernel_rfl) rfl rfl trivial (fun hHeld => ?_)
 refine with_tabW laws_FnExactExSyms.tab10 laws_FnExactExSyms.bits10 (fun HT_ HW_ => ?_)
 generalize hWd : w6.drew = u10 at HB FV FX FG BK1 BK5 ⊢
 have Zu10 := m0_ (show w6.heap.size ≤ u10.heap.size from by rw [← hWd];exact Nat.le_refl _)
 clear hWd
 refine inv_at [0, 1, 2, 3, 4] (fun a0_ b a w' => ∃ (p2 : Value), a = putSel a0_ b [(0, 27, .agg #[.int .i64 x0, .int .i64 x1, .int .i64 x2, .slice AX xs.length cX]), (1, 28, .agg #[.int .i64 a0, .int .i64 a1, .int .i64 a2, .slice A l.length c]), (2, 29, p2), (3, 30, .bool true), (4, 31, .bool (!true))] ∧ Below u10.heap.size u10 w' ∧ (b 2 = true → ∃ v_ : Value, p2 = .agg #[.int .i64 x0, .int .i64 x1, .int .i64 x2, v_] ∧ Kd.R k29 29 w' 0 (fun _ => True) v_ xs)) HT_.out HW_.out (by kernel_rfl) (by kernel_rfl) ?_ ?_ ?_
 ·exact ⟨.bool true, by simp only [putSel, Bool.false_eq_true, if_false], Below.refl _ _, fun h_ => absurd h_ (by decide)⟩
 ·skip
  refine steps_cons ?_ ?_
  ·rintro b a w' ⟨p2, ha, Q_HB, Q_I2⟩ hb_ hon hoff
   refine ⟨_, rfl, fun K hK => ?_⟩
   have e5 : a.tmps[5]? = some (.pointer (some ⟨gb5, 0, none⟩)) := by rw [ha];exact (putSel_off rfl).trans rfl
   replace ha := m0_ ha
   have hc0_ : w'.cell? ⟨gb5, 0, none⟩ = some (.int .i64 x0) := (blk_cell (blk_below BK5.out Q_HB) 0).trans rfl
   have hc1_ : w'.cell? ⟨gb5, 1, none⟩ = some (.int .i64 x1) := (blk_cell (blk_below BK5.out Q_HB) 1).trans rfl
   have hc2_ : w'.cell? ⟨gb5, 2, none⟩ = some (.int .i64 x2) := (blk_cell (blk_below BK5.out Q_HB) 2).trans rfl
   have hc3_ : w'.cell? ⟨gb5, 3, none⟩ = some (.slice AX xs.length cX) := (blk_cell (blk_below BK5.out Q_HB) 3).trans rfl
   refine value_ (w1 := w') (v := .agg #[.int .i64 x0, .int .i64 x1, .int .i64 x2, .slice AX xs.length cX]) (by rfl) rfl ?_ ?_
   ·go_simp
    (try simp only [i64_w])
    try rfl
   refine hK.out _ _ ⟨p2, (by rw [ha.out];exact putSel_upk 0 hb_ rfl rfl rfl), Q_HB, Q_I2⟩
  refine steps_cons ?_ ?_
  ·rintro b a w' ⟨p2, ha, Q_HB, Q_I2⟩ hb_ hon hoff
   refine ⟨_, rfl, fun K hK => ?_⟩
   have e1 : a.tmps[1]? = some (.pointer (some ⟨gb1, 0, none⟩)) := by rw [ha];exact (putSel_off rfl).trans rfl
   replace ha := m0_ ha
   have hc0_ : w'.cell? ⟨gb1, 0, none⟩ = some (.int .i64 a0) := (blk_cell (blk_below BK1.out Q_HB) 0).trans rfl
   have hc1_ : w'.cell? ⟨gb1, 1, none⟩ = some (.int .i64 a1) := (blk_cell (blk_below BK1.out Q_HB) 1).trans rfl
   have hc2_ : w'.cell? ⟨gb1, 2, none⟩ = some (.int .i64 a2) := (blk_cell (blk_below BK1.out Q_HB) 2).trans rfl
   have hc3_ : w'.cell? ⟨gb1, 3, none⟩ = some (.slice A l.length c) := (blk_cell (blk_below BK1.out Q_HB) 3).trans rfl
   refine value_ (w1 := w') (v := .agg #[.int .i64 a0, .int .i64 a1, .int .i64 a2, .slice A l.length c]) (by rfl) rfl ?_ ?_
   ·go_simp
    (try simp only [i64_w])
    try rfl
   refine hK.out _ _ ⟨p2, (by rw [ha.out];exact putSel_upk 1 hb_ rfl rfl rfl), Q_HB, Q_I2⟩
  refine steps_cons ?_ ?_
  ·rintro b a w' ⟨p2, ha, Q_HB, Q_I2⟩ hb_ hon hoff
   refine ⟨_, rfl, fun K hK => ?_⟩
   have e28 : a.tmps[28]? = some (.agg #[.int .i64 a0, .int .i64 a1, .int .i64 a2, .slice A l.length c]) := by rw [ha];exact putSel_on (e := (1, 28, .agg #[.int .i64 a0, .int .i64 a1, .int .i64 a2, .slice A l.length c])) 1 rfl rfl (hon 1 (by kernel_rfl)) rfl
   replace ha := m0_ ha
   refine goes_ Try.func10 (by kernel_rfl) rfl #[.agg #[.int .i64 a0, .int .i64 a1, .int .i64 a2, .slice A l.length c]] (by rfl) rfl rfl (by first | (simp only [List.map_toArray, List.map_cons, List.map_nil, Act.eval, Array.getD_eq_getD_getElem?, Option.getD_some, e28];done) | (simp only [List.map_toArray, List.map_cons, List.map_nil, Act.eval, Array.getD_eq_getD_getElem?, Option.getD_some, e28];rfl)) ?_
   with_reducible refine (laws_toEx.calls k a0 a1 a2 _ _ l x0 x1 x2 xs _ ?s1 ?s2 TA.out).mono ?_
   (case s1 => exact Kd.C_below (Kd.C_below HRA.out HB.out) Q_HB)
   (case s2 => exact HCA.out)
   rintro e w3 ⟨v_, rfl, hs_, hb⟩
   refine ⟨_, rfl, ?_⟩
   refine hK.out _ _ ⟨_, (by rw [ha.out];exact putSel_upk 2 hb_ rfl rfl rfl), below_step Q_HB hb, fun _ => ⟨_, rfl, Kd.R_lower hs_ (Nat.zero_le _)⟩⟩
  refine steps_cons ?_ ?_
  ·rintro b a w' ⟨p2, ha, Q_HB, Q_I2⟩ hb_ hon hoff
   refine ⟨_, rfl, fun K hK => ?_⟩
   obtain ⟨v3_, rfl, hs3_⟩ := Q_I2 (hon 2 (by kernel_rfl))
   obtain ⟨A3_, c3_, rfl⟩ := Kd.R_slice hs3_
   have hr3_ := Kd.R_reads' hs3_
   have e27 : a.tmps[27]? = some (.agg #[.int .i64 x0, .int .i64 x1, .int .i64 x2, .slice AX xs.length cX]) := by rw [ha];exact putSel_on (e := (0, 27, .agg #[.int .i64 x0, .int .i64 x1, .int .i64 x2, .slice AX xs.length cX])) 0 rfl rfl (hon 0 (by kernel_rfl)) rfl
   have e29 : a.tmps[29]? = some (.agg #[.int .i64 x0, .int .i64 x1, .int .i64 x2, .slice A3_ xs.length c3_]) := by rw [ha];exact putSel_on (e := (2, 29, .agg #[.int .i64 x0, .int .i64 x1, .int .i64 x2, .slice A3_ xs.length c3_])) 2 rfl rfl (hon 2 (by kernel_rfl)) rfl
   replace ha := m0_ ha
   refine goes_ Try.func12 (by kernel_rfl) rfl #[.agg #[.int .i64 x0, .int .i64 x1, .int .i64 x2, .slice AX xs.length cX], .agg #[.int .i64 x0, .int .i64 x1, .int .i64 x2, .slice A3_ xs.length c3_]] (by rfl) rfl rfl (by first | (simp only [List.map_toArray, List.map_cons, List.map_nil, Act.eval, Array.getD_eq_getD_getElem?, Option.getD_some, e27, e29];done) | (simp only [List.map_toArray, List.map_cons, List.map_nil, Act.eval, Array.getD_eq_getD_getElem?, Option.getD_some, e27, e29];rfl)) ?_
   with_reducible refine (laws_eqEx.calls k x0 x1 x2 _ _ xs x0 x1 x2 _ _ xs true _ ?s1 ?s2 ?s3 ?s4 E2.out).mono ?_
   (case s1 => exact Kd.C_below (Kd.R_reads' FX.out).2.2 Q_HB)
   (case s2 => exact (Kd.R_reads' FX.out).2.1)
   (case s3 => exact hr3_.2.2)
   (case s4 => exact hr3_.2.1)
   rintro e w3 ⟨rfl, hb⟩
   refine ⟨_, rfl, ?_⟩
   refine hK.out _ _ ⟨_, (by rw [ha.out];exact putSel_upk 3 hb_ rfl rfl rfl), below_step Q_HB hb, fun h_ => by obtain ⟨v3_, e3_, hs3_⟩ := Q_I2 h_;exact ⟨v3_, e3_, Kd.R_below hs3_ hb⟩⟩
  refine steps_cons ?_ ?_
  ·rintro b a w' ⟨p2, ha, Q_HB, Q_I2⟩ hb_ hon hoff
   refine ⟨_, rfl, fun K hK => ?_⟩
   have e30 : a.tmps[30]? = some (.bool true) := by rw [ha];exact putSel_on (e := (3, 30, .bool true)) 3 rfl rfl (hon 3 (by kernel_rfl)) rfl
   replace ha := m0_ ha
   refine value_ (w1 := w') (v := .bool (!true)) (by rfl) rfl ?_ ?_
   ·go_simp
    (try simp only [i64_w])
    try rfl
   refine hK.out _ _ ⟨p2, (by rw [ha.out];exact putSel_upk 4 hb_ rfl rfl rfl), Q_HB, Q_I2⟩
  exact steps_nil
 rintro b a v10 hall ⟨p2, ha, Q_HB, Q_I2⟩
 have hb0_ := hall 0 (by kernel_rfl)
 have hb1_ := hall 1 (by kernel_rfl)
 have hb2_ := hall 2 (by kernel_rfl)
 have hb3_ := hall 3 (by kernel_rfl)
 have hb4_ := hall 4 (by kernel_rfl)
 subst ha
 simp only [putSel, hb0_, hb1_, hb2_, hb3_, hb4_, if_true, Act.put, List.setIfInBounds_toArray, List.set_cons_zero, List.set_cons_succ]
 replace FV := m0_ (Kd.R_below FV.out Q_HB);replace FX := m0_ (Kd.R_below FX.out Q_HB);replace FG := m0_ (Kd.R_below FG.out Q_HB);replace BK1 := m0_ (blk_below BK1.out Q_HB);replace BK5 := m0_ (blk_below BK5.out Q_HB);replace HB := m0_ (below_step HB.out Q_HB)
 have Zv10 := m0_ (show u10.heap.size ≤ v10.heap.size from Below.size Q_HB)
 clear Q_HB hall Q_I2 hb0_ hb1_ hb2_ hb3_ hb4_
 obtain ⟨nX_, hX_⟩ := shape_of FX.out
 have hz5_0 := (blk_cell BK5.out 0).trans (show _ = some (Value.int .i64 x0) from rfl);have hz5_1 := (blk_cell BK5.out 1).trans (show _ = some (Value.int .i64 x1) from rfl);have hz5_2 := (blk_cell BK5.out 2).trans (show _ = some (Value.int .i64 x2) from rfl);have hz5_3 := (blk_cell BK5.out 3).trans (show _ = some (Value.slice AX xs.length cX) from rfl)
 go_wp2_with (go_at_call 20;fail)
 clear hz5_0 hz5_1 hz5_2 hz5_3
 refine (markEx_walk k x0 x1 x2 xs 1 p1 nX_ _ _ w _ MP.out hX_ HB.out (fun q hq => by have z_wb1 := Zwb1.out;have z_w1 := Zw1.out;have z_w2 := Zw2.out;have z_w3 := Zw3.out;have z_w4 := Zw4.out;have z_wb5 := Zwb5.out;have z_ws5 := Zws5.out;have z_w5 := Zw5.out;have z_w6 := Zw6.out;have z_u10 := Zu10.out;have z_v10 := Zv10.out;have g_1 := G1.out;have l_1 := L1.out;have g_5 := G5.out;have l_5 := L5.out;have b_ := below_size HB.out;omega)).mono ?_
 rintro e w7 ⟨rfl, hm, hb⟩
 clear hX_
 have hk := hm.kept
 clear hm
 have Zw7 := m0_ (show v10.heap.size ≤ w7.heap.size from hk.1)
 replace FV := m0_ (Kd.R_kept FV.out hk (fun k_ h1 h2 => by have z_wb1 := Zwb1.out;have z_w1 := Zw1.out;have z_w2 := Zw2.out;have z_w3 := Zw3.out;have z_w4 := Zw4.out;have z_wb5 := Zwb5.out;have z_ws5 := Zws5.out;have z_w5 := Zw5.out;have z_w6 := Zw6.out;have z_u10 := Zu10.out;have z_v10 := Zv10.out;have z_w7 := Zw7.out;have g_1 := G1.out;have l_1 := L1.out;have g_5 := G5.out;have l_5 := L5.out;omega));replace FG := m0_ (Kd.R_kept FG.out hk (fun k_ h1 h2 => by have z_wb1 := Zwb1.out;have z_w1 := Zw1.out;have z_w2 := Zw2.out;have z_w3 := Zw3.out;have z_w4 := Zw4.out;have z_wb5 := Zwb5.out;have z_ws5 := Zws5.out;have z_w5 := Zw5.out;have z_w6 := Zw6.out;have z_u10 := Zu10.out;have z_v10 := Zv10.out;have z_w7 := Zw7.out;have g_1 := G1.out;have l_1 := L1.out;have g_5 := G5.out;have l_5 := L5.out;omega));replace BK1 := m0_ (blk_kept BK1.out hk (fun h2 => by have z_wb1 := Zwb1.out;have z_w1 := Zw1.out;have z_w2 := Zw2.out;have z_w3 := Zw3.out;have z_w4 := Zw4.out;have z_wb5 := Zwb5.out;have z_ws5 := Zws5.out;have z_w5 := Zw5.out;have z_w6 := Zw6.out;have z_u10 := Zu10.out;have z_v10 := Zv10.out;have z_w7 := Zw7.out;have g_1 := G1.out;have l_1 := L1.out;have g_5 := G5.out;have l_5 := L5.out;omega));replace BK5 := m0_ (blk_kept BK5.out hk (fun h2 => by have z_wb1 := Zwb1.out;have z_w1 := Zw1.out;have z_w2 := Zw2.out;have z_w3 := Zw3.out;have z_w4 := Zw4.out;have z_wb5 := Zwb5.out;have z_ws5 := Zws5.out;have z_w5 := Zw5.out;have z_w6 := Zw6.out;have z_u10 := Zu10.out;have z_v10 := Zv10.out;have z_w7 := Zw7.out;have g_1 := G1.out;have l_1 := L1.out;have g_5 := G5.out;have l_5 := L5.out;omega));replace HB := m0_ (hb)
 clear FX hk hb
 go_wp2_with (go_at_call 19;fail)
 refine (laws_eqIntS.calls k _ _ g1 _ _ v1 true ⟨rfl⟩ _ ?s1 ?s2 ?s3 ?s4 E1.out).mono ?_
 (case s1 => exact (Kd.R_reads' FG.out).2.2)
 (case s2 => exact (Kd.R_reads' FG.out).2.1)
 (case s3 => exact (Kd.R_reads' FV.out).2.2)
 (case s4 => exact (Kd.R_reads' FV.out).2.1)
 rintro e w8 ⟨rfl, hb⟩
 have hb := hb.below
 have Zw8 := m0_ (show w7.heap.size ≤ w8.heap.size from hb.size)
 replace FV := m0_ (Kd.R_below FV.out hb);replace FG := m0_ (Kd.R_below FG.out hb);replace BK1 := m0_ (blk_below BK1.out hb);replace BK5 := m0_ (blk_below BK5.out hb);replace HB := m0_ (below_step HB.out hb)
 clear hb
 go_wp2_with (go_at_call 21;fail)
 refine (laws_markIntS.calls k _ _ g1 1 q y2 w _ HB.out FG.out M2.out).mono ?_
 rintro e w9 ⟨rfl, hs, hb, hk⟩
 have Zw9 := m0_ (show w8.heap.size ≤ w9.heap.size from hk.1)
 have eL := (Kd.R_reads' hs).1
 rw [eL] at hs
 rw [eL]
 clear eL
 replace FV := m0_ (Kd.R_kept FV.out hk (fun k_ h1 h2 => by have z_wb1 := Zwb1.out;have z_w1 := Zw1.out;have z_w2 := Zw2.out;have z_w3 := Zw3.out;have z_w4 := Zw4.out;have z_wb5 := Zwb5.out;have z_ws5 := Zws5.out;have z_w5 := Zw5.out;have z_w6 := Zw6.out;have z_u10 := Zu10.out;have z_v10 := Zv10.out;have z_w7 := Zw7.out;have z_w8 := Zw8.out;have z_w9 := Zw9.out;have g_1 := G1.out;have l_1 := L1.out;have g_5 := G5.out;have l_5 := L5.out;omega));replace BK1 := m0_ (blk_kept BK1.out hk (fun h2 => by have z_wb1 := Zwb1.out;have z_w1 := Zw1.out;have z_w2 := Zw2.out;have z_w3 := Zw3.out;have z_w4 := Zw4.out;have z_wb5 := Zwb5.out;have z_ws5 := Zws5.out;have z_w5 := Zw5.out;have z_w6 := Zw6.out;have z_u10 := Zu10.out;have z_v10 := Zv10.out;have z_w7 := Zw7.out;have z_w8 := Zw8.out;have z_w9 := Zw9.out;have g_1 := G1.out;have l_1 := L1.out;have g_5 := G5.out;have l_5 := L5.out;omega));replace BK5 := m0_ (blk_kept BK5.out hk (fun h2 => by have z_wb1 := Zwb1.out;have z_w1 := Zw1.out;have z_w2 := Zw2.out;have z_w3 := Zw3.out;have z_w4 := Zw4.out;have z_wb5 := Zwb5.out;have z_ws5 := Zws5.out;have z_w5 := Zw5.out;have z_w6 := Zw6.out;have z_u10 := Zu10.out;have z_v10 := Zv10.out;have z_w7 := Zw7.out;have z_w8 := Zw8.out;have z_w9 := Zw9.out;have g_1 := G1.out;have l_1 := L1.out;have g_5 := G5.out;have l_5 := L5.out;omega));replace HB := m0_ (hb)
 clear FG
 have FG := m0_ hs
 clear hs hb hk
 go_wp2_with (go_at_call 22;fail)
 refine (laws_heldIntS.calls k _ _ y2 1 q _ ?s1 ?s2 TQ.out).mono ?_
 (case s1 => exact (Kd.R_reads' FG.out).2.2)
 (case s2 => exact (Kd.R_reads' FG.out).2.1)
 rintro e w10 ⟨rfl, hb⟩
 have hb := hb.below
 have Zw10 := m0_ (show w9.heap.size ≤ w10.heap.size from hb.size)
 replace FV := m0_ (Kd.R_below FV.out hb);replace FG := m0_ (Kd.R_below FG.out hb);replace BK1 := m0_ (blk_below BK1.out hb);replace BK5 := m0_ (blk_below BK5.out hb);replace HB := m0_ (below_step HB.out hb)
 clear hb
 have hz1_0 := (blk_cell BK1.out 0).trans (show _ = some (Value.int .i64 a0) from rfl);have hz1_1 := (blk_cell BK1.out 1).trans (show _ = some (Value.int .i64 a1) from rfl);have hz1_2 := (blk_cell BK1.out 2).trans (show _ = some (Value.int .i64 a2) from rfl);have hz1_3 := (blk_cell BK1.out 3).trans (show _ = some (Value.slice A l.length c) from rfl)
 go_wp2_with (go_at_call 10;fail)
 clear hz1_0 hz1_1 hz1_2 hz1_3
 refine (laws_toEx.calls k a0 a1 a2 _ _ l x0 x1 x2 xs _ ?s1 ?s2 TA.out).mono ?_
 (case s1 => exact Kd.C_below HRA.out HB.out)
 (case s2 => exact HCA.out)
 rintro e w11 ⟨v_, rfl, hs, hb⟩
 have Zw11 := m0_ (show w10.heap.size ≤ w11.heap.size from hb.size)
 have hs_ := Kd.R_mono (ok' := fun k_ => w10.heap.size ≤ k_ ∧ k_ < w11.heap.size) (Kd.R_lower (Kd.R_bound hs) (below_size HB.out)) (fun k_ hk => ⟨hk.2.1, hk.2.2.1⟩)
 obtain ⟨AS, cS, rfl⟩ := Kd.R_slice hs_
 have NS_ := m0_ hs_
 clear hs_ hs
 replace FV := m0_ (Kd.R_below FV.out hb);replace FG := m0_ (Kd.R_below FG.out hb);replace BK1 := m0_ (blk_below BK1.out hb);replace BK5 := m0_ (blk_below BK5.out hb);replace HB := m0_ (below_step HB.out hb)
 clear hb
 have FS := NS_;clear NS_
 go_wp2_with (go_at_call 18;fail)
 refine (impl_ExSyms.calls k x0 x1 x2 _ _ xs g1 _ ?s1 ?s2 TG.out).mono ?_
 (case s1 => exact (Kd.R_reads' FS.out).2.2)
 (case s2 => exact (Kd.R_reads' FS.out).2.1)
 rintro e w12 ⟨v_, rfl, hs, hb⟩
 have Zw12 := m0_ (show w11.heap.size ≤ w12.heap.size from hb.size)
 have hs_ := Kd.R_mono (ok' := fun k_ => w11.heap.size ≤ k_ ∧ k_ < w12.heap.size) (Kd.R_lower (Kd.R_bound hs) (below_size HB.out)) (fun k_ hk => ⟨hk.2.1, hk.2.2.1⟩)
 obtain ⟨AH, cH, rfl⟩ := Kd.R_slice hs_
 have NH_ := m0_ hs_
 clear hs_ hs
 replace FV := m0_ (Kd.R_below FV.out hb);replace FG := m0_ (Kd.R_below FG.out hb);replace FS := m0_ (Kd.R_below FS.out hb);replace BK1 := m0_ (blk_below BK1.out hb);replace BK5 := m0_ (blk_below BK5.out hb);replace HB := m0_ (below_step HB.out hb)
 clear hb
 have FH := NH_;clear NH_
 go_wp2_with (go_at_call 19;fail)
 refine (laws_eqIntS.calls k _ _ g1 _ _ v1 true ⟨rfl⟩ _ ?s1 ?s2 ?s3 ?s4 E1.out).mono ?_
 (case s1 => exact (Kd.R_reads' FH.out).2.2)
 (case s2 => exact (Kd.R_reads' FH.out).2.1)
 (case s3 => exact (Kd.R_reads' FV.out).2.2)
 (case s4 => exact (Kd.R_reads' FV.out).2.1)
 rintro e w13 ⟨rfl, hb⟩
 have hb := hb.below
 have Zw13 := m0_ (show w12.heap.size ≤ w13.heap.size from hb.size)
 replace FV := m0_ (Kd.R_below FV.out hb);replace FG := m0_ (Kd.R_below FG.out hb);replace FS := m0_ (Kd.R_below FS.out hb);replace FH := m0_ (Kd.R_below FH.out hb);replace BK1 := m0_ (blk_below BK1.out hb);replace BK5 := m0_ (blk_below BK5.out hb);replace HB := m0_ (below_step HB.out hb)
 clear hb
 clear FH FV FS
 go_wp2_with (go_at_call 22;fail)
 refine (laws_heldIntS.calls k _ _ y2 1 q _ ?s1 ?s2 TQ.out).mono ?_
 (case s1 => exact (Kd.R_reads' FG.out).2.2)
 (case s2 => exact (Kd.R_reads' FG.out).2.1)
 rintro e w14 ⟨rfl, hb⟩
 have hb := hb.below
 have Zw14 := m0_ (show w13.heap.size ≤ w14.heap.size from hb.size)
 replace FG := m0_ (Kd.R_below FG.out hb);replace BK1 := m0_ (blk_below BK1.out hb);replace BK5 := m0_ (blk_below BK5.out hb);replace HB := m0_ (below_step HB.out hb)
 clear hb
 go_wp2
 go_ret
 exact ⟨rfl, HB.out⟩

end Go.Proofs.Ytbcdfbiggjfmlaa.M
namespace Go.Proofs.Ytbcdfbiggjfmlaa.M
set_option linter.unusedVariables false
set_option linter.unusedSimpArgs false
open Go.RowKit Go.Proofs.YtbcdfbiggjfmlaaW.PrintWords Go.Proofs.YtbcdfbiggjfmlaaW.PrintLast

theorem maxLen_le {n : Nat} (h : n ≤ maxLen) : n ≤ 9223372036854775807 := by unfold maxLen at h; omega
def leftOf (a : Int) (n : Nat) : Int := if (n : Int) ≤ a then a - n else -1
theorem leftOf_neg {a : Int} {n : Nat} (h : ¬ (n : Int) ≤ a) : leftOf a n = -1 := if_neg h
theorem leftOf_pos {a : Int} {n : Nat} (h : (n : Int) ≤ a) : leftOf a n = a - n := if_pos h
theorem indL {P : S24 → Prop} (h : ∀ x, (∀ y ∈ x.f3, P y) → P x) : ∀ x, P x := by
  have key : ∀ n, ∀ x : S24, SizeOf.sizeOf x ≤ n → P x := by
    intro n
    induction n with
    | zero => intro x hx; cases x; simp at hx
    | succ n ih =>
      intro x hx
      refine h x (fun y hy => ih y ?_)
      have := List.sizeOf_lt_of_mem hy
      cases x
      simp at *
      omega
  exact fun x => key _ x (Nat.le_refl _)
theorem indI {P : S29 → Prop} (h : ∀ x, (∀ y ∈ x.f3, P y) → P x) : ∀ x, P x := by
  have key : ∀ n, ∀ x : S29, SizeOf.sizeOf x ≤ n → P x := by
    intro n
    induction n with
    | zero => intro x hx; cases x; simp at hx
    | succ n ih =>
      intro x hx
      refine h x (fun y hy => ih y ?_)
      have := List.sizeOf_lt_of_mem hy
      cases x
      simp at *
      omega
  exact fun x => key _ x (Nat.le_refl _)

mutual
def allX : S24 → Nat
  | ⟨_, _, _, l⟩ => l.length + kidsX l
def kidsX : List S24 → Nat
  | [] => 0
  | x :: xs => allX x + kidsX xs
end
theorem allX_is (x : S24) : allX x = x.f3.length + kidsX x.f3 := by cases x; simp [allX]
theorem kidsX_cons (x : S24) (l : List S24) : kidsX (x :: l) = allX x + kidsX l := by simp [kidsX]
theorem kidsX_nil : kidsX [] = 0 := by simp [kidsX]

def SzOk (x : S24) : Prop := ∀ a : Int, 0 ≤ a → a ≤ 1048576 → Ev (fun k => laws_szEx.f k x.f0 x.f1 x.f2 x.f3 a) (leftOf a (allX x))
theorem szExS_l0_ev (l : List S24) (hl : l.length ≤ 9223372036854775807) (hs : ∀ x ∈ l, SzOk x) : ∀ (d n : Nat) (a : Int), n + d = l.length → 0 ≤ a → a ≤ 1048576 → Ev (fun k => laws_szExS.l0 k l a (n : Int)) (leftOf a (kidsX (l.drop n))) := by
  intro d
  induction d with
  | zero =>
    intro n a hn h0 h1
    rw [List.drop_of_length_le (by omega), kidsX_nil, leftOf_pos (by omega)]
    exact Ev.last (fun k => by simp only [laws_szExS.l0]; rw [if_neg (by omega)]; simp)
  | succ d ih =>
    intro n a hn h0 h1
    have hr : rd_T24 l (n : Int) = l.getD n z24 := rfl
    have hx : SzOk (l.getD n z24) := by
      rw [List.getD_eq_getElem?_getD, List.getElem?_eq_getElem (by omega)]
      exact hs _ (List.getElem_mem _)
    rw [drop_at l z24 n (by omega)]
    refine Ev.step (fun k => by simp only [laws_szExS.l0]; rw [if_pos (by omega), if_pos (by omega), hr, w_succ (by omega)]) ?_
    generalize l.getD n z24 = x at *
    refine Ev.bind (hx a h0 h1) ?_
    rw [kidsX_cons]
    by_cases h : (allX x : Int) ≤ a
    · rw [leftOf_pos h]
      refine Ev.neg (by omega) (Ev.val (ih (n + 1) (a - allX x) (by omega) (by omega) (by omega)) ?_)
      unfold leftOf
      by_cases h2 : ((kidsX (l.drop (n + 1)) : Nat) : Int) ≤ a - allX x
      · rw [if_pos h2, if_pos (by omega)]
        omega
      · rw [if_neg h2, if_neg (by omega)]
    · rw [leftOf_neg h, leftOf_neg (by omega)]
      exact Ev.pos (by omega) (Ev.now _)
theorem szEx_ev : ∀ x : S24, good24 x → SzOk x := by
  refine indL (fun x ih g a h0 h1 => ?_)
  have hl := maxLen_le g.fields.2.2.2.1
  have hk : ∀ y ∈ x.f3, SzOk y := fun y hy => ih y hy (g.fields.2.2.2.2 y hy)
  have hS : Ev (fun k => laws_szExS.f k x.f3 a) (leftOf a (allX x)) := by
    rw [allX_is]
    have hw : wrap64 (a - (x.f3.length : Int)) = a - x.f3.length := w_small (by omega) (by omega)
    refine Ev.step (fun k => by simp only [laws_szExS.f]; rw [hw]) ?_
    by_cases h : (x.f3.length : Int) ≤ a
    · refine Ev.neg (by omega) (Ev.val (szExS_l0_ev x.f3 hl hk x.f3.length 0 (a - x.f3.length) (by omega) (by omega) (by omega)) ?_)
      rw [List.drop_zero]
      unfold leftOf
      by_cases h2 : ((kidsX x.f3 : Nat) : Int) ≤ a - x.f3.length
      · rw [if_pos h2, if_pos (by omega)]
        omega
      · rw [if_neg h2, if_neg (by omega)]
    · rw [leftOf_neg (by omega)]
      exact Ev.pos (by omega) (Ev.now _)
  refine Ev.step (fun k => by simp only [laws_szEx.f]; rfl) (Ev.bind hS ?_)
  by_cases h : (allX x : Int) ≤ a
  · rw [leftOf_pos h]
    exact Ev.neg (by omega) (Ev.now _)
  · rw [leftOf_neg h]
    exact Ev.pos (by omega) (Ev.now _)

mutual
def cvX : S24 → S29
  | ⟨a, b, c, l⟩ => ⟨a, b, c, cvXs l⟩
def cvXs : List S24 → List S29
  | [] => []
  | x :: xs => cvX x :: cvXs xs
end
theorem cvXs_map (l : List S24) : cvXs l = l.map cvX := by
  induction l with
  | nil => simp [cvXs]
  | cons x l ih => simp [cvXs, ih]
theorem cvX_f0 (x : S24) : (cvX x).f0 = x.f0 := by cases x; simp [cvX]
theorem cvX_f1 (x : S24) : (cvX x).f1 = x.f1 := by cases x; simp [cvX]
theorem cvX_f2 (x : S24) : (cvX x).f2 = x.f2 := by cases x; simp [cvX]
theorem cvX_f3 (x : S24) : (cvX x).f3 = x.f3.map cvX := by cases x; simp [cvX, cvXs_map]
theorem kidsX_mem {l : List S24} {x : S24} (h : x ∈ l) : allX x ≤ kidsX l := by
  induction l with
  | nil => simp at h
  | cons y l ih =>
    rw [kidsX_cons]
    rcases List.mem_cons.1 h with rfl | h
    · omega
    · have := ih h
      omega
theorem allX_mem {x y : S24} (h : y ∈ x.f3) : allX y + 1 ≤ allX x := by
  have := kidsX_mem h
  have h2 := List.length_pos_of_mem h
  rw [allX_is x]
  omega
def ToOk (x : S24) : Prop := Ev (fun k => laws_toEx.f k x.f0 x.f1 x.f2 x.f3) ((cvX x).f0, (cvX x).f1, (cvX x).f2, (cvX x).f3)
theorem toExS_l0_ev (l : List S24) (hl : l.length ≤ 1048576) (hs : ∀ x ∈ l, ToOk x) : ∀ (d n : Nat) (m : List S29), n + d = l.length → m.length = l.length → m.take n = (l.take n).map cvX → Ev (fun k => laws_toExS.l0 k l m (n : Int)) (l.map cvX) := by
  intro d
  induction d with
  | zero =>
    intro n m hn hm ht
    refine Ev.last (fun k => by simp only [laws_toExS.l0]; rw [if_neg (by omega)]; rw [List.take_of_length_le (by omega), List.take_of_length_le (by omega)] at ht; rw [ht])
  | succ d ih =>
    intro n m hn hm ht
    have hr : rd_T24 l (n : Int) = l.getD n z24 := rfl
    have hn' : n < l.length := by omega
    have hg : l.getD n z24 = l[n] := by rw [List.getD_eq_getElem?_getD, List.getElem?_eq_getElem hn']; rfl
    have hx : ToOk (l.getD n z24) := by
      rw [hg]
      exact hs _ (List.getElem_mem _)
    refine Ev.step (fun k => by simp only [laws_toExS.l0]; rw [if_pos (by omega), if_pos (by omega), hr, w_succ (by omega)]) ?_
    refine Ev.bind hx ?_
    refine Ev.pos (by omega) ?_
    refine ih (n + 1) _ (by omega) (by simp [hm]) ?_
    rw [Int.toNat_natCast, take_set _ _ _ (by omega), ht, List.take_succ_eq_append_getElem hn', List.map_append, hg]
    show _ ++ [(⟨(cvX l[n]).f0, (cvX l[n]).f1, (cvX l[n]).f2, (cvX l[n]).f3⟩ : S29)] = _ ++ [cvX l[n]]
    cases cvX l[n]
    rfl
theorem toEx_ev : ∀ x : S24, allX x ≤ 1048576 → ToOk x := by
  refine indL (fun x ih g => ?_)
  have hk : ∀ y ∈ x.f3, ToOk y := fun y hy => ih y hy (by have := allX_mem hy; omega)
  have hl : x.f3.length ≤ 1048576 := by rw [allX_is] at g; omega
  have hS : Ev (fun k => laws_toExS.f k x.f3) (x.f3.map cvX) := by
    refine Ev.step (fun k => by simp only [laws_toExS.f]; rw [if_pos (by omega), if_pos (by omega), Int.toNat_natCast]) ?_
    exact toExS_l0_ev x.f3 hl hk x.f3.length 0 _ (by omega) (by simp) (by simp)
  unfold ToOk
  rw [cvX_f0, cvX_f1, cvX_f2, cvX_f3]
  exact Ev.step (fun k => by simp only [laws_toEx.f]; rfl) (Ev.bindS hS rfl)

mutual
def allY : S29 → Nat
  | ⟨_, _, _, l⟩ => l.length + kidsY l
def kidsY : List S29 → Nat
  | [] => 0
  | x :: xs => allY x + kidsY xs
end
theorem allY_is (x : S29) : allY x = x.f3.length + kidsY x.f3 := by cases x; simp [allY]
theorem kidsY_cons (x : S29) (l : List S29) : kidsY (x :: l) = allY x + kidsY l := by simp [kidsY]
theorem kidsY_nil : kidsY [] = 0 := by simp [kidsY]
theorem kidsY_mem {l : List S29} {x : S29} (h : x ∈ l) : allY x ≤ kidsY l := by
  induction l with
  | nil => simp at h
  | cons y l ih =>
    rw [kidsY_cons]
    rcases List.mem_cons.1 h with rfl | h
    · omega
    · have := ih h
      omega
theorem allY_mem {x y : S29} (h : y ∈ x.f3) : allY y + 1 ≤ allY x := by
  have := kidsY_mem h
  have h2 := List.length_pos_of_mem h
  rw [allY_is x]
  omega
theorem allY_len {x : S29} : x.f3.length ≤ allY x := by rw [allY_is]; omega
theorem kidsY_map (l : List S24) (h : ∀ x ∈ l, allY (cvX x) = allX x) : kidsY (l.map cvX) = kidsX l := by
  induction l with
  | nil => simp [kidsX_nil, kidsY_nil]
  | cons x l ih =>
    rw [List.map_cons, kidsX_cons, kidsY_cons, h x (by simp), ih (fun y hy => h y (by simp [hy]))]
theorem allY_cv : ∀ x : S24, allY (cvX x) = allX x := by
  refine indL (fun x ih => ?_)
  rw [allY_is, allX_is, cvX_f3, kidsY_map _ ih, List.length_map]
theorem rdI (l : List S29) (n : Nat) (h : n < l.length) : rd_T29 l (n : Int) = l[n] := by
  show l.getD n z29 = _
  rw [List.getD_eq_getElem?_getD, List.getElem?_eq_getElem h]
  rfl

def EqOk (x : S29) : Prop := Ev (fun k => laws_eqEx.f k x.f0 x.f1 x.f2 x.f3 x.f0 x.f1 x.f2 x.f3) true
theorem eqExS_l0_ev (l : List S29) (hl : l.length ≤ 1048576) (hs : ∀ x ∈ l, EqOk x) : ∀ (d n : Nat), n + d = l.length → Ev (fun k => laws_eqExS.l0 k l l (n : Int)) true := by
  intro d
  induction d with
  | zero =>
    intro n hn
    exact Ev.last (fun k => by simp only [laws_eqExS.l0]; rw [if_neg (by omega)])
  | succ d ih =>
    intro n hn
    have hx : EqOk l[n] := hs _ (List.getElem_mem _)
    refine Ev.step (fun k => by simp only [laws_eqExS.l0]; rw [if_pos (by omega), if_pos (by omega), if_pos (by omega), rdI l n (by omega), w_succ (by omega)]) ?_
    exact Ev.bind hx (Ev.pos rfl (ih (n + 1) (by omega)))
theorem eqEx_ev : ∀ x : S29, allY x ≤ 1048576 → EqOk x := by
  refine indI (fun x ih g => ?_)
  have hk : ∀ y ∈ x.f3, EqOk y := fun y hy => ih y hy (by have := allY_mem hy; omega)
  have hl : x.f3.length ≤ 1048576 := by have := allY_len (x := x); omega
  have hS : Ev (fun k => laws_eqExS.f k x.f3 x.f3) true := by
    refine Ev.step (fun k => by simp only [laws_eqExS.f]; rw [if_pos trivial]) ?_
    exact eqExS_l0_ev x.f3 hl hk x.f3.length 0 (by omega)
  unfold EqOk
  refine Ev.step (fun k => by simp only [laws_eqEx.f]; rw [if_pos trivial, if_pos trivial, if_pos trivial]) ?_
  exact Ev.bindS hS rfl
mutual
def manyY : S29 → Nat
  | ⟨_, _, _, l⟩ => 1 + manysY l
def manysY : List S29 → Nat
  | [] => 0
  | x :: xs => manyY x + manysY xs
end
mutual
def deepY : S29 → Nat
  | ⟨_, _, _, l⟩ => 1 + deepsY l
def deepsY : List S29 → Nat
  | [] => 0
  | x :: xs => max (deepY x) (deepsY xs)
end
def kidsOf (a : Int) : Int := if a = 1 then 0 else if a = 7 then 1 else if a = 2 ∨ a = 3 ∨ a = 4 then 2 else if a = 5 ∨ a = 6 then 3 else -1
def okN (a b c : Int) (n : Nat) : Bool := decide (kidsOf a = n) && (if a = 1 then decide (0 ≤ b ∧ b ≤ 4) else decide (b = 0)) && (if a = 7 then decide (1 ≤ c ∧ c ≤ 20) else decide (c = 0))
mutual
def fmY : S29 → Bool
  | ⟨a, b, c, l⟩ => okN a b c l.length && fmsY l
def fmsY : List S29 → Bool
  | [] => true
  | x :: xs => fmY x && fmsY xs
end
theorem manyY_is (x : S29) : manyY x = 1 + manysY x.f3 := by cases x; simp [manyY]
theorem manysY_nil : manysY [] = 0 := by simp [manysY]
theorem manysY_cons (x : S29) (l : List S29) : manysY (x :: l) = manyY x + manysY l := by simp [manysY]
theorem deepY_is (x : S29) : deepY x = 1 + deepsY x.f3 := by cases x; simp [deepY]
theorem deepsY_nil : deepsY [] = 0 := by simp [deepsY]
theorem deepsY_cons (x : S29) (l : List S29) : deepsY (x :: l) = max (deepY x) (deepsY l) := by simp [deepsY]
theorem fmY_is (x : S29) : fmY x = (okN x.f0 x.f1 x.f2 x.f3.length && fmsY x.f3) := by cases x; simp [fmY]
theorem fmsY_nil : fmsY [] = true := by simp [fmsY]
theorem fmsY_cons (x : S29) (l : List S29) : fmsY (x :: l) = (fmY x && fmsY l) := by simp [fmsY]
theorem manysY_all (l : List S29) (h : ∀ x ∈ l, manyY x = 1 + allY x) : manysY l = l.length + kidsY l := by
  induction l with
  | nil => simp [manysY_nil, kidsY_nil]
  | cons x l ih => rw [manysY_cons, kidsY_cons, h x (by simp), ih (fun y hy => h y (by simp [hy]))]; simp; omega
theorem manyY_all : ∀ x : S29, manyY x = 1 + allY x := by
  refine indI (fun x ih => ?_)
  rw [manyY_is, allY_is, manysY_all _ ih]
theorem deepsY_le (l : List S29) (h : ∀ x ∈ l, deepY x ≤ manyY x) : deepsY l ≤ manysY l := by
  induction l with
  | nil => simp [deepsY_nil, manysY_nil]
  | cons x l ih =>
    have h1 := h x (by simp)
    have h2 := ih (fun y hy => h y (by simp [hy]))
    rw [manysY_cons, deepsY_cons]
    omega
theorem deepY_le : ∀ x : S29, deepY x ≤ manyY x := by
  refine indI (fun x ih => ?_)
  have := deepsY_le _ ih
  rw [manyY_is, deepY_is]
  omega
def SizeOk (x : S29) : Prop := Ev (fun k => impl_Ex_size.f k x.f0 x.f1 x.f2 x.f3) ((manyY x : Int), (deepY x : Int))
theorem size_l0_ev (l : List S29) (hl : l.length ≤ 1048576) (hm : manysY l ≤ 1048577) (hs : ∀ x ∈ l, SizeOk x) : ∀ (d n m p : Nat), n + d = l.length → 1 ≤ m → 1 ≤ p → p ≤ 1048579 → m + manysY (l.drop n) ≤ 1048579 → Ev (fun k => impl_Ex_size.l0 k (m : Int) (p : Int) l (l.length : Int) (n : Int)) (((m + manysY (l.drop n) : Nat) : Int), ((max p (1 + deepsY (l.drop n)) : Nat) : Int)) := by
  intro d
  induction d with
  | zero =>
    intro n m p hn h0 h1 h2 h3
    rw [List.drop_of_length_le (by omega), manysY_nil, deepsY_nil]
    refine Ev.last (fun k => by simp only [impl_Ex_size.l0]; rw [if_neg (by omega)]; rw [Nat.max_eq_left (by omega)]; rfl)
  | succ d ih =>
    intro n m p hn h0 h1 h2 h3
    have hx : SizeOk l[n] := hs _ (List.getElem_mem _)
    have hd := List.drop_eq_getElem_cons (l := l) (i := n) (by omega)
    rw [hd, manysY_cons] at h3
    rw [hd, manysY_cons, deepsY_cons]
    have hp := deepY_le l[n]
    have e1 : wrap64 ((m : Int) + (manyY l[n] : Int)) = ((m + manyY l[n] : Nat) : Int) := by rw [w_small (by omega) (by omega)]; omega
    have e2 : mx (p : Int) (wrap64 ((deepY l[n] : Int) + 1)) = ((max p (1 + deepY l[n]) : Nat) : Int) := by rw [w_small (by omega) (by omega)]; unfold mx; omega
    refine Ev.step (fun k => by simp only [impl_Ex_size.l0]; rw [if_pos (by omega), if_pos (by omega), if_pos (by omega), rdI l n (by omega), w_succ (by omega)]) ?_
    refine Ev.bind hx ?_
    simp only [e1, e2]
    refine Ev.val (ih (n + 1) (m + manyY l[n]) (max p (1 + deepY l[n])) (by omega) (by omega) (by omega) (by omega) (by omega)) ?_
    refine Prod.ext ?_ ?_
    · show ((_ : Nat) : Int) = ((_ : Nat) : Int)
      congr 1
      omega
    · show ((_ : Nat) : Int) = ((_ : Nat) : Int)
      congr 1
      omega
theorem size_ev : ∀ x : S29, allY x ≤ 1048576 → SizeOk x := by
  refine indI (fun x ih g => ?_)
  have hk : ∀ y ∈ x.f3, SizeOk y := fun y hy => ih y hy (by have := allY_mem hy; omega)
  have hl : x.f3.length ≤ 1048576 := by have := allY_len (x := x); omega
  have hm : manysY x.f3 ≤ 1048577 := by have h1 := manyY_all x; have h2 := manyY_is x; omega
  unfold SizeOk
  refine Ev.step (fun k => by simp only [impl_Ex_size.f]; rfl) ?_
  refine Ev.val (size_l0_ev x.f3 hl hm hk x.f3.length 0 1 1 (by omega) (by omega) (by omega) (by omega) (by rw [List.drop_zero]; omega)) ?_
  rw [List.drop_zero, manyY_is, deepY_is]
  refine Prod.ext rfl ?_
  show ((_ : Nat) : Int) = ((_ : Nat) : Int)
  congr 1
  omega

def ManyOk (x : S29) : Prop := ∀ d : Nat, d ≤ 100 → deepY x ≤ d + 1 → Ev (fun k => spec_l2Many.f k x.f0 x.f1 x.f2 x.f3 (d : Int)) (manyY x : Int)
theorem many_l0_ev (l : List S29) (hl : l.length ≤ 1048576) (hs : ∀ x ∈ l, ManyOk x) (a b c : Int) (e : Nat) (he : e ≤ 100) : ∀ (d n m : Nat), n + d = l.length → deepsY (l.drop n) ≤ e → m + manysY (l.drop n) ≤ 1048579 → Ev (fun k => spec_l2Many.l0 k (e : Int) (m : Int) (n : Int) a b c l) ((m + manysY (l.drop n) : Nat) : Int) := by
  intro d
  induction d with
  | zero =>
    intro n m hn h1 h3
    rw [List.drop_of_length_le (by omega), manysY_nil]
    refine Ev.last (fun k => by simp only [spec_l2Many.l0]; rw [if_neg (by omega)]; rfl)
  | succ d ih =>
    intro n m hn h1 h3
    have hx : ManyOk l[n] := hs _ (List.getElem_mem _)
    have hd := List.drop_eq_getElem_cons (l := l) (i := n) (by omega)
    rw [hd, manysY_cons] at h3
    rw [hd, deepsY_cons] at h1
    rw [hd, manysY_cons]
    have hp : 1 ≤ deepY l[n] := by rw [deepY_is]; omega
    have e0 : wrap64 ((e : Int) - 1) = ((e - 1 : Nat) : Int) := by rw [w_small (by omega) (by omega)]; omega
    have e1 : wrap64 ((m : Int) + (manyY l[n] : Int)) = ((m + manyY l[n] : Nat) : Int) := by rw [w_small (by omega) (by omega)]; omega
    refine Ev.step (fun k => by simp only [spec_l2Many.l0]; rw [if_pos (by omega), if_pos (by omega), if_pos (by omega), rdI l n (by omega), w_succ (by omega), e0]) ?_
    refine Ev.bind (hx (e - 1) (by omega) (by omega)) ?_
    simp only [e1]
    have h5 : deepsY (l.drop (n + 1)) ≤ e := by omega
    have h6 : m + manyY l[n] + manysY (l.drop (n + 1)) ≤ 1048579 := by rw [Nat.add_assoc]; exact h3
    have h4 := ih (n + 1) (m + manyY l[n]) (by omega) h5 h6
    rw [Nat.add_assoc] at h4
    exact h4
theorem many_ev : ∀ x : S29, allY x ≤ 1048576 → ManyOk x := by
  refine indI (fun x ih g e he hd => ?_)
  have hk : ∀ y ∈ x.f3, ManyOk y := fun y hy => ih y hy (by have := allY_mem hy; omega)
  have hl : x.f3.length ≤ 1048576 := by have := allY_len (x := x); omega
  have hm : manysY x.f3 ≤ 1048577 := by have h1 := manyY_all x; have h2 := manyY_is x; omega
  rw [deepY_is] at hd
  refine Ev.step (fun k => by simp only [spec_l2Many.f]; rfl) ?_
  refine Ev.val (many_l0_ev x.f3 hl hk x.f0 x.f1 x.f2 e he x.f3.length 0 1 (by omega) (by rw [List.drop_zero]; omega) (by rw [List.drop_zero]; omega)) ?_
  rw [List.drop_zero, manyY_is]

theorem l2Kids_ev (a : Int) : Ev (fun k => spec_l2Kids.f k a) (kidsOf a) := by
  unfold spec_l2Kids.f kidsOf
  by_cases h1 : a = 1
  · exact Ev.pos h1 (Ev.val (Ev.now _) (by rw [if_pos h1]))
  refine Ev.neg h1 ?_
  rw [if_neg h1]
  by_cases h7 : a = 7
  · exact Ev.pos h7 (Ev.val (Ev.now _) (by rw [if_pos h7]))
  refine Ev.neg h7 ?_
  rw [if_neg h7]
  have yes : a = 2 ∨ a = 3 ∨ a = 4 → Ev (fun k => spec_l2Kids.j0 k a true) (if a = 2 ∨ a = 3 ∨ a = 4 then 2 else if a = 5 ∨ a = 6 then 3 else -1) := fun h => Ev.last (fun k => by simp only [spec_l2Kids.j0]; rw [if_pos trivial, if_pos h])
  by_cases h2 : a = 2
  · refine Ev.pos h2 ?_
    rw [show (a == 2) = true by simp [h2]]
    exact yes (by omega)
  refine Ev.neg h2 ?_
  by_cases h3 : a = 3
  · refine Ev.pos h3 ?_
    rw [show (a == 3) = true by simp [h3]]
    exact yes (by omega)
  refine Ev.neg h3 ?_
  by_cases h4 : a = 4
  · rw [show (a == 4) = true by simp [h4]]
    exact yes (by omega)
  rw [show (a == 4) = false by simp [h4]]
  rw [if_neg (by omega)]
  by_cases h5 : a = 5
  · exact Ev.last (fun k => by simp only [spec_l2Kids.j0]; rw [if_neg (by decide), if_pos h5, if_pos (by omega)])
  by_cases h6 : a = 6
  · exact Ev.last (fun k => by simp only [spec_l2Kids.j0]; rw [if_neg (by decide), if_neg h5, if_pos h6, if_pos (by omega)])
  · exact Ev.last (fun k => by simp only [spec_l2Kids.j0]; rw [if_neg (by decide), if_neg h5, if_neg h6, if_neg (by omega)])

def FormOk (x : S29) : Prop := ∀ d : Nat, d ≤ 100 → Ev (fun k => spec_l2Form.f k x.f0 x.f1 x.f2 x.f3 (d : Int)) (fmY x && decide (deepY x ≤ d))
theorem form_l0_ev (l : List S29) (hl : l.length ≤ 1048576) (hs : ∀ x ∈ l, FormOk x) (a b c : Int) (e : Nat) (he : e < 100) : ∀ (d n : Nat), n + d = l.length → Ev (fun k => spec_l2Form.l0 k ((e + 1 : Nat) : Int) (n : Int) a b c l) (fmsY (l.drop n) && decide (deepsY (l.drop n) ≤ e)) := by
  intro d
  induction d with
  | zero =>
    intro n hn
    rw [List.drop_of_length_le (by omega), fmsY_nil, deepsY_nil]
    exact Ev.last (fun k => by simp only [spec_l2Form.l0]; rw [if_neg (by omega)]; simp)
  | succ d ih =>
    intro n hn
    have hx : FormOk l[n] := hs _ (List.getElem_mem _)
    have hd := List.drop_eq_getElem_cons (l := l) (i := n) (by omega)
    rw [hd, fmsY_cons, deepsY_cons]
    have e0 : wrap64 (((e + 1 : Nat) : Int) - 1) = (e : Int) := by rw [w_small (by omega) (by omega)]; omega
    refine Ev.step (fun k => by simp only [spec_l2Form.l0]; rw [if_pos (by omega), if_pos (by omega), rdI l n (by omega), w_succ (by omega), e0]) ?_
    refine Ev.bind (hx e (by omega)) ?_
    by_cases h : (fmY l[n] && decide (deepY l[n] ≤ e)) = true
    · refine Ev.pos h (Ev.val (ih (n + 1) (by omega)) ?_)
      simp only [Bool.and_eq_true, decide_eq_true_eq] at h
      rw [h.1, Bool.true_and]
      have : (deepsY (l.drop (n + 1)) ≤ e) ↔ (max (deepY l[n]) (deepsY (l.drop (n + 1))) ≤ e) := by omega
      simp only [this]
    refine Ev.neg h (Ev.val (Ev.now false) ?_)
    by_cases hf : fmY l[n] = true
    · have : ¬ (max (deepY l[n]) (deepsY (l.drop (n + 1))) ≤ e) := by
        simp [hf] at h
        omega
      simp [this]
    · simp [hf]
theorem form_ev : ∀ x : S29, allY x ≤ 1048576 → FormOk x := by
  refine indI (fun x ih g d hd => ?_)
  have hk : ∀ y ∈ x.f3, FormOk y := fun y hy => ih y hy (by have := allY_mem hy; omega)
  have hl : x.f3.length ≤ 1048576 := by have := allY_len (x := x); omega
  rw [fmY_is, deepY_is]
  have bad : ∀ v : Bool, v = false → Ev (fun k => spec_l2Form.j0 k (d : Int) true x.f0 x.f1 x.f2 x.f3) v := fun v hv => Ev.last (fun k => by simp only [spec_l2Form.j0]; rw [if_pos trivial, hv])
  have bad1 : ∀ v : Bool, v = false → Ev (fun k => spec_l2Form.j1 k (d : Int) true x.f0 x.f1 x.f2 x.f3) v := fun v hv => Ev.last (fun k => by simp only [spec_l2Form.j1]; rw [if_pos trivial, hv])
  by_cases hd1 : (d : Int) < 1
  · refine Ev.step (fun k => by simp only [spec_l2Form.f]; rw [if_pos hd1]) (bad _ ?_)
    have : ¬ (1 + deepsY x.f3 ≤ d) := by omega
    simp [this]
  obtain ⟨e, rfl⟩ : ∃ e, d = e + 1 := ⟨d - 1, by omega⟩
  refine Ev.step (fun k => by simp only [spec_l2Form.f]; rw [if_neg hd1]) ?_
  refine Ev.bind (l2Kids_ev x.f0) ?_
  by_cases hn : kidsOf x.f0 = (x.f3.length : Int)
  rotate_left
  · refine Ev.neg hn (bad _ ?_)
    simp [okN, hn]
  refine Ev.pos hn ?_
  have rest : Ev (fun k => spec_l2Form.j0 k ((e + 1 : Nat) : Int) false x.f0 x.f1 x.f2 x.f3) ((if x.f0 = 7 then decide (1 ≤ x.f2 ∧ x.f2 ≤ 20) else decide (x.f2 = 0)) && (fmsY x.f3 && decide (deepsY x.f3 ≤ e))) := by
    have loop : Ev (fun k => spec_l2Form.j1 k ((e + 1 : Nat) : Int) false x.f0 x.f1 x.f2 x.f3) (fmsY x.f3 && decide (deepsY x.f3 ≤ e)) := by
      refine Ev.step (fun k => by simp only [spec_l2Form.j1]; rw [if_neg (by decide)]) ?_
      exact form_l0_ev x.f3 hl hk x.f0 x.f1 x.f2 e (by omega) x.f3.length 0 (by omega)
    by_cases h7 : x.f0 = 7
    · rw [if_pos h7]
      by_cases c1 : x.f2 < 1
      · refine Ev.step (fun k => by simp only [spec_l2Form.j0]; rw [if_neg (by decide), if_pos h7, if_pos c1]) (bad1 _ ?_)
        have : ¬ (1 ≤ x.f2 ∧ x.f2 ≤ 20) := by omega
        simp [this]
      by_cases c2 : x.f2 > 20
      · refine Ev.step (fun k => by simp only [spec_l2Form.j0]; rw [if_neg (by decide), if_pos h7, if_neg c1, if_pos c2]) (bad1 _ ?_)
        have : ¬ (1 ≤ x.f2 ∧ x.f2 ≤ 20) := by omega
        simp [this]
      · refine Ev.step (fun k => by simp only [spec_l2Form.j0]; rw [if_neg (by decide), if_pos h7, if_neg c1, if_neg c2]) (Ev.val loop ?_)
        have : (1 ≤ x.f2 ∧ x.f2 ≤ 20) := by omega
        simp [this]
    · rw [if_neg h7]
      by_cases c0 : x.f2 = 0
      · refine Ev.step (fun k => by simp only [spec_l2Form.j0]; rw [if_neg (by decide), if_neg h7, show (x.f2 != 0) = false by simp [c0]]) (Ev.val loop ?_)
        simp [c0]
      · refine Ev.step (fun k => by simp only [spec_l2Form.j0]; rw [if_neg (by decide), if_neg h7, show (x.f2 != 0) = true by simp [c0]]) (bad1 _ ?_)
        simp [c0]
  have hdd : (1 + deepsY x.f3 ≤ e + 1) ↔ (deepsY x.f3 ≤ e) := by omega
  simp only [hdd, okN, hn, decide_true, Bool.true_and]
  by_cases b0 : x.f1 < 0
  · refine Ev.pos b0 (bad _ ?_)
    have h1 : ¬ (0 ≤ x.f1 ∧ x.f1 ≤ 4) := by omega
    have h2 : ¬ (x.f1 = 0) := by omega
    simp [h1, h2]
  refine Ev.neg b0 ?_
  by_cases b5 : x.f1 ≥ 5
  · refine Ev.pos b5 (bad _ ?_)
    have h1 : ¬ (0 ≤ x.f1 ∧ x.f1 ≤ 4) := by omega
    have h2 : ¬ (x.f1 = 0) := by omega
    simp [h1, h2]
  refine Ev.neg b5 ?_
  by_cases a1 : x.f0 = 1
  · refine Ev.pos a1 (Ev.val rest ?_)
    rw [if_pos a1]
    have h1 : (0 ≤ x.f1 ∧ x.f1 ≤ 4) := by omega
    simp [h1, Bool.and_assoc]
  refine Ev.neg a1 ?_
  rw [if_neg a1]
  by_cases hb : x.f1 = 0
  · rw [show (x.f1 != 0) = false by simp [hb]]
    refine Ev.val rest ?_
    simp [hb, Bool.and_assoc]
  · rw [show (x.f1 != 0) = true by simp [hb]]
    exact bad _ (by simp [hb])

theorem in_is (a b c : Int) : impl_in.f a b c = some (decide (b ≤ a ∧ a ≤ c)) := by
  unfold impl_in.f
  by_cases h : b ≤ a
  · rw [if_pos h]; simp [h]
  · rw [if_neg h]; simp [h]
theorem kids_is (a : Int) (h1 : 1 ≤ a) (h7 : a ≤ 7) : impl_kids.f a = some (kidsOf a) := by
  have : a = 1 ∨ a = 2 ∨ a = 3 ∨ a = 4 ∨ a = 5 ∨ a = 6 ∨ a = 7 := by omega
  rcases this with rfl | rfl | rfl | rfl | rfl | rfl | rfl <;> rfl
theorem kidsOf_out {a : Int} (h : ¬ (1 ≤ a ∧ a ≤ 7)) : kidsOf a = -1 := by
  unfold kidsOf
  rw [if_neg (by omega), if_neg (by omega), if_neg (by omega), if_neg (by omega)]
def FmOk (x : S29) : Prop := Ev (fun k => impl_Ex_formed.f k x.f0 x.f1 x.f2 x.f3) (fmY x)
theorem fm_l0_ev (l : List S29) (hl : l.length ≤ 1048576) (hs : ∀ x ∈ l, FmOk x) : ∀ (d n : Nat), n + d = l.length → ∃ r : Int, Ev (fun k => impl_Ex_52.l0 k l (l.length : Int) (n : Int)) r ∧ (decide (r ≥ 0) = !fmsY (l.drop n)) := by
  intro d
  induction d with
  | zero =>
    intro n hn
    rw [List.drop_of_length_le (by omega), fmsY_nil]
    exact ⟨-1, Ev.last (fun k => by simp only [impl_Ex_52.l0]; rw [if_neg (by omega)]), by decide⟩
  | succ d ih =>
    intro n hn
    have hx : FmOk l[n] := hs _ (List.getElem_mem _)
    have hd := List.drop_eq_getElem_cons (l := l) (i := n) (by omega)
    rw [hd, fmsY_cons]
    have h1 : Ev (fun k => impl_Ex_formed_1.f k l[n].f0 l[n].f1 l[n].f2 l[n].f3) (!fmY l[n]) := Ev.step (fun k => by simp only [impl_Ex_formed_1.f]; rfl) (Ev.bindS hx rfl)
    cases hf : fmY l[n] with
    | true =>
      obtain ⟨r, hr, hv⟩ := ih (n + 1) (by omega)
      refine ⟨r, ?_, by rw [hv, Bool.true_and]⟩
      refine Ev.step (fun k => by simp only [impl_Ex_52.l0]; rw [if_pos (by omega), if_pos (by omega), if_pos (by omega), rdI l n (by omega), w_succ (by omega)]) ?_
      exact Ev.bind h1 (Ev.neg (by rw [hf]; decide) hr)
    | false =>
      refine ⟨(n : Int), ?_, by simp⟩
      refine Ev.step (fun k => by simp only [impl_Ex_52.l0]; rw [if_pos (by omega), if_pos (by omega), if_pos (by omega), rdI l n (by omega), w_succ (by omega)]) ?_
      exact Ev.bind h1 (Ev.pos (by rw [hf]; decide) (Ev.now _))
theorem formed_ev : ∀ x : S29, allY x ≤ 1048576 → FmOk x := by
  refine indI (fun x ih g => ?_)
  have hk : ∀ y ∈ x.f3, FmOk y := fun y hy => ih y hy (by have := allY_mem hy; omega)
  have hl : x.f3.length ≤ 1048576 := by have := allY_len (x := x); omega
  have hc : Ev (fun k => impl_Ex_44.f k x.f3) (!fmsY x.f3) := by
    obtain ⟨r, hr, hv⟩ := fm_l0_ev x.f3 hl hk x.f3.length 0 (by omega)
    rw [List.drop_zero] at hv
    refine Ev.step (fun k => by simp only [impl_Ex_44.f]; rfl) ?_
    refine Ev.bindS (Ev.step (fun k => by simp only [impl_Ex_52.f]; rfl) hr) ?_
    rw [hv]
  have bad : ∀ v : Bool, v = false → Ev (fun k => impl_Ex_formed.j0 k true x.f0 x.f1 x.f2 x.f3) v := fun v hv => Ev.last (fun k => by simp only [impl_Ex_formed.j0]; rw [if_pos trivial, hv])
  have bad1 : ∀ v : Bool, v = false → Ev (fun k => impl_Ex_formed.j1 k true x.f0 x.f1 x.f2 x.f3) v := fun v hv => Ev.last (fun k => by simp only [impl_Ex_formed.j1]; rw [if_pos trivial, hv])
  have last : Ev (fun k => impl_Ex_formed.j1 k false x.f0 x.f1 x.f2 x.f3) ((if x.f0 = 7 then decide (1 ≤ x.f2 ∧ x.f2 ≤ 20) else decide (x.f2 = 0)) && fmsY x.f3) := by
    by_cases h7 : x.f0 = 7
    · rw [if_pos h7]
      refine Ev.step (fun k => by simp only [impl_Ex_formed.j1]; rw [if_neg (by decide), if_pos h7, in_is, Option.bind_some]) ?_
      by_cases hc7 : 1 ≤ x.f2 ∧ x.f2 ≤ 20
      · refine Ev.pos (by simp [hc7]) (Ev.bindS hc ?_)
        simp [hc7]
      · refine Ev.neg (by simp; omega) (Ev.val (Ev.now false) ?_)
        simp [hc7]
    · rw [if_neg h7]
      by_cases hc0 : x.f2 = 0
      · refine Ev.step (fun k => by simp only [impl_Ex_formed.j1]; rw [if_neg (by decide), if_neg h7, if_pos hc0]) (Ev.bindS hc ?_)
        simp [hc0]
      · refine Ev.last (fun k => by simp only [impl_Ex_formed.j1]; rw [if_neg (by decide), if_neg h7, if_neg hc0]; simp [hc0])
  unfold FmOk
  rw [fmY_is]
  refine Ev.step (fun k => by simp only [impl_Ex_formed.f, impl_isKind.f]; rw [in_is, Option.bind_some, Option.bind_some]) ?_
  by_cases hkd : 1 ≤ x.f0 ∧ x.f0 ≤ 7
  rotate_left
  · refine Ev.neg (by simp; omega) (bad _ ?_)
    have hn : ¬ (kidsOf x.f0 = (x.f3.length : Int)) := by rw [kidsOf_out hkd]; omega
    simp [okN, hn]
  refine Ev.pos (by simp [hkd]) ?_
  refine Ev.bind (Ev.one (fun _ => kids_is x.f0 hkd.1 hkd.2)) ?_
  by_cases hn : kidsOf x.f0 = (x.f3.length : Int)
  rotate_left
  · rw [show ((x.f3.length : Int) != kidsOf x.f0) = true by simp; omega]
    exact bad _ (by simp [okN, hn])
  rw [show ((x.f3.length : Int) != kidsOf x.f0) = false by simp [hn]]
  by_cases a1 : x.f0 = 1
  · refine Ev.step (fun k => by simp only [impl_Ex_formed.j0, impl_isSym.f]; rw [if_neg (by decide), if_pos a1, in_is, Option.bind_some, Option.bind_some]) ?_
    by_cases hb : 0 ≤ x.f1 ∧ x.f1 ≤ 4
    · refine Ev.pos (by simp [hb]) (Ev.val last ?_)
      simp only [okN, hn, decide_true, Bool.true_and]
      rw [if_pos a1]
      simp [hb]
    · refine Ev.neg (by simp; omega) (bad1 _ ?_)
      simp only [okN, hn, decide_true, Bool.true_and]
      rw [if_pos a1]
      simp [hb]
  · by_cases hb : x.f1 = 0
    · refine Ev.step (fun k => by simp only [impl_Ex_formed.j0]; rw [if_neg (by decide), if_neg a1, show (x.f1 != 0) = false by simp [hb]]) (Ev.val last ?_)
      simp only [okN, hn, decide_true, Bool.true_and]
      rw [if_neg a1]
      simp [hb]
    · refine Ev.step (fun k => by simp only [impl_Ex_formed.j0]; rw [if_neg (by decide), if_neg a1, show (x.f1 != 0) = true by simp [hb]]) (bad1 _ ?_)
      simp only [okN, hn, decide_true, Bool.true_and]
      rw [if_neg a1]
      simp [hb]
def okX (x : S29) : Bool := fmY x && decide (deepY x ≤ 5) && decide (manyY x ≤ 12)
theorem form5 (x : S29) (h : allY x ≤ 1048576) : Ev (fun k => spec_l2Form.f k x.f0 x.f1 x.f2 x.f3 5) (fmY x && decide (deepY x ≤ 5)) := form_ev x h 5 (by omega)
theorem many5 (x : S29) (h : allY x ≤ 1048576) (hd : deepY x ≤ 5) : Ev (fun k => spec_l2Many.f k x.f0 x.f1 x.f2 x.f3 5) (manyY x : Int) := many_ev x h 5 (by omega) (by omega)
theorem spec_ExOk_ev (x : S29) (h : allY x ≤ 1048576) : Ev (fun k => spec_ExOk.f k x.f0 x.f1 x.f2 x.f3) (okX x) := by
  unfold spec_ExOk.f okX
  refine Ev.bind (form5 x h) ?_
  by_cases hf : (fmY x && decide (deepY x ≤ 5)) = true
  · have hd : deepY x ≤ 5 := by simp at hf; exact hf.2
    refine Ev.pos hf (Ev.bindS (many5 x h hd) ?_)
    rw [hf, Bool.true_and]
    have : ((manyY x : Int) ≤ 12) ↔ (manyY x ≤ 12) := by omega
    simp only [this]
  · refine Ev.neg hf (Ev.val (Ev.now _) ?_)
    simp only [Bool.not_eq_true] at hf
    rw [hf]
    rfl
theorem impl_ExOk_ev (x : S29) (h : allY x ≤ 1048576) : Ev (fun k => impl_ExOk.f k x.f0 x.f1 x.f2 x.f3) (okX x) := by
  unfold impl_ExOk.f okX
  refine Ev.bind (size_ev x h) ?_
  by_cases hm : manyY x ≤ 12
  · refine Ev.pos (show ((manyY x : Nat) : Int) ≤ 12 by omega) ?_
    by_cases hd : deepY x ≤ 5
    · refine Ev.pos (show ((deepY x : Nat) : Int) ≤ 5 by omega) (Ev.bindS (formed_ev x h) ?_)
      simp [hm, hd]
    · refine Ev.neg (show ¬ (((deepY x : Nat) : Int) ≤ 5) by omega) (Ev.val (Ev.now _) ?_)
      simp [hd]
  · refine Ev.neg (show ¬ (((manyY x : Nat) : Int) ≤ 12) by omega) (Ev.val (Ev.now _) ?_)
    simp [hm]
abbrev Asc (l : List Int) : Prop := l.Pairwise (· < ·)
theorem asc_ext : ∀ l m : List Int, Asc l → Asc m → (∀ x, x ∈ l ↔ x ∈ m) → l = m
  | [], [], _, _, _ => rfl
  | [], y :: ys, _, _, h => by have := (h y).2 (by simp); simp at this
  | x :: xs, [], _, _, h => by have := (h x).1 (by simp); simp at this
  | x :: xs, y :: ys, hl, hm, h => by
    have h1 := List.pairwise_cons.1 hl
    have h2 := List.pairwise_cons.1 hm
    have e : x = y := by
      rcases List.mem_cons.1 ((h x).1 (by simp)) with e | e
      · exact e
      rcases List.mem_cons.1 ((h y).2 (by simp)) with e' | e'
      · exact e'.symm
      · have a := h2.1 x e
        have b := h1.1 y e'
        omega
    subst e
    rw [asc_ext xs ys h1.2 h2.2 (fun z => ?_)]
    constructor
    · intro hz
      rcases List.mem_cons.1 ((h z).1 (by simp [hz])) with e | e
      · have := h1.1 z hz; omega
      · exact e
    · intro hz
      rcases List.mem_cons.1 ((h z).2 (by simp [hz])) with e | e
      · have := h2.1 z hz; omega
      · exact e
theorem compact_asc (zs : List Int) (h : zs.Pairwise (· ≤ ·)) : Asc (Lib.compact zs) := by
  unfold Lib.compact Lib.compactUpTo
  rw [Asc, List.pairwise_map, List.pairwise_filter]
  refine List.pairwise_lt_range.imp_of_mem ?_
  intro i j hi hj hij _ hk
  have hj' := List.mem_range.1 hj
  rcases of_decide_eq_true hk with h0 | h0
  · omega
  have g1 : zs.toArray[j]! = zs[j] := by simp [hj']
  have g2 : zs.toArray[j - 1]! = zs[j - 1] := by simp [show j - 1 < zs.length by omega]
  have g3 : zs.toArray[i]! = zs[i] := by simp [show i < zs.length by omega]
  rw [g1, g2] at h0
  rw [g1, g3]
  have a : zs[j - 1] ≤ zs[j] := List.pairwise_iff_getElem.1 h (j - 1) j (by omega) hj' (by omega)
  rcases Nat.eq_or_lt_of_le (show i ≤ j - 1 by omega) with e | e
  · subst e; omega
  · have b : zs[i] ≤ zs[j - 1] := List.pairwise_iff_getElem.1 h i (j - 1) (by omega) (by omega) e
    omega
theorem mem_compact (zs : List Int) (x : Int) : x ∈ Lib.compact zs ↔ x ∈ zs := by
  unfold Lib.compact Lib.compactUpTo
  simp only [List.mem_map, List.mem_filter, List.mem_range]
  constructor
  · rintro ⟨i, ⟨hi, _⟩, rfl⟩
    simp [hi]
  intro hx
  obtain ⟨i, hi, rfl⟩ := List.mem_iff_getElem.1 hx
  have key : ∀ i, (hi : i < zs.length) → ∃ a, (a < zs.length ∧ Lib.keeps zs.toArray a = true) ∧ zs.toArray[a]! = zs[i] := by
    intro i
    induction i with
    | zero => exact fun hi => ⟨0, ⟨hi, by simp [Lib.keeps]⟩, by simp [hi]⟩
    | succ i ih =>
      intro hi
      by_cases e : zs[i + 1] = zs[i]
      · obtain ⟨a, ha, hv⟩ := ih (by omega)
        exact ⟨a, ha, by rw [hv, e]⟩
      · refine ⟨i + 1, ⟨hi, ?_⟩, by simp [hi]⟩
        have hi2 : i < zs.length := by omega
        simp [Lib.keeps, hi, hi2, e]
  exact key i hi
theorem sortI_sorted (xs : List Int) : (sortI xs).Pairwise (· ≤ ·) := by
  have := List.pairwise_mergeSort (le := fun x y : Int => decide (x ≤ y)) (fun a b c h1 h2 => by simp at *; omega) (fun a b => by simp; omega) xs
  exact this.imp (fun h => of_decide_eq_true h)
theorem mem_sortI (xs : List Int) (x : Int) : x ∈ sortI xs ↔ x ∈ xs := List.mem_mergeSort
theorem fmsY_mem : ∀ (l : List S29), fmsY l = true → ∀ y ∈ l, fmY y = true
  | [], _, y, hy => by simp at hy
  | x :: l, h, y, hy => by
    rw [fmsY_cons, Bool.and_eq_true] at h
    rcases List.mem_cons.1 hy with rfl | hy
    · exact h.1
    · exact fmsY_mem l h.2 y hy
theorem mem_symsL (s : Int) : ∀ l : List S29, s ∈ symsL l ↔ ∃ y ∈ l, s ∈ symsX y
  | [] => by simp [symsL_nil]
  | x :: l => by
    rw [symsL_cons, List.mem_append, mem_symsL s l]
    constructor
    · rintro (h | ⟨y, hy, h⟩)
      · exact ⟨x, by simp, h⟩
      · exact ⟨y, by simp [hy], h⟩
    rintro ⟨y, hy, h⟩
    rcases List.mem_cons.1 hy with rfl | hy
    · exact .inl h
    · exact .inr ⟨y, hy, h⟩
theorem okN_kids {a b c : Int} {n : Nat} (h : okN a b c n = true) : kidsOf a = n ∧ (a = 1 → 0 ≤ b ∧ b ≤ 4) := by
  unfold okN at h
  rw [Bool.and_eq_true, Bool.and_eq_true] at h
  refine ⟨of_decide_eq_true h.1.1, fun e => ?_⟩
  have := h.1.2
  rw [if_pos e] at this
  exact of_decide_eq_true this
theorem fm_leaf {x : S29} (h : fmY x = true) (h1 : x.f0 = 1) : x.f3 = [] ∧ 0 ≤ x.f1 ∧ x.f1 ≤ 4 := by
  rw [fmY_is, Bool.and_eq_true] at h
  obtain ⟨k1, k2⟩ := okN_kids h.1
  rw [h1] at k1
  have : x.f3.length = 0 := by unfold kidsOf at k1; simp at k1; omega
  exact ⟨List.eq_nil_of_length_eq_zero this, k2 h1⟩
theorem fm_inner {x : S29} (h : fmY x = true) (h1 : x.f0 ≠ 1) : 1 ≤ x.f3.length ∧ ∀ y ∈ x.f3, fmY y = true := by
  rw [fmY_is, Bool.and_eq_true] at h
  obtain ⟨k1, _⟩ := okN_kids h.1
  refine ⟨?_, fmsY_mem _ h.2⟩
  unfold kidsOf at k1
  rw [if_neg h1] at k1
  split at k1
  · omega
  split at k1
  · omega
  · split at k1
    · omega
    · omega
theorem syms_leaf {x : S29} (h : fmY x = true) (h1 : x.f0 = 1) : symsX x = [x.f1] := by
  rw [symsX_is, if_pos h1, (fm_leaf h h1).1, symsL_nil]; rfl
theorem syms_inner {x : S29} (h1 : x.f0 ≠ 1) : symsX x = symsL x.f3 := by rw [symsX_is, if_neg h1]; rfl
theorem syms_range : ∀ x : S29, fmY x = true → ∀ s ∈ symsX x, 0 ≤ s ∧ s ≤ 4 := by
  refine indI ?_
  intro x ih h s hs
  by_cases h1 : x.f0 = 1
  · rw [syms_leaf h h1, List.mem_singleton] at hs
    rw [hs]; exact (fm_leaf h h1).2
  · rw [syms_inner h1, mem_symsL] at hs
    obtain ⟨y, hy, hs⟩ := hs
    exact ih y hy ((fm_inner h h1).2 y hy) s hs
theorem syms_ne : ∀ x : S29, fmY x = true → 0 < (symsX x).length := by
  refine indI ?_
  intro x ih h
  by_cases h1 : x.f0 = 1
  · rw [syms_leaf h h1]; simp
  rw [syms_inner h1]
  obtain ⟨k1, k2⟩ := fm_inner h h1
  rcases hx : x.f3 with _ | ⟨y, l⟩
  · rw [hx] at k1; simp at k1
  · have := ih y (by rw [hx]; simp) (k2 y (by rw [hx]; simp))
    rw [symsL_cons, List.length_append]
    omega
theorem symsL_len (l : List S29) (h : ∀ x ∈ l, (symsX x).length ≤ manyY x) : (symsL l).length ≤ manysY l := by
  induction l with
  | nil => simp [symsL_nil]
  | cons x l ih =>
    rw [symsL_cons, manysY_cons, List.length_append]
    have h1 := h x (by simp)
    have h2 := ih (fun y hy => h y (by simp [hy]))
    omega
theorem symsX_len : ∀ x : S29, (symsX x).length ≤ manyY x := by
  refine indI ?_
  intro x ih
  have := symsL_len x.f3 ih
  rw [symsX_is, manyY_is, List.length_append]
  by_cases h1 : x.f0 = 1
  · rw [if_pos h1]; simp; omega
  · rw [if_neg h1]; simp; omega
def NamesOk (x : S29) : Prop := ∀ s : Int, Ev (fun k => spec_l2Names.f k x.f0 x.f1 x.f2 x.f3 s) (decide (s ∈ symsX x))
theorem names_l0_ev (l : List S29) (hl : l.length ≤ 1048576) (hs : ∀ x ∈ l, NamesOk x) (s a b c : Int) : ∀ (d n : Nat), n + d = l.length → Ev (fun k => spec_l2Names.l0 k s (n : Int) a b c l) (decide (s ∈ symsL (l.drop n))) := by
  intro d
  induction d with
  | zero =>
    intro n hn
    rw [List.drop_of_length_le (by omega), symsL_nil]
    exact Ev.last (fun k => by simp only [spec_l2Names.l0]; rw [if_neg (by omega)]; simp)
  | succ d ih =>
    intro n hn
    have hlt : n < l.length := by omega
    have hx := hs l[n] (List.getElem_mem _) s
    rw [List.drop_eq_getElem_cons hlt, symsL_cons]
    refine Ev.step (fun k => by simp only [spec_l2Names.l0]; rw [if_pos (by omega), if_pos (by omega), rdI l n hlt, w_succ (by omega)]) (Ev.bind hx ?_)
    by_cases c : s ∈ symsX l[n]
    · rw [decide_eq_true c, decide_eq_true (List.mem_append.2 (.inl c))]
      exact Ev.pos rfl (Ev.now _)
    have e : decide (s ∈ symsX l[n] ++ symsL (l.drop (n + 1))) = decide (s ∈ symsL (l.drop (n + 1))) := by
      rw [decide_eq_decide, List.mem_append]
      exact ⟨fun h => h.elim (fun h => absurd h c) id, .inr⟩
    rw [decide_eq_false c, e]
    exact Ev.neg (by decide) (ih (n + 1) (by omega))
theorem names_ev : ∀ x : S29, allY x ≤ 1048576 → fmY x = true → NamesOk x := by
  refine indI ?_
  intro x ih ha h s
  by_cases h1 : x.f0 = 1
  · rw [syms_leaf h h1]
    refine Ev.last (fun k => ?_)
    simp only [spec_l2Names.f]
    rw [if_pos h1]
    congr 1
    rw [Bool.eq_iff_iff, beq_iff_eq, decide_eq_true_iff, List.mem_singleton]
    exact eq_comm
  · rw [syms_inner h1]
    have hk : ∀ y ∈ x.f3, NamesOk y := fun y hy => ih y hy (by have := allY_mem hy; omega) ((fm_inner h h1).2 y hy)
    have := names_l0_ev x.f3 (by have := allY_len (x := x); omega) hk s x.f0 x.f1 x.f2 x.f3.length 0 (by omega)
    exact Ev.step (fun k => by simp only [spec_l2Names.f]; rw [if_neg h1]; rfl) this
def upS (x : S29) : Nat → Nat → List Int
  | 0, _ => []
  | d + 1, s => if (s : Int) ∈ symsX x then (s : Int) :: upS x d (s + 1) else upS x d (s + 1)
theorem mem_upS (x : S29) (z : Int) : ∀ d s : Nat, z ∈ upS x d s ↔ ((s : Int) ≤ z ∧ z < (s : Int) + d) ∧ z ∈ symsX x
  | 0, s => by
    unfold upS
    constructor
    · intro h; simp at h
    · rintro ⟨h, _⟩; omega
  | d + 1, s => by
    unfold upS
    have ih := mem_upS x z d (s + 1)
    by_cases c : (s : Int) ∈ symsX x
    · rw [if_pos c, List.mem_cons, ih]
      constructor
      · rintro (rfl | ⟨h, g⟩)
        · exact ⟨by omega, c⟩
        · exact ⟨by omega, g⟩
      rintro ⟨h, g⟩
      by_cases e : z = (s : Int)
      · exact .inl e
      · exact .inr ⟨by omega, g⟩
    · rw [if_neg c, ih]
      constructor
      · rintro ⟨h, g⟩; exact ⟨by omega, g⟩
      · rintro ⟨h, g⟩
        have : z ≠ (s : Int) := by rintro rfl; exact c g
        exact ⟨by omega, g⟩
theorem asc_upS (x : S29) : ∀ d s : Nat, Asc (upS x d s)
  | 0, _ => List.Pairwise.nil
  | d + 1, s => by
    unfold upS
    have ih := asc_upS x d (s + 1)
    by_cases c : (s : Int) ∈ symsX x
    · rw [if_pos c]
      refine List.pairwise_cons.2 ⟨fun z hz => ?_, ih⟩
      have := ((mem_upS x z d (s + 1)).1 hz).1
      omega
    · rw [if_neg c]; exact ih
theorem upS_is (x : S29) (h : fmY x = true) : upS x 5 0 = Lib.compact (sortI (symsX x)) :=
  asc_ext _ _ (asc_upS x 5 0) (compact_asc _ (sortI_sorted _)) (fun z => by
    rw [mem_upS, mem_compact, mem_sortI]
    constructor
    · exact fun h => h.2
    · intro hz
      have := syms_range x h z hz
      exact ⟨by omega, hz⟩)
def symsO (x : S29) : List Int := if okX x = true then Lib.compact (sortI (symsX x)) else []
theorem symsO_len (x : S29) : (symsO x).length ≤ 12 := by
  unfold symsO
  by_cases h : okX x = true
  · rw [if_pos h]
    have h1 := compact_le (sortI (symsX x))
    have h2 : (sortI (symsX x)).length = (symsX x).length := by unfold sortI; rw [List.length_mergeSort]
    have h3 := symsX_len x
    unfold okX at h
    simp only [Bool.and_eq_true, decide_eq_true_eq] at h
    omega
  · rw [if_neg h]; simp
theorem impl_ExSyms_ev (x : S29) (h : allY x ≤ 1048576) : Ev (fun k => impl_ExSyms.f k x.f0 x.f1 x.f2 x.f3) (symsO x) := by
  unfold impl_ExSyms.f symsO
  refine Ev.bind (impl_ExOk_ev x h) ?_
  cases hv : okX x with
  | false => exact Ev.neg (by decide) (Ev.val (Ev.now _) (by rw [if_neg (by decide)]))
  | true =>
    have h3 := symsX_len x
    have hk := hv
    unfold okX at hk
    simp only [Bool.and_eq_true, decide_eq_true_eq] at hk
    have e : (⟨x.f0, x.f1, x.f2, x.f3⟩ : S29) = x := by cases x; rfl
    refine Ev.pos rfl ?_
    rw [e]
    exact Ev.pos ⟨syms_ne x hk.1.1, by omega⟩ (Ev.val (Ev.now _) (by rw [if_pos rfl]))
theorem spec_ExSyms_l0_ev (x : S29) (h : allY x ≤ 1048576) (ho : okX x = true) (hf : fmY x = true) : ∀ (d s : Nat) (out : List Int), s + d = 5 → out.length ≤ s → Ev (fun k => spec_ExSyms.l0 k out (s : Int) x.f0 x.f1 x.f2 x.f3) (out ++ upS x d s) := by
  intro d
  induction d with
  | zero =>
    intro s out hs hl
    unfold upS
    rw [List.append_nil]
    refine Ev.step (fun k => by simp only [spec_ExSyms.l0]; rw [if_neg (by omega)]) ?_
    exact Ev.last (fun k => by simp only [spec_ExSyms.j1]; rw [if_neg (by decide)])
  | succ d ih =>
    intro s out hs hl
    refine Ev.step (fun k => by simp only [spec_ExSyms.l0]; rw [if_pos (by omega)]) (Ev.bind (spec_ExOk_ev x h) ?_)
    rw [ho]
    refine Ev.step (fun k => by simp only [spec_ExSyms.j1]; rw [if_pos trivial, w_succ (by omega)]) (Ev.bind (names_ev x h hf (s : Int)) ?_)
    unfold upS
    by_cases c : (s : Int) ∈ symsX x
    · rw [decide_eq_true c, if_pos c]
      refine Ev.pos rfl (Ev.pos (by omega) ?_)
      have := ih (s + 1) (out ++ [(s : Int)]) (by omega) (by rw [List.length_append, List.length_singleton]; omega)
      rwa [List.append_assoc, List.singleton_append] at this
    · rw [decide_eq_false c, if_neg c]
      exact Ev.neg (by decide) (ih (s + 1) out (by omega) (by omega))
theorem spec_ExSyms_ev (x : S29) (h : allY x ≤ 1048576) : Ev (fun k => spec_ExSyms.f k x.f0 x.f1 x.f2 x.f3) (symsO x) := by
  unfold spec_ExSyms.f symsO
  cases hv : okX x with
  | false =>
    refine Ev.step (fun k => by simp only [spec_ExSyms.l0]; rw [if_pos (by omega)]) (Ev.bind (spec_ExOk_ev x h) ?_)
    rw [hv]
    exact Ev.last (fun k => by simp only [spec_ExSyms.j1]; rw [if_neg (by decide)]; simp)
  | true =>
    have hk := hv
    unfold okX at hk
    simp only [Bool.and_eq_true, decide_eq_true_eq] at hk
    have := spec_ExSyms_l0_ev x h hv hk.1.1 5 0 [] (by omega) (by simp)
    rw [List.nil_append, upS_is x hk.1.1] at this
    rw [if_pos rfl]
    exact this
theorem marksL_ev : ∀ (l : List S29), (∀ x ∈ l, ∀ a : Int, 0 ≤ a → a + 3 * (allY x : Nat) ≤ 100000000000000 → Ev (fun k => marksE k x.f3 a) (a + 3 * (allY x : Nat))) → ∀ a : Int, 0 ≤ a → a + 3 * (l.length + kidsY l : Nat) ≤ 100000000000000 → Ev (fun k => marksE k l a) (a + 3 * (l.length + kidsY l : Nat))
  | [], _, a, _, _ => Ev.last (fun k => by simp [marksE, kidsY_nil])
  | x :: l, h, a, h0, h1 => by
    rw [kidsY_cons, List.length_cons] at h1 ⊢
    have hx := h x (by simp) (a + 3) (by omega) (by omega)
    have w1 : wrap64 (wrap64 (wrap64 (a + 1) + 1) + 1) = a + 3 := by unfold wrap64; omega
    have hl := marksL_ev l (fun y hy => h y (by simp [hy])) (a + 3 + 3 * (allY x : Nat)) (by omega) (by omega)
    refine Ev.step (fun k => by simp only [marksE]; rw [w1]) (Ev.bind hx (Ev.val hl (by omega)))
theorem marksX_ev : ∀ (x : S29) (a : Int), 0 ≤ a → a + 3 * (allY x : Nat) ≤ 100000000000000 → Ev (fun k => marksE k x.f3 a) (a + 3 * (allY x : Nat)) := by
  refine indI ?_
  intro x ih a h0 h1
  rw [allY_is] at h1 ⊢
  exact marksL_ev x.f3 ih a h0 h1
theorem rd_nat (l : List Int) (n : Nat) : rd l (n : Int) = l.getD n 0 := rfl
def iMarks : Nat → Int → List Int
  | 0, _ => []
  | n + 1, c => c :: iMarks n (c + 1)
theorem iMarks_len : ∀ (n : Nat) (c : Int), (iMarks n c).length = n
  | 0, _ => rfl
  | n + 1, c => by rw [iMarks, List.length_cons, iMarks_len n]
theorem markIntS_l0_ev : ∀ (d n : Nat) (l : List Int) (c : Int), n + d = l.length → l.length ≤ 1099511627776 → 0 ≤ c → c + d ≤ 1152921504606846976 → Ev (fun k => laws_markIntS.l0 k l c (n : Int)) (c + d, l.take n ++ iMarks d c) := by
  intro d
  induction d with
  | zero =>
    intro n l c hn hl h0 h1
    rw [List.take_of_length_le (by omega)]
    exact Ev.last (fun k => by simp only [laws_markIntS.l0]; rw [if_neg (by omega)]; simp [iMarks])
  | succ d ih =>
    intro n l c hn hl h0 h1
    have w1 : wrap64 (c + 1) = c + 1 := w_small (by omega) (by omega)
    have next := ih (n + 1) (l.set n c) (c + 1) (by rw [List.length_set]; omega) (by rw [List.length_set]; omega) (by omega) (by omega)
    rw [take_set l n _ (by omega)] at next
    refine Ev.step (fun k => by
      simp only [laws_markIntS.l0]
      rw [if_pos (by omega), if_pos (by omega), w1, Int.toNat_natCast, w_succ (by omega)]) ?_
    refine Ev.val next ?_
    rw [iMarks, List.append_assoc]
    simp only [Prod.mk.injEq]
    exact ⟨by omega, rfl⟩
theorem markIntS_ev (l : List Int) (c : Int) (hl : l.length ≤ 1099511627776) (h0 : 0 ≤ c) (h1 : c ≤ 1125899906842624) : Ev (fun k => laws_markIntS.f k l c) (c + l.length, iMarks l.length c) := by
  unfold laws_markIntS.f
  exact markIntS_l0_ev l.length 0 l c (by omega) hl h0 (by omega)
theorem heldIntS_l0_ev (m : List Int) (hm : m.length ≤ 1099511627776) : ∀ (d n : Nat) (c : Int), n + d = m.length → m.drop n = iMarks d c → 0 ≤ c → c + d ≤ 1152921504606846976 → Ev (fun k => laws_heldIntS.l0 k m c (n : Int)) (c + d) := by
  intro d
  induction d with
  | zero =>
    intro n c hn hd h0 h1
    exact Ev.last (fun k => by simp only [laws_heldIntS.l0]; rw [if_neg (by omega)]; simp)
  | succ d ih =>
    intro n c hn hd h0 h1
    have w1 : wrap64 (c + 1) = c + 1 := w_small (by omega) (by omega)
    rw [drop_at m 0 n (by omega), iMarks] at hd
    injection hd with hx hd
    have next := ih (n + 1) (c + 1) (by omega) hd (by omega) (by omega)
    refine Ev.step (fun k => by
      simp only [laws_heldIntS.l0]
      rw [if_pos (by omega), if_pos (by omega), rd_nat, hx, w1, if_pos rfl, w_succ (by omega)]) ?_
    refine Ev.val next ?_
    omega
theorem heldIntS_ev (n : Nat) (c : Int) (hn : n ≤ 1099511627776) (h0 : 0 ≤ c) (h1 : c ≤ 1125899906842624) : Ev (fun k => laws_heldIntS.f k (iMarks n c) c) (c + n) := by
  unfold laws_heldIntS.f
  exact heldIntS_l0_ev (iMarks n c) (by rw [iMarks_len]; exact hn) n 0 c (by rw [iMarks_len]; omega) rfl h0 (by omega)
theorem eqIs_l0_ev (l : List Int) (hl : l.length ≤ 9223372036854775806) : ∀ d n : Nat, n + d = l.length → Ev (fun k => laws_eqIntS.l0 k l l (n : Int)) true := by
  intro d
  induction d with
  | zero =>
    intro n hn
    exact Ev.last (fun k => by simp only [laws_eqIntS.l0]; rw [if_neg (by omega)])
  | succ d ih =>
    intro n hn
    refine Ev.step (fun k => by simp only [laws_eqIntS.l0]; rw [if_pos (by omega), if_pos (by omega), if_pos (by omega), if_pos trivial, w_succ (by omega)]) ?_
    exact ih (n + 1) (by omega)
theorem eqIs_ev (l : List Int) (hl : l.length ≤ 9223372036854775806) : Ev (fun k => laws_eqIntS.f k l l) true := by
  unfold laws_eqIntS.f
  exact Ev.pos rfl (eqIs_l0_ev l hl l.length 0 (by omega))
theorem FnExactExSyms_pure (x : S24) (h : good24 x) : ∃ k, laws_FnExactExSyms.f k x.f0 x.f1 x.f2 x.f3 = some true := by
  refine Ev.rounds (g := fun k => laws_FnExactExSyms.f k x.f0 x.f1 x.f2 x.f3) ?_
  unfold laws_FnExactExSyms.f
  refine Ev.bind (szEx_ev x h 1048576 (by omega) (by omega)) ?_
  by_cases hs : ((allX x : Nat) : Int) ≤ 1048576
  · rw [leftOf_pos hs]
    refine Ev.neg (by omega) ?_
    have ha : allY (cvX x) ≤ 1048576 := by rw [allY_cv]; omega
    have hl := symsO_len (cvX x)
    refine Ev.bind (toEx_ev x (by omega)) (Ev.bind (spec_ExSyms_ev (cvX x) ha) (Ev.bind (impl_ExSyms_ev (cvX x) ha) (Ev.bind (eqIs_ev (symsO (cvX x)) (by omega)) (Ev.bind (eqEx_ev (cvX x) ha) (Ev.bind (marksX_ev (cvX x) 1 (by omega) (by omega)) ?_)))))
    exact Ev.bind (markIntS_ev (symsO (cvX x)) 1 (by omega) (by omega) (by omega)) (Ev.bind (heldIntS_ev (symsO (cvX x)).length 1 (by omega) (by omega) (by omega)) (Ev.pos ⟨⟨rfl, rfl⟩, by omega, by omega, rfl⟩ (Ev.now _)))
  · rw [leftOf_neg hs]
    exact Ev.pos (by omega) (Ev.now _)
end Go.Proofs.Ytbcdfbiggjfmlaa.M
