/- What the claim's law leans on: the program's functions, what they compute, and the law over plain values; no condition is asked. (Part 5 of 5.) -/
import Derived.Test.YtdljhokealbnnaaCLawsFnExactGraphSame4
namespace Go.Proofs.Ytdljhokealbnnaa.M
open Go.RowKit Go.Proofs.YtdljhokealbnnaaW.PrintWords Go.Proofs.YtdljhokealbnnaaW.PrintLast Go.Proofs.YtdljhokealbnnaaW.PrintMore
attribute [local go_sem] max2_int min2_int max_two min_two max_three min_three max_four min_four
set_option linter.unusedVariables false
set_option linter.unusedSimpArgs false

def impl_Node.l0 : Nat → List (S104) → List (S104) → Int → Int → Option (Bool)
 | 0, _, _, _, _ => none
 | k + 1, x1, x15, x16, x17 => if x17 < x16 then (if 0 ≤ x17 then (if x17 < (x15.length : Int) then (if x17 < (x1.length : Int) then ((impl_GraphSame_1.f k ((rd_T104 x15 x17).f0) ((rd_T104 x15 x17).f1) ((rd_T104 x15 x17).f2) ((rd_T104 x15 x17).f3) ((rd_T104 x15 x17).f4.f0) ((rd_T104 x15 x17).f4.f1) ((rd_T104 x15 x17).f5.f0) ((rd_T104 x15 x17).f5.f1) ((rd_T104 x15 x17).f6) ((rd_T104 x15 x17).f7) ((rd_T104 x1 x17).f0) ((rd_T104 x1 x17).f1) ((rd_T104 x1 x17).f2) ((rd_T104 x1 x17).f3) ((rd_T104 x1 x17).f4.f0) ((rd_T104 x1 x17).f4.f1) ((rd_T104 x1 x17).f5.f0) ((rd_T104 x1 x17).f5.f1) ((rd_T104 x1 x17).f6) ((rd_T104 x1 x17).f7)).bind fun t105 => (if t105 = true then (impl_Node.l0 k x1 x15 x16 (wrap64 (x17 + 1))) else (some false))) else (none)) else (none)) else (none)) else (some true)
def impl_Node.f (k : Nat) (l0 : List (S104)) (l1 : List (S104))  : Option (Bool) := if (l0.length : Int) = (l1.length : Int) then (impl_Node.l0 k l1 l0 (l0.length : Int) 0) else (some false)
theorem impl_Node.mono_l : ∀ k, (∀ y0 y1 y2 y3, LeO (impl_Node.l0 k y0 y1 y2 y3) (impl_Node.l0 (k + 1) y0 y1 y2 y3))
 | 0 => fun _ _ _ _ r h => by simp [impl_Node.l0] at h
 | k + 1 => by
  have ih0 := impl_Node.mono_l k
  intro y0 y1 y2 y3
  unfold impl_Node.l0
  repeat' first
   | (with_reducible exact ih0 _ _ _ _)
   | (with_reducible exact impl_GraphSame_1.mono _ _ _ _ _ _ _ _ _ _ _ _ _ _ _ _ _ _ _ _ _)
   | (with_reducible exact LeO.refl _)
   | (with_reducible exact LeO.none _)
   | (with_reducible refine LeO.ite ?_ ?_)
   | (with_reducible refine LeO.bind ?_ (fun _ => ?_))
   | exact ih0 _ _ _ _
   | exact LeO.none _
   | refine LeO.ite ?_ ?_
   | refine LeO.bind ?_ (fun _ => ?_)
theorem impl_Node.mono : ∀ a0 a1 k, LeO (impl_Node.f k a0 a1) (impl_Node.f (k + 1) a0 a1) := by
  intro a0 a1 k
  have ih0 := impl_Node.mono_l k
  unfold impl_Node.f
  repeat' first
   | (with_reducible exact ih0 _ _ _ _)
   | (with_reducible exact impl_GraphSame_1.mono _ _ _ _ _ _ _ _ _ _ _ _ _ _ _ _ _ _ _ _ _)
   | (with_reducible exact LeO.refl _)
   | (with_reducible exact LeO.none _)
   | (with_reducible refine LeO.ite ?_ ?_)
   | (with_reducible refine LeO.bind ?_ (fun _ => ?_))
   | exact ih0 _ _ _ _
   | exact LeO.none _
   | refine LeO.ite ?_ ?_
   | refine LeO.bind ?_ (fun _ => ?_)
def impl_Node.one (k : Nat) (x y : S104) : Option Bool := impl_GraphSame_1.f k x.f0 x.f1 x.f2 x.f3 x.f4.f0 x.f4.f1 x.f5.f0 x.f5.f1 x.f6 x.f7 y.f0 y.f1 y.f2 y.f3 y.f4.f0 y.f4.f1 y.f5.f0 y.f5.f1 y.f6 y.f7
def impl_Node.p (k : Nat) (x y : S104) : Bool := (impl_Node.one k x y).getD false
theorem impl_Node.loop (k : Nat) (xs ys : List S104) (r : Bool) (hl : xs.length ≤ 9223372036854775807) : ∀ kq e n : Nat, kq ≤ k → n + e = xs.length → impl_Node.l0 kq ys xs (xs.length : Int) (n : Int) = some r →
  allGo (impl_Node.p k) z104 xs ys e n = r ∧ ∀ q, n ≤ q → q < xs.length → (∀ m, n ≤ m → m < q → impl_Node.p k (xs.getD m z104) (ys.getD m z104) = true) → ∃ v, impl_Node.one k (xs.getD q z104) (ys.getD q z104) = some v
 | 0, _, _, _, _, h => by simp [impl_Node.l0] at h
 | kq + 1, 0, n, _, hn, h => by
  simp only [impl_Node.l0] at h
  rw [if_neg (by omega)] at h
  exact ⟨Option.some.inj h, fun q h1 h2 => by omega⟩
 | kq + 1, e + 1, n, hk, hn, h => by
  simp only [impl_Node.l0] at h
  rw [if_pos (by omega), if_pos (by omega), if_pos (by omega)] at h
  by_cases hy : (n : Int) < (ys.length : Int)
  case neg => rw [if_neg hy] at h;cases h
  rw [if_pos hy] at h
  obtain ⟨v, hv, h⟩ := Option.bind_eq_some_iff.1 h
  have hv1 : impl_Node.one k (xs.getD n z104) (ys.getD n z104) = some v := at_rounds (g := fun k => impl_Node.one k (xs.getD n z104) (ys.getD n z104)) (fun k => impl_GraphSame_1.mono _ _ _ _ _ _ _ _ _ _ _ _ _ _ _ _ _ _ _ _ k) (show kq ≤ k by omega) hv
  have hp : impl_Node.p k (xs.getD n z104) (ys.getD n z104) = v := by unfold impl_Node.p;rw [hv1];rfl
  cases v with
  | false =>
   rw [if_neg (by decide)] at h
   refine ⟨by rw [allGo, hp, Bool.false_and];exact Option.some.inj h, fun q h1 h2 h3 => ?_⟩
   rcases Nat.eq_or_lt_of_le h1 with rfl | h4
   ·exact ⟨_, hv1⟩
   ·have := h3 n (Nat.le_refl _) h4
    rw [hp] at this
    cases this
  | true =>
   rw [if_pos rfl, show wrap64 ((n : Int) + 1) = ((n + 1 : Nat) : Int) by unfold wrap64;omega] at h
   obtain ⟨g1, g2⟩ := impl_Node.loop k xs ys r hl kq e (n + 1) (by omega) (by omega) h
   refine ⟨by rw [allGo, hp, Bool.true_and];exact g1, fun q h1 h2 h3 => ?_⟩
   rcases Nat.eq_or_lt_of_le h1 with rfl | h4
   ·exact ⟨_, hv1⟩
   ·exact g2 q (by omega) h2 (fun m m1 m2 => h3 m (by omega) m2)
theorem impl_Node.calls (k : Nat) (A0 : Option Addr) (c0 : Nat) (l0 : List (S104)) (A1 : Option Addr) (c1 : Nat) (l1 : List (S104)) (r : Bool) (w : World) (hr0 : Kd.C k104 w A0 l0.length l0) (hc0 : l0.length ≤ c0) (hr1 : Kd.C k104 w A1 l1.length l1) (hc1 : l1.length ≤ c1) (h : impl_Node.f k l0 l1 = some r) :
 Calls Try.prog 81 #[.slice A0 l0.length c0, .slice A1 l1.length c1, .func (.func 82) #[] #[]] w fun e w' => e = .returned (.bool r) ∧ Below w.heap.size w w' := by
 unfold impl_Node.f at h
 have hl : l0.length ≤ 9223372036854775807 := hr0.2.1
 by_cases hlen : l0.length = l1.length
 ·rw [if_pos (by omega)] at h
  obtain ⟨h1, h2⟩ := impl_Node.loop k l0 l1 r hl k l0.length 0 (Nat.le_refl _) (by omega) h
  have g := equalNodes_walk (impl_Node.p k) A0 A1 c0 c1 l0 l1 w hr0 hc0 hr1 hc1 (fun _ n hn hm A3 A4 A5 A6 A7 A8 B3 B4 B5 B6 B7 B8 c3 c4 c5 c6 c7 c8 d3 d4 d5 d6 d7 d8 W hx hy => by
   obtain ⟨v, hv⟩ := h2 n (Nat.zero_le _) hn (fun m _ h => hm m h)
   have hp : impl_Node.p k (l0.getD n z104) (l1.getD n z104) = v := by unfold impl_Node.p;rw [hv];rfl
   rw [hp]
   obtain ⟨⟨l3, g3⟩, ⟨l4, g4⟩, ⟨l5, g5⟩, ⟨l6, g6⟩, ⟨l7, g7⟩, ⟨l8, g8⟩⟩ := hx
   obtain ⟨⟨m3, q3⟩, ⟨m4, q4⟩, ⟨m5, q5⟩, ⟨m6, q6⟩, ⟨m7, q7⟩, ⟨m8, q8⟩⟩ := hy
   exact impl_GraphSame_1.calls k _ _ _ A3 c3 _ A4 c4 _ A5 c5 _ A6 c6 _ A7 c7 _ A8 c8 _ _ _ _ _ B3 d3 _ B4 d4 _ B5 d5 _ B6 d6 _ B7 d7 _ B8 d8 _ _ v W g3 l3 g4 l4 g5 l5 g6 l6 g7 l7 g8 l8 q3 m3 q4 m4 q5 m5 q6 m6 q7 m7 q8 m8 hv)
  rw [decide_eq_true hlen, Bool.true_and, h1] at g
  exact g
 ·rw [if_neg (by omega)] at h
  have g := equalNodes_walk (fun _ _ => true) A0 A1 c0 c1 l0 l1 w hr0 hc0 hr1 hc1 (fun e => absurd e hlen)
  rw [decide_eq_false hlen, Bool.false_and] at g
  rw [← Option.some.inj h]
  exact g

end Go.Proofs.Ytdljhokealbnnaa.M
namespace Go.Proofs.Ytdljhokealbnnaa.M
open Go.RowKit Go.Proofs.YtdljhokealbnnaaW.PrintWords Go.Proofs.YtdljhokealbnnaaW.PrintLast Go.Proofs.YtdljhokealbnnaaW.PrintMore
attribute [local go_sem] max2_int min2_int max_two min_two max_three min_three max_four min_four
set_option linter.unusedVariables false
set_option linter.unusedSimpArgs false

def impl_GraphSame.f (k : Nat) (a0_0 : Int) (l0_1 : List (S104)) (a0_2 : Int) (a0_3 : Int) (a0_4 : Bool) (a1_0 : Int) (l1_1 : List (S104)) (a1_2 : Int) (a1_3 : Int) (a1_4 : Bool) : Option (Bool) := if a0_0 = a1_0 then (if a0_2 = a1_2 then (if a0_3 = a1_3 then (if (a0_4 == a1_4) = true then ((impl_Node.f k l0_1 l1_1).bind fun t103 => (some t103)) else (some false)) else (some false)) else (some false)) else (some false)
theorem impl_GraphSame.mono : ∀ a0 a1 a2 a3 a4 a5 a6 a7 a8 a9 k, LeO (impl_GraphSame.f k a0 a1 a2 a3 a4 a5 a6 a7 a8 a9) (impl_GraphSame.f (k + 1) a0 a1 a2 a3 a4 a5 a6 a7 a8 a9) := by
 intro a0 a1 a2 a3 a4 a5 a6 a7 a8 a9 k
 unfold impl_GraphSame.f
 repeat' first
   | (with_reducible exact impl_Node.mono _ _ _)
   | (with_reducible exact LeO.refl _)
   | (with_reducible exact LeO.none _)
   | (with_reducible refine LeO.ite ?_ ?_)
   | (with_reducible refine LeO.bind ?_ (fun _ => ?_))
   | exact impl_Node.mono _ _ _
   | exact LeO.none _
   | refine LeO.ite ?_ ?_
   | refine LeO.bind ?_ (fun _ => ?_)
set_option maxHeartbeats 8000000 in
set_option maxRecDepth 100000 in
theorem impl_GraphSame.calls (k : Nat) (a0_0 : Int) (A0_1 : Option Addr) (c0_1 : Nat) (l0_1 : List (S104)) (a0_2 : Int) (a0_3 : Int) (a0_4 : Bool) (a1_0 : Int) (A1_1 : Option Addr) (c1_1 : Nat) (l1_1 : List (S104)) (a1_2 : Int) (a1_3 : Int) (a1_4 : Bool) (r : Bool) (w : World) (hr0_1 : Kd.C k104 w A0_1 l0_1.length l0_1) (hc0_1 : l0_1.length ≤ c0_1) (hr1_1 : Kd.C k104 w A1_1 l1_1.length l1_1) (hc1_1 : l1_1.length ≤ c1_1) (h : impl_GraphSame.f k a0_0 l0_1 a0_2 a0_3 a0_4 a1_0 l1_1 a1_2 a1_3 a1_4 = some r) :
  Calls Try.prog 49 #[.agg #[.int .i64 a0_0, .slice A0_1 l0_1.length c0_1, .int .i64 a0_2, .int .i64 a0_3, .bool a0_4], .agg #[.int .i64 a1_0, .slice A1_1 l1_1.length c1_1, .int .i64 a1_2, .int .i64 a1_3, .bool a1_4]] w fun e w' => e = .returned (.bool r) ∧ Below w.heap.size w w' := by
 have hu63 := Try.underlying63
 have HR0_1 := Aside0.mk hr0_1
 have HC0_1 := Aside0.mk hc0_1
 clear hr0_1 hc0_1
 have HR1_1 := Aside0.mk hr1_1
 have HC1_1 := Aside0.mk hc1_1
 clear hr1_1 hc1_1
 have HB := Aside0.mk (Below.refl w.heap.size w)
 have H : (if a0_0 = a1_0 then (if a0_2 = a1_2 then (if a0_3 = a1_3 then (if (a0_4 == a1_4) = true then ((impl_Node.f k l0_1 l1_1).bind fun t103 => (some t103)) else (some false)) else (some false)) else (some false)) else (some false)) = some r := h
 clear h
 by_cases c3 : a0_0 = a1_0
 ·rw [if_pos c3] at H
  have c3b0 : (a0_0 == a1_0) = true := beq_iff_eq.mpr c3
  have c3b1 : (a0_0 != a1_0) = false := bne_eq_false_iff_eq.mpr c3
  clear c3
  by_cases c4 : a0_2 = a1_2
  ·rw [if_pos c4] at H
   have c4b0 : (a0_2 == a1_2) = true := beq_iff_eq.mpr c4
   have c4b1 : (a0_2 != a1_2) = false := bne_eq_false_iff_eq.mpr c4
   clear c4
   by_cases c5 : a0_3 = a1_3
   ·rw [if_pos c5] at H
    have c5b0 : (a0_3 == a1_3) = true := beq_iff_eq.mpr c5
    have c5b1 : (a0_3 != a1_3) = false := bne_eq_false_iff_eq.mpr c5
    clear c5
    by_cases c6 : (a0_4 == a1_4) = true
    ·rw [if_pos c6] at H
     have c6b0 : (a0_4 == a1_4) = true := c6
     (try (have c6b1 : decide (a0_4 = a1_4) = true := by simpa using c6))
     (try (have c6b2 : (a0_4 == a1_4) = true := by simpa using c6))
     clear c6
     replace H := Option.bind_eq_some_iff.mp H
     obtain ⟨t103, A70, H⟩ := H
     replace H : (some t103) = some r := H
     have A7 := Aside0.mk A70
     clear A70
     obtain rfl := Option.some.inj H
     go_enter Try.func49, Try.ntmps49
     go_wp2_with (first | ((with_reducible refine gate_dst (N := 2) rfl ?_);refine box_event ?hg (N := 2) ?hd (cs := #[.int .i64 a0_0, .slice A0_1 l0_1.length c0_1, .int .i64 a0_2, .int .i64 a0_3, .bool a0_4]) (t := 63) ?hr ?_;(case hd => rfl);(case hg => rfl);(case hr => first | (go_simp;done) | (go_simp;rfl));intro gb101 hg w8 hbox hb;have BK101 := Aside0.mk (hbox);have GW101 := Aside0.mk ((by rw [hg];exact (below_size (by exact HB.out)) : w.heap.size ≤ gb101));have GE101 := Aside0.mk ((by rw [hg];exact (below_size (by exact HB.out)) : w.heap.size ≤ gb101));replace HB := Aside0.mk (below_step (by exact HB.out) hb);clear hb hbox hg) | ((with_reducible refine gate_dst (N := 3) rfl ?_);refine box_event ?hg (N := 3) ?hd (cs := #[.int .i64 a1_0, .slice A1_1 l1_1.length c1_1, .int .i64 a1_2, .int .i64 a1_3, .bool a1_4]) (t := 63) ?hr ?_;(case hd => rfl);(case hg => rfl);(case hr => first | (go_simp;done) | (go_simp;rfl));intro gb102 hg w9 hbox hb;have BK102 := Aside0.mk (hbox);have GW102 := Aside0.mk ((by rw [hg];exact (below_size (by exact HB.out)) : w.heap.size ≤ gb102));have GE102 := Aside0.mk ((by rw [hg];exact (below_size (by exact HB.out)) : w.heap.size ≤ gb102));replace HB := Aside0.mk (below_step (by exact HB.out) hb);have NB101_102 := Aside0.mk ((by rw [hg];exact Nat.ne_of_lt (blk_lt BK101.out) : gb101 ≠ gb102));have NB102_101 := Aside0.mk ((by rw [hg];exact Nat.ne_of_gt (blk_lt BK101.out) : gb102 ≠ gb101));replace BK101 := Aside0.mk (blk_below BK101.out hb);clear hb hbox hg;have hnb10 := NB101_102.out;have hnc10 := NB102_101.out;obtain ⟨hcz11_0, hcz11_1, hcz11_2, hcz11_3, hcz11_4, hfz11_0, hfz11_1, hfz11_2, hfz11_3, hfz11_4⟩ := bx5 BK101.out;obtain ⟨hcz12_0, hcz12_1, hcz12_2, hcz12_3, hcz12_4, hfz12_0, hfz12_1, hfz12_2, hfz12_3, hfz12_4⟩ := bx5 BK102.out) | (go_at_call 81;(with_reducible refine (impl_Node.calls k _ _ l0_1 _ _ l1_1  t103 _ ?side1 ?side2 ?side3 ?side4 A7.out).mono ?_);(case side1 => repeat (first | exact (Kd.C_below HR0_1.out HB.out) | (with_reducible refine Kd.C_alloc ?_ _) | (with_reducible refine Kd.C_drewN ?_ _) | (with_reducible refine Kd.C_drew ?_)));(case side2 => exact HC0_1.out);(case side3 => repeat (first | exact (Kd.C_below HR1_1.out HB.out) | (with_reducible refine Kd.C_alloc ?_ _) | (with_reducible refine Kd.C_drewN ?_ _) | (with_reducible refine Kd.C_drew ?_)));(case side4 => exact HC1_1.out);rintro e w13 ⟨rfl, hb⟩;replace BK101 := Aside0.mk (blk_below BK101.out hb);replace BK102 := Aside0.mk (blk_below BK102.out hb);replace HB := Aside0.mk (below_step (by exact HB.out) hb);(try clear hb);(try clear hb2);(try clear hk);(try clear hi)))
     go_ret
     exact ⟨by first | rfl | (simp [errW_none, errW_some] <;> rfl) | (simp [*, errW_none, errW_some] <;> rfl), by repeat (first | (with_reducible first | exact HB.out | apply below_alloc | apply pw_below_drewN | apply below_drew1 | refine below_set ?_ GE101.out | refine below_set ?_ GE102.out) | exact HB.out)⟩
    ·rw [if_neg c6] at H
     have c6b0 : (a0_4 == a1_4) = false := by simpa using c6
     (try (have c6b1 : decide (a0_4 = a1_4) = false := by simpa using c6))
     (try (have c6b2 : (a0_4 == a1_4) = false := by simpa using c6))
     (try (have c6b3 : ¬ (a0_4 = a1_4) := by simpa using c6))
     clear c6
     obtain rfl := Option.some.inj H
     go_enter Try.func49, Try.ntmps49
     go_wp2_with (first | ((with_reducible refine gate_dst (N := 2) rfl ?_);refine box_event ?hg (N := 2) ?hd (cs := #[.int .i64 a0_0, .slice A0_1 l0_1.length c0_1, .int .i64 a0_2, .int .i64 a0_3, .bool a0_4]) (t := 63) ?hr ?_;(case hd => rfl);(case hg => rfl);(case hr => first | (go_simp;done) | (go_simp;rfl));intro gb101 hg w14 hbox hb;have BK101 := Aside0.mk (hbox);have GW101 := Aside0.mk ((by rw [hg];exact (below_size (by exact HB.out)) : w.heap.size ≤ gb101));have GE101 := Aside0.mk ((by rw [hg];exact (below_size (by exact HB.out)) : w.heap.size ≤ gb101));replace HB := Aside0.mk (below_step (by exact HB.out) hb);clear hb hbox hg) | ((with_reducible refine gate_dst (N := 3) rfl ?_);refine box_event ?hg (N := 3) ?hd (cs := #[.int .i64 a1_0, .slice A1_1 l1_1.length c1_1, .int .i64 a1_2, .int .i64 a1_3, .bool a1_4]) (t := 63) ?hr ?_;(case hd => rfl);(case hg => rfl);(case hr => first | (go_simp;done) | (go_simp;rfl));intro gb102 hg w15 hbox hb;have BK102 := Aside0.mk (hbox);have GW102 := Aside0.mk ((by rw [hg];exact (below_size (by exact HB.out)) : w.heap.size ≤ gb102));have GE102 := Aside0.mk ((by rw [hg];exact (below_size (by exact HB.out)) : w.heap.size ≤ gb102));replace HB := Aside0.mk (below_step (by exact HB.out) hb);have NB101_102 := Aside0.mk ((by rw [hg];exact Nat.ne_of_lt (blk_lt BK101.out) : gb101 ≠ gb102));have NB102_101 := Aside0.mk ((by rw [hg];exact Nat.ne_of_gt (blk_lt BK101.out) : gb102 ≠ gb101));replace BK101 := Aside0.mk (blk_below BK101.out hb);clear hb hbox hg;have hnb16 := NB101_102.out;have hnc16 := NB102_101.out;obtain ⟨hcz17_0, hcz17_1, hcz17_2, hcz17_3, hcz17_4, hfz17_0, hfz17_1, hfz17_2, hfz17_3, hfz17_4⟩ := bx5 BK101.out;obtain ⟨hcz18_0, hcz18_1, hcz18_2, hcz18_3, hcz18_4, hfz18_0, hfz18_1, hfz18_2, hfz18_3, hfz18_4⟩ := bx5 BK102.out))
     go_ret
     exact ⟨by first | rfl | (simp [errW_none, errW_some] <;> rfl) | (simp [*, errW_none, errW_some] <;> rfl), by repeat (first | (with_reducible first | exact HB.out | apply below_alloc | apply pw_below_drewN | apply below_drew1 | refine below_set ?_ GE101.out | refine below_set ?_ GE102.out) | exact HB.out)⟩
   ·rw [if_neg c5] at H
    have c5b0 : (a0_3 == a1_3) = false := beq_eq_false_iff_ne.mpr c5
    have c5b1 : (a0_3 != a1_3) = true := bne_iff_ne.mpr c5
    obtain rfl := Option.some.inj H
    go_enter Try.func49, Try.ntmps49
    go_wp2_with (first | ((with_reducible refine gate_dst (N := 2) rfl ?_);refine box_event ?hg (N := 2) ?hd (cs := #[.int .i64 a0_0, .slice A0_1 l0_1.length c0_1, .int .i64 a0_2, .int .i64 a0_3, .bool a0_4]) (t := 63) ?hr ?_;(case hd => rfl);(case hg => rfl);(case hr => first | (go_simp;done) | (go_simp;rfl));intro gb101 hg w19 hbox hb;have BK101 := Aside0.mk (hbox);have GW101 := Aside0.mk ((by rw [hg];exact (below_size (by exact HB.out)) : w.heap.size ≤ gb101));have GE101 := Aside0.mk ((by rw [hg];exact (below_size (by exact HB.out)) : w.heap.size ≤ gb101));replace HB := Aside0.mk (below_step (by exact HB.out) hb);clear hb hbox hg) | ((with_reducible refine gate_dst (N := 3) rfl ?_);refine box_event ?hg (N := 3) ?hd (cs := #[.int .i64 a1_0, .slice A1_1 l1_1.length c1_1, .int .i64 a1_2, .int .i64 a1_3, .bool a1_4]) (t := 63) ?hr ?_;(case hd => rfl);(case hg => rfl);(case hr => first | (go_simp;done) | (go_simp;rfl));intro gb102 hg w20 hbox hb;have BK102 := Aside0.mk (hbox);have GW102 := Aside0.mk ((by rw [hg];exact (below_size (by exact HB.out)) : w.heap.size ≤ gb102));have GE102 := Aside0.mk ((by rw [hg];exact (below_size (by exact HB.out)) : w.heap.size ≤ gb102));replace HB := Aside0.mk (below_step (by exact HB.out) hb);have NB101_102 := Aside0.mk ((by rw [hg];exact Nat.ne_of_lt (blk_lt BK101.out) : gb101 ≠ gb102));have NB102_101 := Aside0.mk ((by rw [hg];exact Nat.ne_of_gt (blk_lt BK101.out) : gb102 ≠ gb101));replace BK101 := Aside0.mk (blk_below BK101.out hb);clear hb hbox hg;have hnb21 := NB101_102.out;have hnc21 := NB102_101.out;obtain ⟨hcz22_0, hcz22_1, hcz22_2, hcz22_3, hcz22_4, hfz22_0, hfz22_1, hfz22_2, hfz22_3, hfz22_4⟩ := bx5 BK101.out;obtain ⟨hcz23_0, hcz23_1, hcz23_2, hcz23_3, hcz23_4, hfz23_0, hfz23_1, hfz23_2, hfz23_3, hfz23_4⟩ := bx5 BK102.out))
    go_ret
    exact ⟨by first | rfl | (simp [errW_none, errW_some] <;> rfl) | (simp [*, errW_none, errW_some] <;> rfl), by repeat (first | (with_reducible first | exact HB.out | apply below_alloc | apply pw_below_drewN | apply below_drew1 | refine below_set ?_ GE101.out | refine below_set ?_ GE102.out) | exact HB.out)⟩
  ·rw [if_neg c4] at H
   have c4b0 : (a0_2 == a1_2) = false := beq_eq_false_iff_ne.mpr c4
   have c4b1 : (a0_2 != a1_2) = true := bne_iff_ne.mpr c4
   obtain rfl := Option.some.inj H
   go_enter Try.func49, Try.ntmps49
   go_wp2_with (first | ((with_reducible refine gate_dst (N := 2) rfl ?_);refine box_event ?hg (N := 2) ?hd (cs := #[.int .i64 a0_0, .slice A0_1 l0_1.length c0_1, .int .i64 a0_2, .int .i64 a0_3, .bool a0_4]) (t := 63) ?hr ?_;(case hd => rfl);(case hg => rfl);(case hr => first | (go_simp;done) | (go_simp;rfl));intro gb101 hg w24 hbox hb;have BK101 := Aside0.mk (hbox);have GW101 := Aside0.mk ((by rw [hg];exact (below_size (by exact HB.out)) : w.heap.size ≤ gb101));have GE101 := Aside0.mk ((by rw [hg];exact (below_size (by exact HB.out)) : w.heap.size ≤ gb101));replace HB := Aside0.mk (below_step (by exact HB.out) hb);clear hb hbox hg) | ((with_reducible refine gate_dst (N := 3) rfl ?_);refine box_event ?hg (N := 3) ?hd (cs := #[.int .i64 a1_0, .slice A1_1 l1_1.length c1_1, .int .i64 a1_2, .int .i64 a1_3, .bool a1_4]) (t := 63) ?hr ?_;(case hd => rfl);(case hg => rfl);(case hr => first | (go_simp;done) | (go_simp;rfl));intro gb102 hg w25 hbox hb;have BK102 := Aside0.mk (hbox);have GW102 := Aside0.mk ((by rw [hg];exact (below_size (by exact HB.out)) : w.heap.size ≤ gb102));have GE102 := Aside0.mk ((by rw [hg];exact (below_size (by exact HB.out)) : w.heap.size ≤ gb102));replace HB := Aside0.mk (below_step (by exact HB.out) hb);have NB101_102 := Aside0.mk ((by rw [hg];exact Nat.ne_of_lt (blk_lt BK101.out) : gb101 ≠ gb102));have NB102_101 := Aside0.mk ((by rw [hg];exact Nat.ne_of_gt (blk_lt BK101.out) : gb102 ≠ gb101));replace BK101 := Aside0.mk (blk_below BK101.out hb);clear hb hbox hg;have hnb26 := NB101_102.out;have hnc26 := NB102_101.out;obtain ⟨hcz27_0, hcz27_1, hcz27_2, hcz27_3, hcz27_4, hfz27_0, hfz27_1, hfz27_2, hfz27_3, hfz27_4⟩ := bx5 BK101.out;obtain ⟨hcz28_0, hcz28_1, hcz28_2, hcz28_3, hcz28_4, hfz28_0, hfz28_1, hfz28_2, hfz28_3, hfz28_4⟩ := bx5 BK102.out))
   go_ret
   exact ⟨by first | rfl | (simp [errW_none, errW_some] <;> rfl) | (simp [*, errW_none, errW_some] <;> rfl), by repeat (first | (with_reducible first | exact HB.out | apply below_alloc | apply pw_below_drewN | apply below_drew1 | refine below_set ?_ GE101.out | refine below_set ?_ GE102.out) | exact HB.out)⟩
 ·rw [if_neg c3] at H
  have c3b0 : (a0_0 == a1_0) = false := beq_eq_false_iff_ne.mpr c3
  have c3b1 : (a0_0 != a1_0) = true := bne_iff_ne.mpr c3
  obtain rfl := Option.some.inj H
  go_enter Try.func49, Try.ntmps49
  go_wp2_with (first | ((with_reducible refine gate_dst (N := 2) rfl ?_);refine box_event ?hg (N := 2) ?hd (cs := #[.int .i64 a0_0, .slice A0_1 l0_1.length c0_1, .int .i64 a0_2, .int .i64 a0_3, .bool a0_4]) (t := 63) ?hr ?_;(case hd => rfl);(case hg => rfl);(case hr => first | (go_simp;done) | (go_simp;rfl));intro gb101 hg w29 hbox hb;have BK101 := Aside0.mk (hbox);have GW101 := Aside0.mk ((by rw [hg];exact (below_size (by exact HB.out)) : w.heap.size ≤ gb101));have GE101 := Aside0.mk ((by rw [hg];exact (below_size (by exact HB.out)) : w.heap.size ≤ gb101));replace HB := Aside0.mk (below_step (by exact HB.out) hb);clear hb hbox hg) | ((with_reducible refine gate_dst (N := 3) rfl ?_);refine box_event ?hg (N := 3) ?hd (cs := #[.int .i64 a1_0, .slice A1_1 l1_1.length c1_1, .int .i64 a1_2, .int .i64 a1_3, .bool a1_4]) (t := 63) ?hr ?_;(case hd => rfl);(case hg => rfl);(case hr => first | (go_simp;done) | (go_simp;rfl));intro gb102 hg w30 hbox hb;have BK102 := Aside0.mk (hbox);have GW102 := Aside0.mk ((by rw [hg];exact (below_size (by exact HB.out)) : w.heap.size ≤ gb102));have GE102 := Aside0.mk ((by rw [hg];exact (below_size (by exact HB.out)) : w.heap.size ≤ gb102));replace HB := Aside0.mk (below_step (by exact HB.out) hb);have NB101_102 := Aside0.mk ((by rw [hg];exact Nat.ne_of_lt (blk_lt BK101.out) : gb101 ≠ gb102));have NB102_101 := Aside0.mk ((by rw [hg];exact Nat.ne_of_gt (blk_lt BK101.out) : gb102 ≠ gb101));replace BK101 := Aside0.mk (blk_below BK101.out hb);clear hb hbox hg;have hnb31 := NB101_102.out;have hnc31 := NB102_101.out;obtain ⟨hcz32_0, hcz32_1, hcz32_2, hcz32_3, hcz32_4, hfz32_0, hfz32_1, hfz32_2, hfz32_3, hfz32_4⟩ := bx5 BK101.out;obtain ⟨hcz33_0, hcz33_1, hcz33_2, hcz33_3, hcz33_4, hfz33_0, hfz33_1, hfz33_2, hfz33_3, hfz33_4⟩ := bx5 BK102.out))
  go_ret
  exact ⟨by first | rfl | (simp [errW_none, errW_some] <;> rfl) | (simp [*, errW_none, errW_some] <;> rfl), by repeat (first | (with_reducible first | exact HB.out | apply below_alloc | apply pw_below_drewN | apply below_drew1 | refine below_set ?_ GE101.out | refine below_set ?_ GE102.out) | exact HB.out)⟩

end Go.Proofs.Ytdljhokealbnnaa.M
namespace Go.Proofs.Ytdljhokealbnnaa.M
open Go.RowKit Go.Proofs.YtdljhokealbnnaaW.PrintWords Go.Proofs.YtdljhokealbnnaaW.PrintLast Go.Proofs.YtdljhokealbnnaaW.PrintMore
attribute [local go_sem] max2_int min2_int max_two min_two max_three min_three max_four min_four
set_option linter.unusedVariables false
set_option linter.unusedSimpArgs false

def laws_FnExactGraphSame.f (k : Nat) (a0_0 : Int) (l0_1 : List (S141)) (a0_2 : Int) (a0_3 : Int) (a0_4 : Bool) (a1_0 : Int) (l1_1 : List (S141)) (a1_2 : Int) (a1_3 : Int) (a1_4 : Bool) : Option (Bool) := (laws_szGraph.f k a0_0 l0_1 a0_2 a0_3 a0_4 1048576).bind fun t103 => (if t103 < 0 then (some true) else ((laws_szGraph.f k a1_0 l1_1 a1_2 a1_3 a1_4 t103).bind fun t104 => (if t104 < 0 then (some true) else ((laws_toGraph.f k a0_0 l0_1 a0_2 a0_3 a0_4).bind fun bt105 => ((laws_toGraph.f k a1_0 l1_1 a1_2 a1_3 a1_4).bind fun bt112 => ((spec_GraphSame.f k bt105.1 bt105.2.1 bt105.2.2.1 bt105.2.2.2.1 bt105.2.2.2.2 bt112.1 bt112.2.1 bt112.2.2.1 bt112.2.2.2.1 bt112.2.2.2.2).bind fun t119 => ((laws_toGraph.f k a0_0 l0_1 a0_2 a0_3 a0_4).bind fun bt120 => ((laws_toGraph.f k a1_0 l1_1 a1_2 a1_3 a1_4).bind fun bt128 => ((impl_GraphSame.f k bt120.1 bt120.2.1 bt120.2.2.1 bt120.2.2.2.1 bt120.2.2.2.2 bt128.1 bt128.2.1 bt128.2.2.1 bt128.2.2.2.1 bt128.2.2.2.2).bind fun t136 => (if (t136 != t119) = true then (some false) else ((laws_toGraph.f k a0_0 l0_1 a0_2 a0_3 a0_4).bind fun bt137 => ((laws_eqGraph.f k bt120.1 bt120.2.1 bt120.2.2.1 bt120.2.2.2.1 bt120.2.2.2.2 bt137.1 bt137.2.1 bt137.2.2.1 bt137.2.2.2.1 bt137.2.2.2.2).bind fun t144 => (if t144 = true then ((laws_toGraph.f k a1_0 l1_1 a1_2 a1_3 a1_4).bind fun bt145 => ((laws_eqGraph.f k bt128.1 bt128.2.1 bt128.2.2.1 bt128.2.2.2.1 bt128.2.2.2.2 bt145.1 bt145.2.1 bt145.2.2.1 bt145.2.2.2.1 bt145.2.2.2.2).bind fun t152 => (if t152 = true then (some true) else (some false)))) else (some false))))))))))))))
theorem laws_FnExactGraphSame.mono : ∀ a0 a1 a2 a3 a4 a5 a6 a7 a8 a9 k, LeO (laws_FnExactGraphSame.f k a0 a1 a2 a3 a4 a5 a6 a7 a8 a9) (laws_FnExactGraphSame.f (k + 1) a0 a1 a2 a3 a4 a5 a6 a7 a8 a9) := by
 intro a0 a1 a2 a3 a4 a5 a6 a7 a8 a9 k
 unfold laws_FnExactGraphSame.f
 repeat' first
   | (with_reducible exact impl_GraphSame.mono _ _ _ _ _ _ _ _ _ _ _)
   | (with_reducible exact laws_eqGraph.mono _ _ _ _ _ _ _ _ _ _ _)
   | (with_reducible exact laws_szGraph.mono _ _ _ _ _ _ _)
   | (with_reducible exact laws_toGraph.mono _ _ _ _ _ _)
   | (with_reducible exact spec_GraphSame.mono _ _ _ _ _ _ _ _ _ _ _)
   | (with_reducible exact LeO.refl _)
   | (with_reducible exact LeO.none _)
   | (with_reducible refine LeO.ite ?_ ?_)
   | (with_reducible refine LeO.bind ?_ (fun _ => ?_))
   | exact impl_GraphSame.mono _ _ _ _ _ _ _ _ _ _ _
   | exact laws_eqGraph.mono _ _ _ _ _ _ _ _ _ _ _
   | exact laws_szGraph.mono _ _ _ _ _ _ _
   | exact laws_toGraph.mono _ _ _ _ _ _
   | exact spec_GraphSame.mono _ _ _ _ _ _ _ _ _ _ _
   | exact LeO.none _
   | refine LeO.ite ?_ ?_
   | refine LeO.bind ?_ (fun _ => ?_)
set_option maxHeartbeats 8000000 in
set_option maxRecDepth 100000 in
theorem laws_FnExactGraphSame.calls (k : Nat) (a0_0 : Int) (A0_1 : Option Addr) (c0_1 : Nat) (l0_1 : List (S141)) (a0_2 : Int) (a0_3 : Int) (a0_4 : Bool) (a1_0 : Int) (A1_1 : Option Addr) (c1_1 : Nat) (l1_1 : List (S141)) (a1_2 : Int) (a1_3 : Int) (a1_4 : Bool) (r : Bool) (hT_ : Aside0 (r = true)) (w : World) (hr0_1 : Kd.C k141 w A0_1 l0_1.length l0_1) (hc0_1 : l0_1.length ≤ c0_1) (hr1_1 : Kd.C k141 w A1_1 l1_1.length l1_1) (hc1_1 : l1_1.length ≤ c1_1) (h : laws_FnExactGraphSame.f k a0_0 l0_1 a0_2 a0_3 a0_4 a1_0 l1_1 a1_2 a1_3 a1_4 = some r) :
  Calls Try.prog 12 #[.agg #[.int .i64 a0_0, .slice A0_1 l0_1.length c0_1, .int .i64 a0_2, .int .i64 a0_3, .bool a0_4], .agg #[.int .i64 a1_0, .slice A1_1 l1_1.length c1_1, .int .i64 a1_2, .int .i64 a1_3, .bool a1_4]] w fun e w' => e = .returned (.bool r) ∧ Below w.heap.size w w' := by
 have hu71 := Try.underlying71
 have hu63 := Try.underlying63
 have HR0_1 := Aside0.mk hr0_1
 have HC0_1 := Aside0.mk hc0_1
 clear hr0_1 hc0_1
 have HR1_1 := Aside0.mk hr1_1
 have HC1_1 := Aside0.mk hc1_1
 clear hr1_1 hc1_1
 have HB := Aside0.mk (Below.refl w.heap.size w)
 have H : ((laws_szGraph.f k a0_0 l0_1 a0_2 a0_3 a0_4 1048576).bind fun t103 => (if t103 < 0 then (some true) else ((laws_szGraph.f k a1_0 l1_1 a1_2 a1_3 a1_4 t103).bind fun t104 => (if t104 < 0 then (some true) else ((laws_toGraph.f k a0_0 l0_1 a0_2 a0_3 a0_4).bind fun bt105 => ((laws_toGraph.f k a1_0 l1_1 a1_2 a1_3 a1_4).bind fun bt112 => ((spec_GraphSame.f k bt105.1 bt105.2.1 bt105.2.2.1 bt105.2.2.2.1 bt105.2.2.2.2 bt112.1 bt112.2.1 bt112.2.2.1 bt112.2.2.2.1 bt112.2.2.2.2).bind fun t119 => ((laws_toGraph.f k a0_0 l0_1 a0_2 a0_3 a0_4).bind fun bt120 => ((laws_toGraph.f k a1_0 l1_1 a1_2 a1_3 a1_4).bind fun bt128 => ((impl_GraphSame.f k bt120.1 bt120.2.1 bt120.2.2.1 bt120.2.2.2.1 bt120.2.2.2.2 bt128.1 bt128.2.1 bt128.2.2.1 bt128.2.2.2.1 bt128.2.2.2.2).bind fun t136 => (if (t136 != t119) = true then (some false) else ((laws_toGraph.f k a0_0 l0_1 a0_2 a0_3 a0_4).bind fun bt137 => ((laws_eqGraph.f k bt120.1 bt120.2.1 bt120.2.2.1 bt120.2.2.2.1 bt120.2.2.2.2 bt137.1 bt137.2.1 bt137.2.2.1 bt137.2.2.2.1 bt137.2.2.2.2).bind fun t144 => (if t144 = true then ((laws_toGraph.f k a1_0 l1_1 a1_2 a1_3 a1_4).bind fun bt145 => ((laws_eqGraph.f k bt128.1 bt128.2.1 bt128.2.2.1 bt128.2.2.2.1 bt128.2.2.2.2 bt145.1 bt145.2.1 bt145.2.2.1 bt145.2.2.2.1 bt145.2.2.2.2).bind fun t152 => (if t152 = true then (some true) else (some false)))) else (some false))))))))))))))) = some r := h
 clear h
 replace H := Option.bind_eq_some_iff.mp H
 obtain ⟨t103, A30, H⟩ := H
 replace H : (if t103 < 0 then (some true) else ((laws_szGraph.f k a1_0 l1_1 a1_2 a1_3 a1_4 t103).bind fun t104 => (if t104 < 0 then (some true) else ((laws_toGraph.f k a0_0 l0_1 a0_2 a0_3 a0_4).bind fun bt105 => ((laws_toGraph.f k a1_0 l1_1 a1_2 a1_3 a1_4).bind fun bt112 => ((spec_GraphSame.f k bt105.1 bt105.2.1 bt105.2.2.1 bt105.2.2.2.1 bt105.2.2.2.2 bt112.1 bt112.2.1 bt112.2.2.1 bt112.2.2.2.1 bt112.2.2.2.2).bind fun t119 => ((laws_toGraph.f k a0_0 l0_1 a0_2 a0_3 a0_4).bind fun bt120 => ((laws_toGraph.f k a1_0 l1_1 a1_2 a1_3 a1_4).bind fun bt128 => ((impl_GraphSame.f k bt120.1 bt120.2.1 bt120.2.2.1 bt120.2.2.2.1 bt120.2.2.2.2 bt128.1 bt128.2.1 bt128.2.2.1 bt128.2.2.2.1 bt128.2.2.2.2).bind fun t136 => (if (t136 != t119) = true then (some false) else ((laws_toGraph.f k a0_0 l0_1 a0_2 a0_3 a0_4).bind fun bt137 => ((laws_eqGraph.f k bt120.1 bt120.2.1 bt120.2.2.1 bt120.2.2.2.1 bt120.2.2.2.2 bt137.1 bt137.2.1 bt137.2.2.1 bt137.2.2.2.1 bt137.2.2.2.2).bind fun t144 => (if t144 = true then ((laws_toGraph.f k a1_0 l1_1 a1_2 a1_3 a1_4).bind fun bt145 => ((laws_eqGraph.f k bt128.1 bt128.2.1 bt128.2.2.1 bt128.2.2.2.1 bt128.2.2.2.2 bt145.1 bt145.2.1 bt145.2.2.1 bt145.2.2.2.1 bt145.2.2.2.2).bind fun t152 => (if t152 = true then (some true) else (some false)))) else (some false)))))))))))))) = some r := H
 have A3 := Aside0.mk A30
 clear A30
 by_cases c4 : t103 < 0
 ·rw [if_pos c4] at H
  have c4b0 : decide (t103 < 0) = true := decide_eq_true c4
  clear c4
  obtain rfl := Option.some.inj H
  go_enter Try.func12, Try.ntmps12
  go_wp2_with (first | ((with_reducible refine gate_dst (N := 2) rfl ?_);refine box_event ?hg (N := 2) ?hd (cs := #[.int .i64 a0_0, .slice A0_1 l0_1.length c0_1, .int .i64 a0_2, .int .i64 a0_3, .bool a0_4]) (t := 71) ?hr ?_;(case hd => rfl);(case hg => rfl);(case hr => first | (go_simp;done) | (go_simp;rfl));intro gb101 hg w5 hbox hb;have BK101 := Aside0.mk (hbox);have GW101 := Aside0.mk ((by rw [hg];exact (below_size (by exact HB.out)) : w.heap.size ≤ gb101));have GE101 := Aside0.mk ((by rw [hg];exact (below_size (by exact HB.out)) : w.heap.size ≤ gb101));replace HB := Aside0.mk (below_step (by exact HB.out) hb);clear hb hbox hg) | ((with_reducible refine gate_dst (N := 3) rfl ?_);refine box_event ?hg (N := 3) ?hd (cs := #[.int .i64 a1_0, .slice A1_1 l1_1.length c1_1, .int .i64 a1_2, .int .i64 a1_3, .bool a1_4]) (t := 71) ?hr ?_;(case hd => rfl);(case hg => rfl);(case hr => first | (go_simp;done) | (go_simp;rfl));intro gb102 hg w6 hbox hb;have BK102 := Aside0.mk (hbox);have GW102 := Aside0.mk ((by rw [hg];exact (below_size (by exact HB.out)) : w.heap.size ≤ gb102));have GE102 := Aside0.mk ((by rw [hg];exact (below_size (by exact HB.out)) : w.heap.size ≤ gb102));replace HB := Aside0.mk (below_step (by exact HB.out) hb);have NB101_102 := Aside0.mk ((by rw [hg];exact Nat.ne_of_lt (blk_lt BK101.out) : gb101 ≠ gb102));have NB102_101 := Aside0.mk ((by rw [hg];exact Nat.ne_of_gt (blk_lt BK101.out) : gb102 ≠ gb101));replace BK101 := Aside0.mk (blk_below BK101.out hb);clear hb hbox hg;have hnb7 := NB101_102.out;have hnc7 := NB102_101.out;obtain ⟨hcz8_0, hcz8_1, hcz8_2, hcz8_3, hcz8_4, hfz8_0, hfz8_1, hfz8_2, hfz8_3, hfz8_4⟩ := bx5 BK101.out) | ((with_reducible refine gate_callee (f := 44) rfl ?_);refine goesL_ (some 12) rfl rfl Try.func44 (by kernel_rfl) rfl #[.agg #[.int .i64 a0_0, .slice A0_1 l0_1.length c0_1, .int .i64 a0_2, .int .i64 a0_3, .bool a0_4], .int .i64 1048576] rfl (by (try simp only [List.map_toArray, List.map_cons, List.map_nil]);first | done | rfl | (simp only [List.length_drop, List.length_take];rfl)) ?_;(with_reducible refine (laws_szGraph.calls k a0_0 _ _ l0_1 a0_2 a0_3 a0_4 1048576 t103 _ ?side1 ?side2 A3.out).mono ?_);(case side1 => repeat (first | exact (Kd.C_below HR0_1.out HB.out) | (with_reducible refine Kd.C_alloc ?_ _) | (with_reducible refine Kd.C_drewN ?_ _) | (with_reducible refine Kd.C_drew ?_)));(case side2 => exact HC0_1.out);rintro e w9 ⟨rfl, hb⟩;refine ⟨_, rfl, ?_⟩;replace BK101 := Aside0.mk (blk_below BK101.out hb);replace BK102 := Aside0.mk (blk_below BK102.out hb);replace HB := Aside0.mk (below_step (by exact HB.out) hb);(try clear hb);(try clear hb2);(try clear hk);(try clear hi)))
  go_ret
  exact ⟨by first | rfl | (simp [errW_none, errW_some] <;> rfl) | (simp [*, errW_none, errW_some] <;> rfl), by repeat (first | (with_reducible first | exact HB.out | apply below_alloc | apply pw_below_drewN | apply below_drew1 | refine below_set ?_ GE101.out | refine below_set ?_ GE102.out) | exact HB.out)⟩
 ·rw [if_neg c4] at H
  have c4b0 : decide (t103 < 0) = false := decide_eq_false c4
  clear c4
  replace H := Option.bind_eq_some_iff.mp H
  obtain ⟨t104, A100, H⟩ := H
  replace H : (if t104 < 0 then (some true) else ((laws_toGraph.f k a0_0 l0_1 a0_2 a0_3 a0_4).bind fun bt105 => ((laws_toGraph.f k a1_0 l1_1 a1_2 a1_3 a1_4).bind fun bt112 => ((spec_GraphSame.f k bt105.1 bt105.2.1 bt105.2.2.1 bt105.2.2.2.1 bt105.2.2.2.2 bt112.1 bt112.2.1 bt112.2.2.1 bt112.2.2.2.1 bt112.2.2.2.2).bind fun t119 => ((laws_toGraph.f k a0_0 l0_1 a0_2 a0_3 a0_4).bind fun bt120 => ((laws_toGraph.f k a1_0 l1_1 a1_2 a1_3 a1_4).bind fun bt128 => ((impl_GraphSame.f k bt120.1 bt120.2.1 bt120.2.2.1 bt120.2.2.2.1 bt120.2.2.2.2 bt128.1 bt128.2.1 bt128.2.2.1 bt128.2.2.2.1 bt128.2.2.2.2).bind fun t136 => (if (t136 != t119) = true then (some false) else ((laws_toGraph.f k a0_0 l0_1 a0_2 a0_3 a0_4).bind fun bt137 => ((laws_eqGraph.f k bt120.1 bt120.2.1 bt120.2.2.1 bt120.2.2.2.1 bt120.2.2.2.2 bt137.1 bt137.2.1 bt137.2.2.1 bt137.2.2.2.1 bt137.2.2.2.2).bind fun t144 => (if t144 = true then ((laws_toGraph.f k a1_0 l1_1 a1_2 a1_3 a1_4).bind fun bt145 => ((laws_eqGraph.f k bt128.1 bt128.2.1 bt128.2.2.1 bt128.2.2.2.1 bt128.2.2.2.2 bt145.1 bt145.2.1 bt145.2.2.1 bt145.2.2.2.1 bt145.2.2.2.2).bind fun t152 => (if t152 = true then (some true) else (some false)))) else (some false)))))))))))) = some r := H
  have A10 := Aside0.mk A100
  clear A100
  by_cases c11 : t104 < 0
  ·rw [if_pos c11] at H
   have c11b0 : decide (t104 < 0) = true := decide_eq_true c11
   clear c11
   obtain rfl := Option.some.inj H
   go_enter Try.func12, Try.ntmps12
   go_wp2_with (first | ((with_reducible refine gate_dst (N := 2) rfl ?_);refine box_event ?hg (N := 2) ?hd (cs := #[.int .i64 a0_0, .slice A0_1 l0_1.length c0_1, .int .i64 a0_2, .int .i64 a0_3, .bool a0_4]) (t := 71) ?hr ?_;(case hd => rfl);(case hg => rfl);(case hr => first | (go_simp;done) | (go_simp;rfl));intro gb101 hg w12 hbox hb;have BK101 := Aside0.mk (hbox);have GW101 := Aside0.mk ((by rw [hg];exact (below_size (by exact HB.out)) : w.heap.size ≤ gb101));have GE101 := Aside0.mk ((by rw [hg];exact (below_size (by exact HB.out)) : w.heap.size ≤ gb101));replace HB := Aside0.mk (below_step (by exact HB.out) hb);clear hb hbox hg) | ((with_reducible refine gate_dst (N := 3) rfl ?_);refine box_event ?hg (N := 3) ?hd (cs := #[.int .i64 a1_0, .slice A1_1 l1_1.length c1_1, .int .i64 a1_2, .int .i64 a1_3, .bool a1_4]) (t := 71) ?hr ?_;(case hd => rfl);(case hg => rfl);(case hr => first | (go_simp;done) | (go_simp;rfl));intro gb102 hg w13 hbox hb;have BK102 := Aside0.mk (hbox);have GW102 := Aside0.mk ((by rw [hg];exact (below_size (by exact HB.out)) : w.heap.size ≤ gb102));have GE102 := Aside0.mk ((by rw [hg];exact (below_size (by exact HB.out)) : w.heap.size ≤ gb102));replace HB := Aside0.mk (below_step (by exact HB.out) hb);have NB101_102 := Aside0.mk ((by rw [hg];exact Nat.ne_of_lt (blk_lt BK101.out) : gb101 ≠ gb102));have NB102_101 := Aside0.mk ((by rw [hg];exact Nat.ne_of_gt (blk_lt BK101.out) : gb102 ≠ gb101));replace BK101 := Aside0.mk (blk_below BK101.out hb);clear hb hbox hg;have hnb14 := NB101_102.out;have hnc14 := NB102_101.out;obtain ⟨hcz15_0, hcz15_1, hcz15_2, hcz15_3, hcz15_4, hfz15_0, hfz15_1, hfz15_2, hfz15_3, hfz15_4⟩ := bx5 BK101.out) | ((with_reducible refine gate_callee (f := 44) rfl ?_);refine goesL_ (some 12) rfl rfl Try.func44 (by kernel_rfl) rfl #[.agg #[.int .i64 a0_0, .slice A0_1 l0_1.length c0_1, .int .i64 a0_2, .int .i64 a0_3, .bool a0_4], .int .i64 1048576] rfl (by (try simp only [List.map_toArray, List.map_cons, List.map_nil]);first | done | rfl | (simp only [List.length_drop, List.length_take];rfl)) ?_;(with_reducible refine (laws_szGraph.calls k a0_0 _ _ l0_1 a0_2 a0_3 a0_4 1048576 t103 _ ?side1 ?side2 A3.out).mono ?_);(case side1 => repeat (first | exact (Kd.C_below HR0_1.out HB.out) | (with_reducible refine Kd.C_alloc ?_ _) | (with_reducible refine Kd.C_drewN ?_ _) | (with_reducible refine Kd.C_drew ?_)));(case side2 => exact HC0_1.out);rintro e w16 ⟨rfl, hb⟩;refine ⟨_, rfl, ?_⟩;replace BK101 := Aside0.mk (blk_below BK101.out hb);replace BK102 := Aside0.mk (blk_below BK102.out hb);replace HB := Aside0.mk (below_step (by exact HB.out) hb);(try clear hb);(try clear hb2);(try clear hk);(try clear hi);obtain ⟨hcz17_0, hcz17_1, hcz17_2, hcz17_3, hcz17_4, hfz17_0, hfz17_1, hfz17_2, hfz17_3, hfz17_4⟩ := bx5 BK102.out) | ((with_reducible refine gate_callee (f := 44) rfl ?_);refine goesL_ (some 17) rfl rfl Try.func44 (by kernel_rfl) rfl #[.agg #[.int .i64 a1_0, .slice A1_1 l1_1.length c1_1, .int .i64 a1_2, .int .i64 a1_3, .bool a1_4], .int .i64 t103] rfl (by (try simp only [List.map_toArray, List.map_cons, List.map_nil]);first | done | rfl | (simp only [List.length_drop, List.length_take];rfl)) ?_;(with_reducible refine (laws_szGraph.calls k a1_0 _ _ l1_1 a1_2 a1_3 a1_4 t103 t104 _ ?side1 ?side2 A10.out).mono ?_);(case side1 => repeat (first | exact (Kd.C_below HR1_1.out HB.out) | (with_reducible refine Kd.C_alloc ?_ _) | (with_reducible refine Kd.C_drewN ?_ _) | (with_reducible refine Kd.C_drew ?_)));(case side2 => exact HC1_1.out);rintro e w18 ⟨rfl, hb⟩;refine ⟨_, rfl, ?_⟩;replace BK101 := Aside0.mk (blk_below BK101.out hb);replace BK102 := Aside0.mk (blk_below BK102.out hb);replace HB := Aside0.mk (below_step (by exact HB.out) hb);(try clear hb);(try clear hb2);(try clear hk);(try clear hi)))
   go_ret
   exact ⟨by first | rfl | (simp [errW_none, errW_some] <;> rfl) | (simp [*, errW_none, errW_some] <;> rfl), by repeat (first | (with_reducible first | exact HB.out | apply below_alloc | apply pw_below_drewN | apply below_drew1 | refine below_set ?_ GE101.out | refine below_set ?_ GE102.out) | exact HB.out)⟩
  ·rw [if_neg c11] at H
   have c11b0 : decide (t104 < 0) = false := decide_eq_false c11
   clear c11
   replace H := Option.bind_eq_some_iff.mp H
   obtain ⟨⟨t105, t106, t109, t110, t111⟩, A190, H⟩ := H
   replace H : ((laws_toGraph.f k a1_0 l1_1 a1_2 a1_3 a1_4).bind fun bt112 => ((spec_GraphSame.f k t105 t106 t109 t110 t111 bt112.1 bt112.2.1 bt112.2.2.1 bt112.2.2.2.1 bt112.2.2.2.2).bind fun t119 => ((laws_toGraph.f k a0_0 l0_1 a0_2 a0_3 a0_4).bind fun bt120 => ((laws_toGraph.f k a1_0 l1_1 a1_2 a1_3 a1_4).bind fun bt128 => ((impl_GraphSame.f k bt120.1 bt120.2.1 bt120.2.2.1 bt120.2.2.2.1 bt120.2.2.2.2 bt128.1 bt128.2.1 bt128.2.2.1 bt128.2.2.2.1 bt128.2.2.2.2).bind fun t136 => (if (t136 != t119) = true then (some false) else ((laws_toGraph.f k a0_0 l0_1 a0_2 a0_3 a0_4).bind fun bt137 => ((laws_eqGraph.f k bt120.1 bt120.2.1 bt120.2.2.1 bt120.2.2.2.1 bt120.2.2.2.2 bt137.1 bt137.2.1 bt137.2.2.1 bt137.2.2.2.1 bt137.2.2.2.2).bind fun t144 => (if t144 = true then ((laws_toGraph.f k a1_0 l1_1 a1_2 a1_3 a1_4).bind fun bt145 => ((laws_eqGraph.f k bt128.1 bt128.2.1 bt128.2.2.1 bt128.2.2.2.1 bt128.2.2.2.2 bt145.1 bt145.2.1 bt145.2.2.1 bt145.2.2.2.1 bt145.2.2.2.2).bind fun t152 => (if t152 = true then (some true) else (some false)))) else (some false)))))))))) = some r := H
   have A19 := Aside0.mk A190
   clear A190
   replace H := Option.bind_eq_some_iff.mp H
   obtain ⟨⟨t112, t113, t116, t117, t118⟩, A200, H⟩ := H
   replace H : ((spec_GraphSame.f k t105 t106 t109 t110 t111 t112 t113 t116 t117 t118).bind fun t119 => ((laws_toGraph.f k a0_0 l0_1 a0_2 a0_3 a0_4).bind fun bt120 => ((laws_toGraph.f k a1_0 l1_1 a1_2 a1_3 a1_4).bind fun bt128 => ((impl_GraphSame.f k bt120.1 bt120.2.1 bt120.2.2.1 bt120.2.2.2.1 bt120.2.2.2.2 bt128.1 bt128.2.1 bt128.2.2.1 bt128.2.2.2.1 bt128.2.2.2.2).bind fun t136 => (if (t136 != t119) = true then (some false) else ((laws_toGraph.f k a0_0 l0_1 a0_2 a0_3 a0_4).bind fun bt137 => ((laws_eqGraph.f k bt120.1 bt120.2.1 bt120.2.2.1 bt120.2.2.2.1 bt120.2.2.2.2 bt137.1 bt137.2.1 bt137.2.2.1 bt137.2.2.2.1 bt137.2.2.2.2).bind fun t144 => (if t144 = true then ((laws_toGraph.f k a1_0 l1_1 a1_2 a1_3 a1_4).bind fun bt145 => ((laws_eqGraph.f k bt128.1 bt128.2.1 bt128.2.2.1 bt128.2.2.2.1 bt128.2.2.2.2 bt145.1 bt145.2.1 bt145.2.2.1 bt145.2.2.2.1 bt145.2.2.2.2).bind fun t152 => (if t152 = true then (some true) else (some false)))) else (some false))))))))) = some r := H
   have A20 := Aside0.mk A200
   clear A200
   replace H := Option.bind_eq_some_iff.mp H
   obtain ⟨t119, A210, H⟩ := H
   replace H : ((laws_toGraph.f k a0_0 l0_1 a0_2 a0_3 a0_4).bind fun bt120 => ((laws_toGraph.f k a1_0 l1_1 a1_2 a1_3 a1_4).bind fun bt128 => ((impl_GraphSame.f k bt120.1 bt120.2.1 bt120.2.2.1 bt120.2.2.2.1 bt120.2.2.2.2 bt128.1 bt128.2.1 bt128.2.2.1 bt128.2.2.2.1 bt128.2.2.2.2).bind fun t136 => (if (t136 != t119) = true then (some false) else ((laws_toGraph.f k a0_0 l0_1 a0_2 a0_3 a0_4).bind fun bt137 => ((laws_eqGraph.f k bt120.1 bt120.2.1 bt120.2.2.1 bt120.2.2.2.1 bt120.2.2.2.2 bt137.1 bt137.2.1 bt137.2.2.1 bt137.2.2.2.1 bt137.2.2.2.2).bind fun t144 => (if t144 = true then ((laws_toGraph.f k a1_0 l1_1 a1_2 a1_3 a1_4).bind fun bt145 => ((laws_eqGraph.f k bt128.1 bt128.2.1 bt128.2.2.1 bt128.2.2.2.1 bt128.2.2.2.2 bt145.1 bt145.2.1 bt145.2.2.1 bt145.2.2.2.1 bt145.2.2.2.2).bind fun t152 => (if t152 = true then (some true) else (some false)))) else (some false)))))))) = some r := H
   have A21 := Aside0.mk A210
   clear A210
   replace H := Option.bind_eq_some_iff.mp H
   obtain ⟨⟨t120, t121, t124, t125, t126⟩, A220, H⟩ := H
   replace H : ((laws_toGraph.f k a1_0 l1_1 a1_2 a1_3 a1_4).bind fun bt128 => ((impl_GraphSame.f k t120 t121 t124 t125 t126 bt128.1 bt128.2.1 bt128.2.2.1 bt128.2.2.2.1 bt128.2.2.2.2).bind fun t136 => (if (t136 != t119) = true then (some false) else ((laws_toGraph.f k a0_0 l0_1 a0_2 a0_3 a0_4).bind fun bt137 => ((laws_eqGraph.f k t120 t121 t124 t125 t126 bt137.1 bt137.2.1 bt137.2.2.1 bt137.2.2.2.1 bt137.2.2.2.2).bind fun t144 => (if t144 = true then ((laws_toGraph.f k a1_0 l1_1 a1_2 a1_3 a1_4).bind fun bt145 => ((laws_eqGraph.f k bt128.1 bt128.2.1 bt128.2.2.1 bt128.2.2.2.1 bt128.2.2.2.2 bt145.1 bt145.2.1 bt145.2.2.1 bt145.2.2.2.1 bt145.2.2.2.2).bind fun t152 => (if t152 = true then (some true) else (some false)))) else (some false))))))) = some r := H
   have A22 := Aside0.mk A220
   clear A220
   replace H := Option.bind_eq_some_iff.mp H
   obtain ⟨⟨t128, t129, t132, t133, t134⟩, A230, H⟩ := H
   replace H : ((impl_GraphSame.f k t120 t121 t124 t125 t126 t128 t129 t132 t133 t134).bind fun t136 => (if (t136 != t119) = true then (some false) else ((laws_toGraph.f k a0_0 l0_1 a0_2 a0_3 a0_4).bind fun bt137 => ((laws_eqGraph.f k t120 t121 t124 t125 t126 bt137.1 bt137.2.1 bt137.2.2.1 bt137.2.2.2.1 bt137.2.2.2.2).bind fun t144 => (if t144 = true then ((laws_toGraph.f k a1_0 l1_1 a1_2 a1_3 a1_4).bind fun bt145 => ((laws_eqGraph.f k t128 t129 t132 t133 t134 bt145.1 bt145.2.1 bt145.2.2.1 bt145.2.2.2.1 bt145.2.2.2.2).bind fun t152 => (if t152 = true then (some true) else (some false)))) else (some false)))))) = some r := H
   have A23 := Aside0.mk A230
   clear A230
   replace H := Option.bind_eq_some_iff.mp H
   obtain ⟨t136, A240, H⟩ := H
   replace H : (if (t136 != t119) = true then (some false) else ((laws_toGraph.f k a0_0 l0_1 a0_2 a0_3 a0_4).bind fun bt137 => ((laws_eqGraph.f k t120 t121 t124 t125 t126 bt137.1 bt137.2.1 bt137.2.2.1 bt137.2.2.2.1 bt137.2.2.2.2).bind fun t144 => (if t144 = true then ((laws_toGraph.f k a1_0 l1_1 a1_2 a1_3 a1_4).bind fun bt145 => ((laws_eqGraph.f k t128 t129 t132 t133 t134 bt145.1 bt145.2.1 bt145.2.2.1 bt145.2.2.2.1 bt145.2.2.2.2).bind fun t152 => (if t152 = true then (some true) else (some false)))) else (some false))))) = some r := H
   have A24 := Aside0.mk A240
   clear A240
   by_cases c25 : (t136 != t119) = true
   ·rw [if_pos c25] at H
    have c25b0 : (t136 != t119) = true := c25
    (try (have c25b1 : decide (t136 = t119) = false := by simpa using c25))
    (try (have c25b2 : (t136 == t119) = false := by simpa using c25))
    (try (have c25b3 : ¬ (t136 = t119) := by simpa using c25))
    clear c25
    exact absurd (Option.some.inj H) (by rw [hT_.out];decide)
   ·rw [if_neg c25] at H
    have c25b0 : (t136 != t119) = false := by simpa using c25
    (try (have c25b1 : decide (t136 = t119) = true := by simpa using c25))
    (try (have c25b2 : (t136 == t119) = true := by simpa using c25))
    clear c25
    replace H := Option.bind_eq_some_iff.mp H
    obtain ⟨⟨t137, t138, t141, t142, t143⟩, A260, H⟩ := H
    replace H : ((laws_eqGraph.f k t120 t121 t124 t125 t126 t137 t138 t141 t142 t143).bind fun t144 => (if t144 = true then ((laws_toGraph.f k a1_0 l1_1 a1_2 a1_3 a1_4).bind fun bt145 => ((laws_eqGraph.f k t128 t129 t132 t133 t134 bt145.1 bt145.2.1 bt145.2.2.1 bt145.2.2.2.1 bt145.2.2.2.2).bind fun t152 => (if t152 = true then (some true) else (some false)))) else (some false))) = some r := H
    have A26 := Aside0.mk A260
    clear A260
    replace H := Option.bind_eq_some_iff.mp H
    obtain ⟨t144, A270, H⟩ := H
    replace H : (if t144 = true then ((laws_toGraph.f k a1_0 l1_1 a1_2 a1_3 a1_4).bind fun bt145 => ((laws_eqGraph.f k t128 t129 t132 t133 t134 bt145.1 bt145.2.1 bt145.2.2.1 bt145.2.2.2.1 bt145.2.2.2.2).bind fun t152 => (if t152 = true then (some true) else (some false)))) else (some false)) = some r := H
    have A27 := Aside0.mk A270
    clear A270
    by_cases c28 : t144 = true
    ·subst c28
     have H1 : ((laws_toGraph.f k a1_0 l1_1 a1_2 a1_3 a1_4).bind fun bt145 => ((laws_eqGraph.f k t128 t129 t132 t133 t134 bt145.1 bt145.2.1 bt145.2.2.1 bt145.2.2.2.1 bt145.2.2.2.2).bind fun t152 => (if t152 = true then (some true) else (some false)))) = some r := by rw [if_pos rfl] at H;exact H
     clear H
     have H := H1
     clear H1
     replace H := Option.bind_eq_some_iff.mp H
     obtain ⟨⟨t145, t146, t149, t150, t151⟩, A290, H⟩ := H
     replace H : ((laws_eqGraph.f k t128 t129 t132 t133 t134 t145 t146 t149 t150 t151).bind fun t152 => (if t152 = true then (some true) else (some false))) = some r := H
     have A29 := Aside0.mk A290
     clear A290
     replace H := Option.bind_eq_some_iff.mp H
     obtain ⟨t152, A300, H⟩ := H
     replace H : (if t152 = true then (some true) else (some false)) = some r := H
     have A30 := Aside0.mk A300
     clear A300
     by_cases c31 : t152 = true
     ·subst c31
      have H1 : (some true) = some r := by rw [if_pos rfl] at H;exact H
      clear H
      have H := H1
      clear H1
      obtain rfl := Option.some.inj H
      go_enter Try.func12, Try.ntmps12
      try go_wp2_with (first | ((with_reducible refine gate_dst (N := 2) rfl ?_);refine box_event ?hg (N := 2) ?hd (cs := #[.int .i64 a0_0, .slice A0_1 l0_1.length c0_1, .int .i64 a0_2, .int .i64 a0_3, .bool a0_4]) (t := 71) ?hr ?_;(case hd => rfl);(case hg => rfl);(case hr => first | (go_simp;done) | (go_simp;rfl));intro gb101 hg w32 hbox hb;have BK101 := Aside0.mk (hbox);have GW101 := Aside0.mk ((by rw [hg];exact (below_size (by exact HB.out)) : w.heap.size ≤ gb101));have GE101 := Aside0.mk ((by rw [hg];exact (below_size (by exact HB.out)) : w.heap.size ≤ gb101));replace HB := Aside0.mk (below_step (by exact HB.out) hb);clear hb hbox hg) | ((with_reducible refine gate_dst (N := 3) rfl ?_);refine box_event ?hg (N := 3) ?hd (cs := #[.int .i64 a1_0, .slice A1_1 l1_1.length c1_1, .int .i64 a1_2, .int .i64 a1_3, .bool a1_4]) (t := 71) ?hr ?_;(case hd => rfl);(case hg => rfl);(case hr => first | (go_simp;done) | (go_simp;rfl));intro gb102 hg w33 hbox hb;have BK102 := Aside0.mk (hbox);have GW102 := Aside0.mk ((by rw [hg];exact (below_size (by exact HB.out)) : w.heap.size ≤ gb102));have GE102 := Aside0.mk ((by rw [hg];exact (below_size (by exact HB.out)) : w.heap.size ≤ gb102));replace HB := Aside0.mk (below_step (by exact HB.out) hb);have NB101_102 := Aside0.mk ((by rw [hg];exact Nat.ne_of_lt (blk_lt BK101.out) : gb101 ≠ gb102));have NB102_101 := Aside0.mk ((by rw [hg];exact Nat.ne_of_gt (blk_lt BK101.out) : gb102 ≠ gb101));replace BK101 := Aside0.mk (blk_below BK101.out hb);clear hb hbox hg;have hnb34 := NB101_102.out;have hnc34 := NB102_101.out;obtain ⟨hcz35_0, hcz35_1, hcz35_2, hcz35_3, hcz35_4, hfz35_0, hfz35_1, hfz35_2, hfz35_3, hfz35_4⟩ := bx5 BK101.out) | ((with_reducible refine gate_callee (f := 44) rfl ?_);refine goesL_ (some 12) rfl rfl Try.func44 (by kernel_rfl) rfl #[.agg #[.int .i64 a0_0, .slice A0_1 l0_1.length c0_1, .int .i64 a0_2, .int .i64 a0_3, .bool a0_4], .int .i64 1048576] rfl (by (try simp only [List.map_toArray, List.map_cons, List.map_nil]);first | done | rfl | (simp only [List.length_drop, List.length_take];rfl)) ?_;(with_reducible refine (laws_szGraph.calls k a0_0 _ _ l0_1 a0_2 a0_3 a0_4 1048576 t103 _ ?side1 ?side2 A3.out).mono ?_);(case side1 => repeat (first | exact (Kd.C_below HR0_1.out HB.out) | (with_reducible refine Kd.C_alloc ?_ _) | (with_reducible refine Kd.C_drewN ?_ _) | (with_reducible refine Kd.C_drew ?_)));(case side2 => exact HC0_1.out);rintro e w36 ⟨rfl, hb⟩;refine ⟨_, rfl, ?_⟩;replace BK101 := Aside0.mk (blk_below BK101.out hb);replace BK102 := Aside0.mk (blk_below BK102.out hb);replace HB := Aside0.mk (below_step (by exact HB.out) hb);(try clear hb);(try clear hb2);(try clear hk);(try clear hi);obtain ⟨hcz37_0, hcz37_1, hcz37_2, hcz37_3, hcz37_4, hfz37_0, hfz37_1, hfz37_2, hfz37_3, hfz37_4⟩ := bx5 BK102.out) | ((with_reducible refine gate_callee (f := 44) rfl ?_);refine goesL_ (some 17) rfl rfl Try.func44 (by kernel_rfl) rfl #[.agg #[.int .i64 a1_0, .slice A1_1 l1_1.length c1_1, .int .i64 a1_2, .int .i64 a1_3, .bool a1_4], .int .i64 t103] rfl (by (try simp only [List.map_toArray, List.map_cons, List.map_nil]);first | done | rfl | (simp only [List.length_drop, List.length_take];rfl)) ?_;(with_reducible refine (laws_szGraph.calls k a1_0 _ _ l1_1 a1_2 a1_3 a1_4 t103 t104 _ ?side1 ?side2 A10.out).mono ?_);(case side1 => repeat (first | exact (Kd.C_below HR1_1.out HB.out) | (with_reducible refine Kd.C_alloc ?_ _) | (with_reducible refine Kd.C_drewN ?_ _) | (with_reducible refine Kd.C_drew ?_)));(case side2 => exact HC1_1.out);rintro e w38 ⟨rfl, hb⟩;refine ⟨_, rfl, ?_⟩;replace BK101 := Aside0.mk (blk_below BK101.out hb);replace BK102 := Aside0.mk (blk_below BK102.out hb);replace HB := Aside0.mk (below_step (by exact HB.out) hb);(try clear hb);(try clear hb2);(try clear hk);(try clear hi)))
      replace BK101 := Aside0.mk (blk_drew BK101.out)
      replace BK102 := Aside0.mk (blk_drew BK102.out)
      replace HB := Aside0.mk (below_drew1 HB.out)
      refine start_ (n := 6) (S := fun w' => w'.cell? ⟨gb101, 0, none⟩ = some (.int .i64 a0_0) ∧ w'.cell? ⟨gb101, 1, none⟩ = some (.slice A0_1 l0_1.length c0_1) ∧ w'.cell? ⟨gb101, 2, none⟩ = some (.int .i64 a0_2) ∧ w'.cell? ⟨gb101, 3, none⟩ = some (.int .i64 a0_3) ∧ w'.cell? ⟨gb101, 4, none⟩ = some (.bool a0_4) ∧ w'.cell? ⟨gb102, 0, none⟩ = some (.int .i64 a1_0) ∧ w'.cell? ⟨gb102, 1, none⟩ = some (.slice A1_1 l1_1.length c1_1) ∧ w'.cell? ⟨gb102, 2, none⟩ = some (.int .i64 a1_2) ∧ w'.cell? ⟨gb102, 3, none⟩ = some (.int .i64 a1_3) ∧ w'.cell? ⟨gb102, 4, none⟩ = some (.bool a1_4)) (ds := []) #[false, false, false, false, false, false] (by kernel_rfl) rfl rfl ⟨(blk_cell BK101.out 0).trans rfl, (blk_cell BK101.out 1).trans rfl, (blk_cell BK101.out 2).trans rfl, (blk_cell BK101.out 3).trans rfl, (blk_cell BK101.out 4).trans rfl, (blk_cell BK102.out 0).trans rfl, (blk_cell BK102.out 1).trans rfl, (blk_cell BK102.out 2).trans rfl, (blk_cell BK102.out 3).trans rfl, (blk_cell BK102.out 4).trans rfl⟩ (fun hHeld => ?_)
      generalize w38.drew = w39 at BK101 BK102 HB hHeld ⊢
      refine take_ (i := 0) (N := some 20) (v := ?_) (a' := ?_) #[true, false, false, false, false, false] rfl rfl (by kernel_rfl) (fun _ _ _ h => h) (Or.inl ⟨by rfl, ?_⟩) hHeld ?_ ?_
      rotate_left
      ·rintro w' ⟨s0, s1, s2, s3, s4, s5, s6, s7, s8, s9⟩
       go_simp
       with_reducible rfl
      rotate_left
      ·simp only [Act.put, List.setIfInBounds_toArray, List.set_cons_zero, List.set_cons_succ, i64_w, i32_w]
       rfl
      refine take_ (i := 2) (N := some 22) (v := ?_) (a' := ?_) #[true, false, true, false, false, false] rfl rfl (by kernel_rfl) (fun _ _ _ h => h) (Or.inl ⟨by rfl, ?_⟩) hHeld ?_ ?_
      rotate_left
      ·rintro w' ⟨s0, s1, s2, s3, s4, s5, s6, s7, s8, s9⟩
       go_simp
       with_reducible rfl
      rotate_left
      ·simp only [Act.put, List.setIfInBounds_toArray, List.set_cons_zero, List.set_cons_succ, i64_w, i32_w]
       rfl
      refine one_ (i := 1) (N := some 21) #[true, true, true, false, false, false] rfl rfl (by kernel_rfl) (by decide) (fun K hK => ?_)
      refine goes_ Try.func46 (by kernel_rfl) rfl #[.agg #[.int .i64 a0_0, .slice A0_1 l0_1.length c0_1, .int .i64 a0_2, .int .i64 a0_3, .bool a0_4]] (by rfl) rfl rfl (by (try simp only [List.map_toArray, List.map_cons, List.map_nil]);first | done | rfl | (simp only [List.length_drop, List.length_take];rfl)) ?_
      with_reducible refine (laws_toGraph.calls k a0_0 _ _ l0_1 a0_2 a0_3 a0_4 t105 t106 t109 t110 t111 _ ?side1 ?side2 A19.out).mono ?_
      (case side1 => repeat (first | exact (Kd.C_below HR0_1.out HB.out) | (with_reducible refine Kd.C_alloc ?_ _) | (with_reducible refine Kd.C_drewN ?_ _) | (with_reducible refine Kd.C_drew ?_)))
      (case side2 => exact HC0_1.out)
      rintro e w40 ⟨v107, rfl, ho0, hb⟩
      refine ⟨_, rfl, ?_⟩
      have HO108 := Aside0.mk (Kd.R_lower ho0 (below_size (by exact HB.out)))
      replace BK101 := Aside0.mk (blk_below BK101.out hb)
      replace BK102 := Aside0.mk (blk_below BK102.out hb)
      replace HB := Aside0.mk (below_step (by exact HB.out) hb)
      (try clear hb)
      (try clear hb2)
      (try clear hk)
      (try clear hi)
      (try clear ho0)
      refine hK.out _ _ ⟨(blk_cell BK101.out 0).trans rfl, (blk_cell BK101.out 1).trans rfl, (blk_cell BK101.out 2).trans rfl, (blk_cell BK101.out 3).trans rfl, (blk_cell BK101.out 4).trans rfl, (blk_cell BK102.out 0).trans rfl, (blk_cell BK102.out 1).trans rfl, (blk_cell BK102.out 2).trans rfl, (blk_cell BK102.out 3).trans rfl, (blk_cell BK102.out 4).trans rfl⟩ (fun hHeld => ?_)
      clear hK K
      refine norm_ (a' := ?_) ?_ ?_
      rotate_left
      ·show Act.put _ (some 21) _ = _
       simp only [Act.put, List.setIfInBounds_toArray, List.set_cons_zero, List.set_cons_succ, i64_w, i32_w]
       rfl
      refine one_ (i := 3) (N := some 23) #[true, true, true, true, false, false] rfl rfl (by kernel_rfl) (by decide) (fun K hK => ?_)
      refine goes_ Try.func46 (by kernel_rfl) rfl #[.agg #[.int .i64 a1_0, .slice A1_1 l1_1.length c1_1, .int .i64 a1_2, .int .i64 a1_3, .bool a1_4]] (by rfl) rfl rfl (by (try simp only [List.map_toArray, List.map_cons, List.map_nil]);first | done | rfl | (simp only [List.length_drop, List.length_take];rfl)) ?_
      with_reducible refine (laws_toGraph.calls k a1_0 _ _ l1_1 a1_2 a1_3 a1_4 t112 t113 t116 t117 t118 _ ?side1 ?side2 A20.out).mono ?_
      (case side1 => repeat (first | exact (Kd.C_below HR1_1.out HB.out) | (with_reducible refine Kd.C_alloc ?_ _) | (with_reducible refine Kd.C_drewN ?_ _) | (with_reducible refine Kd.C_drew ?_)))
      (case side2 => exact HC1_1.out)
      rintro e w41 ⟨v114, rfl, ho0, hb⟩
      refine ⟨_, rfl, ?_⟩
      have HO115 := Aside0.mk (Kd.R_lower (Kd.R_new' ho0 (Kd.R_lt (by exact HO108.out))) (below_size (by exact HB.out)))
      replace HO108 := Aside0.mk (Kd.R_elder' (by exact HO108.out) (Kd.R_base ho0) hb)
      replace BK101 := Aside0.mk (blk_below BK101.out hb)
      replace BK102 := Aside0.mk (blk_below BK102.out hb)
      replace HB := Aside0.mk (below_step (by exact HB.out) hb)
      (try clear hb)
      (try clear hb2)
      (try clear hk)
      (try clear hi)
      (try clear ho0)
      obtain ⟨Ao42, co42, eo42⟩ := Kd.R_slice HO108.out
      (first | subst eo42 | (injection eo42 with f1_ f2_ f3_;have f4_ := f1_.symm;have f5_ := f3_.symm;clear f1_ f2_ f3_;subst f4_;subst f5_))
      obtain ⟨Ao43, co43, eo43⟩ := Kd.R_slice HO115.out
      (first | subst eo43 | (injection eo43 with f1_ f2_ f3_;have f4_ := f1_.symm;have f5_ := f3_.symm;clear f1_ f2_ f3_;subst f4_;subst f5_))
      refine hK.out _ _ ⟨(blk_cell BK101.out 0).trans rfl, (blk_cell BK101.out 1).trans rfl, (blk_cell BK101.out 2).trans rfl, (blk_cell BK101.out 3).trans rfl, (blk_cell BK101.out 4).trans rfl, (blk_cell BK102.out 0).trans rfl, (blk_cell BK102.out 1).trans rfl, (blk_cell BK102.out 2).trans rfl, (blk_cell BK102.out 3).trans rfl, (blk_cell BK102.out 4).trans rfl⟩ (fun hHeld => ?_)
      clear hK K
      refine norm_ (a' := ?_) ?_ ?_
      rotate_left
      ·show Act.put _ (some 23) _ = _
       simp only [Act.put, List.setIfInBounds_toArray, List.set_cons_zero, List.set_cons_succ, i64_w, i32_w]
       rfl
      refine one_ (i := 4) (N := some 24) #[true, true, true, true, true, false] rfl rfl (by kernel_rfl) (by decide) (fun K hK => ?_)
      refine goes_ Try.func48 (by kernel_rfl) rfl #[.agg #[.int .i64 t105, .slice Ao42 t106.length co42, .int .i64 t109, .int .i64 t110, .bool t111], .agg #[.int .i64 t112, .slice Ao43 t113.length co43, .int .i64 t116, .int .i64 t117, .bool t118]] (by rfl) rfl rfl (by (try simp only [List.map_toArray, List.map_cons, List.map_nil]);first | done | rfl | (simp only [List.length_drop, List.length_take];rfl)) ?_
      with_reducible refine (spec_GraphSame.calls k t105 _ _ t106 t109 t110 t111 t112 _ _ t113 t116 t117 t118 t119 _ ?side1 ?side2 ?side3 ?side4 A21.out).mono ?_
      (case side1 => repeat (first | exact (Kd.R_reads' HO108.out).2.2 | (with_reducible refine Kd.C_alloc ?_ _) | (with_reducible refine Kd.C_drewN ?_ _) | (with_reducible refine Kd.C_drew ?_)))
      (case side2 => exact (Kd.R_reads' HO108.out).2.1)
      (case side3 => repeat (first | exact (Kd.R_reads' HO115.out).2.2 | (with_reducible refine Kd.C_alloc ?_ _) | (with_reducible refine Kd.C_drewN ?_ _) | (with_reducible refine Kd.C_drew ?_)))
      (case side4 => exact (Kd.R_reads' HO115.out).2.1)
      rintro e w44 ⟨rfl, hb⟩
      refine ⟨_, rfl, ?_⟩
      replace HO108 := Aside0.mk (Kd.R_below (by exact HO108.out) hb)
      replace HO115 := Aside0.mk (Kd.R_below (by exact HO115.out) hb)
      replace BK101 := Aside0.mk (blk_below BK101.out hb)
      replace BK102 := Aside0.mk (blk_below BK102.out hb)
      replace HB := Aside0.mk (below_step (by exact HB.out) hb)
      (try clear hb)
      (try clear hb2)
      (try clear hk)
      (try clear hi)
      refine hK.out _ _ ⟨(blk_cell BK101.out 0).trans rfl, (blk_cell BK101.out 1).trans rfl, (blk_cell BK101.out 2).trans rfl, (blk_cell BK101.out 3).trans rfl, (blk_cell BK101.out 4).trans rfl, (blk_cell BK102.out 0).trans rfl, (blk_cell BK102.out 1).trans rfl, (blk_cell BK102.out 2).trans rfl, (blk_cell BK102.out 3).trans rfl, (blk_cell BK102.out 4).trans rfl⟩ (fun hHeld => ?_)
      clear hK K
      refine norm_ (a' := ?_) ?_ ?_
      rotate_left
      ·show Act.put _ (some 24) _ = _
       simp only [Act.put, List.setIfInBounds_toArray, List.set_cons_zero, List.set_cons_succ, i64_w, i32_w]
       rfl
      refine pure_ (i := 5) (N := some 6) (v := ?_) (a' := ?_) #[true, true, true, true, true, true] rfl rfl (by kernel_rfl) (fun _ _ _ h => h) (Or.inl ⟨by rfl, ?_⟩) ?_ ?_
      rotate_left
      ·intro w'
       go_simp
       with_reducible rfl
      rotate_left
      ·simp only [Act.put, List.setIfInBounds_toArray, List.set_cons_zero, List.set_cons_succ, i64_w, i32_w]
       rfl
      refine done_ (by kernel_rfl) ?_
      obtain ⟨hcz45_0, hcz45_1, hcz45_2, hcz45_3, hcz45_4, hfz45_0, hfz45_1, hfz45_2, hfz45_3, hfz45_4⟩ := bx5 BK101.out
      try go_wp2_with (first | ((with_reducible refine gate_callee (f := 46) rfl ?_);refine goesL_ (some 26) rfl rfl Try.func46 (by kernel_rfl) rfl #[.agg #[.int .i64 a0_0, .slice A0_1 l0_1.length c0_1, .int .i64 a0_2, .int .i64 a0_3, .bool a0_4]] rfl (by (try simp only [List.map_toArray, List.map_cons, List.map_nil]);first | done | rfl | (simp only [List.length_drop, List.length_take];rfl)) ?_;(with_reducible refine (laws_toGraph.calls k a0_0 _ _ l0_1 a0_2 a0_3 a0_4 t120 t121 t124 t125 t126 _ ?side1 ?side2 A22.out).mono ?_);(case side1 => repeat (first | exact (Kd.C_below HR0_1.out HB.out) | (with_reducible refine Kd.C_alloc ?_ _) | (with_reducible refine Kd.C_drewN ?_ _) | (with_reducible refine Kd.C_drew ?_)));(case side2 => exact HC0_1.out);rintro e w46 ⟨v122, rfl, ho0, hb⟩;refine ⟨_, rfl, ?_⟩;have HO123 := Aside0.mk (Kd.R_lower (Kd.R_new' (Kd.R_new' ho0 (Kd.R_lt (by exact HO108.out))) (Kd.R_lt (by exact HO115.out))) (below_size (by repeat (first | (with_reducible first | exact HB.out | apply below_alloc | apply pw_below_drewN | apply below_drew1 | refine below_set ?_ GE101.out | refine below_set ?_ GE102.out) | exact HB.out))));replace HO108 := Aside0.mk (Kd.R_elder' (by exact HO108.out) (Kd.R_base ho0) hb);replace HO115 := Aside0.mk (Kd.R_elder' (by exact HO115.out) (Kd.R_base ho0) hb);replace BK101 := Aside0.mk (blk_below BK101.out hb);replace BK102 := Aside0.mk (blk_below BK102.out hb);replace HB := Aside0.mk (below_step (by repeat (first | (with_reducible first | exact HB.out | apply below_alloc | apply pw_below_drewN | apply below_drew1 | refine below_set ?_ GE101.out | refine below_set ?_ GE102.out) | exact HB.out)) hb);(try clear hb);(try clear hb2);(try clear hk);(try clear hi);(try clear ho0)) | ((with_reducible refine gate_dst (N := 7) rfl ?_);refine box_event ?hg (N := 7) ?hd (cs := #[.int .i64 0, .slice none 0 0, .int .i64 0, .int .i64 0, .bool false]) (t := 63) ?hr ?_;(case hd => rfl);(case hg => rfl);(case hr => first | (go_simp;done) | (go_simp;rfl));intro gb127 hg w47 hbox hb;replace HO108 := Aside0.mk (Kd.R_below (by exact HO108.out) hb);replace HO115 := Aside0.mk (Kd.R_below (by exact HO115.out) hb);replace HO123 := Aside0.mk (Kd.R_below (by exact HO123.out) hb);have BK127 := Aside0.mk (hbox);have GW127 := Aside0.mk ((by rw [hg];exact (below_size (by repeat (first | (with_reducible first | exact HB.out | apply below_alloc | apply pw_below_drewN | apply below_drew1 | refine below_set ?_ GE101.out | refine below_set ?_ GE102.out) | exact HB.out))) : w.heap.size ≤ gb127));have GE127 := Aside0.mk ((by rw [hg];exact (below_size (by repeat (first | (with_reducible first | exact HB.out | apply below_alloc | apply pw_below_drewN | apply below_drew1 | refine below_set ?_ GE101.out | refine below_set ?_ GE102.out) | exact HB.out))) : w.heap.size ≤ gb127));replace HB := Aside0.mk (below_step (by repeat (first | (with_reducible first | exact HB.out | apply below_alloc | apply pw_below_drewN | apply below_drew1 | refine below_set ?_ GE101.out | refine below_set ?_ GE102.out) | exact HB.out)) hb);have NB101_127 := Aside0.mk ((by rw [hg];exact Nat.ne_of_lt (blk_lt BK101.out) : gb101 ≠ gb127));have NB127_101 := Aside0.mk ((by rw [hg];exact Nat.ne_of_gt (blk_lt BK101.out) : gb127 ≠ gb101));replace BK101 := Aside0.mk (blk_below BK101.out hb);have NB102_127 := Aside0.mk ((by rw [hg];exact Nat.ne_of_lt (blk_lt BK102.out) : gb102 ≠ gb127));have NB127_102 := Aside0.mk ((by rw [hg];exact Nat.ne_of_gt (blk_lt BK102.out) : gb127 ≠ gb102));replace BK102 := Aside0.mk (blk_below BK102.out hb);clear hb hbox hg;have hnb48 := NB127_101.out;have hnc48 := NB101_127.out;have hnb49 := NB127_102.out;have hnc49 := NB102_127.out;obtain ⟨hcz50_0, hcz50_1, hcz50_2, hcz50_3, hcz50_4, hfz50_0, hfz50_1, hfz50_2, hfz50_3, hfz50_4⟩ := bx5 BK127.out;obtain ⟨Ao51, co51, eo51⟩ := Kd.R_slice HO123.out;subst eo51;obtain ⟨hcz52_0, hcz52_1, hcz52_2, hcz52_3, hcz52_4, hfz52_0, hfz52_1, hfz52_2, hfz52_3, hfz52_4⟩ := bx5 BK102.out) | ((with_reducible refine gate_callee (f := 46) rfl ?_);refine goesL_ (some 28) rfl rfl Try.func46 (by kernel_rfl) rfl #[.agg #[.int .i64 a1_0, .slice A1_1 l1_1.length c1_1, .int .i64 a1_2, .int .i64 a1_3, .bool a1_4]] rfl (by (try simp only [List.map_toArray, List.map_cons, List.map_nil]);first | done | rfl | (simp only [List.length_drop, List.length_take];rfl)) ?_;(with_reducible refine (laws_toGraph.calls k a1_0 _ _ l1_1 a1_2 a1_3 a1_4 t128 t129 t132 t133 t134 _ ?side1 ?side2 A23.out).mono ?_);(case side1 => exact Kd.C_below HR1_1.out (by repeat (first | (with_reducible first | exact HB.out | apply below_alloc | apply pw_below_drewN | apply below_drew1 | refine below_set ?_ GE101.out | refine below_set ?_ GE102.out | refine below_set ?_ GE127.out) | exact HB.out)));(case side2 => exact HC1_1.out);rintro e w53 ⟨v130, rfl, ho0, hb⟩;refine ⟨_, rfl, ?_⟩;have HO131 := Aside0.mk (Kd.R_lower (Kd.R_new' (Kd.R_new' (Kd.R_new' ho0 (Kd.R_lt (by (with_reducible repeat (first | apply Kd.R_alloc | apply Kd.R_drewN | apply Kd.R_drew));exact (Kd.R_mono (Kd.R_far (p := ⟨gb127, 4, none⟩) (Kd.R_far (p := ⟨gb127, 3, none⟩) (Kd.R_far (p := ⟨gb127, 2, none⟩) (Kd.R_far (p := ⟨gb127, 1, none⟩) (Kd.R_far (p := ⟨gb127, 0, none⟩) (Kd.R_types HO108.out BK127.out (by decide)) (fun _ hk => hk.2) (.int .i64 t120)) (fun _ hk => hk.2) (.slice Ao51 t121.length co51)) (fun _ hk => hk.2) (.int .i64 t124)) (fun _ hk => hk.2) (.int .i64 t125)) (fun _ hk => hk.2) (.bool t126)) (fun _ h_ => h_.1))))) (Kd.R_lt (by (with_reducible repeat (first | apply Kd.R_alloc | apply Kd.R_drewN | apply Kd.R_drew));exact (Kd.R_mono (Kd.R_far (p := ⟨gb127, 4, none⟩) (Kd.R_far (p := ⟨gb127, 3, none⟩) (Kd.R_far (p := ⟨gb127, 2, none⟩) (Kd.R_far (p := ⟨gb127, 1, none⟩) (Kd.R_far (p := ⟨gb127, 0, none⟩) (Kd.R_types HO115.out BK127.out (by decide)) (fun _ hk => hk.2) (.int .i64 t120)) (fun _ hk => hk.2) (.slice Ao51 t121.length co51)) (fun _ hk => hk.2) (.int .i64 t124)) (fun _ hk => hk.2) (.int .i64 t125)) (fun _ hk => hk.2) (.bool t126)) (fun _ h_ => h_.1))))) (Kd.R_lt (by (with_reducible repeat (first | apply Kd.R_alloc | apply Kd.R_drewN | apply Kd.R_drew));exact (Kd.R_mono (Kd.R_far (p := ⟨gb127, 4, none⟩) (Kd.R_far (p := ⟨gb127, 3, none⟩) (Kd.R_far (p := ⟨gb127, 2, none⟩) (Kd.R_far (p := ⟨gb127, 1, none⟩) (Kd.R_far (p := ⟨gb127, 0, none⟩) (Kd.R_types HO123.out BK127.out (by decide)) (fun _ hk => hk.2) (.int .i64 t120)) (fun _ hk => hk.2) (.slice Ao51 t121.length co51)) (fun _ hk => hk.2) (.int .i64 t124)) (fun _ hk => hk.2) (.int .i64 t125)) (fun _ hk => hk.2) (.bool t126)) (fun _ h_ => h_.1))))) (below_size (by repeat (first | (with_reducible first | exact HB.out | apply below_alloc | apply pw_below_drewN | apply below_drew1 | refine below_set ?_ GE101.out | refine below_set ?_ GE102.out | refine below_set ?_ GE127.out) | exact HB.out))));replace HO108 := Aside0.mk (Kd.R_elder' (by (with_reducible repeat (first | apply Kd.R_alloc | apply Kd.R_drewN | apply Kd.R_drew));exact (Kd.R_mono (Kd.R_far (p := ⟨gb127, 4, none⟩) (Kd.R_far (p := ⟨gb127, 3, none⟩) (Kd.R_far (p := ⟨gb127, 2, none⟩) (Kd.R_far (p := ⟨gb127, 1, none⟩) (Kd.R_far (p := ⟨gb127, 0, none⟩) (Kd.R_types HO108.out BK127.out (by decide)) (fun _ hk => hk.2) (.int .i64 t120)) (fun _ hk => hk.2) (.slice Ao51 t121.length co51)) (fun _ hk => hk.2) (.int .i64 t124)) (fun _ hk => hk.2) (.int .i64 t125)) (fun _ hk => hk.2) (.bool t126)) (fun _ h_ => h_.1))) (Kd.R_base ho0) hb);replace HO115 := Aside0.mk (Kd.R_elder' (by (with_reducible repeat (first | apply Kd.R_alloc | apply Kd.R_drewN | apply Kd.R_drew));exact (Kd.R_mono (Kd.R_far (p := ⟨gb127, 4, none⟩) (Kd.R_far (p := ⟨gb127, 3, none⟩) (Kd.R_far (p := ⟨gb127, 2, none⟩) (Kd.R_far (p := ⟨gb127, 1, none⟩) (Kd.R_far (p := ⟨gb127, 0, none⟩) (Kd.R_types HO115.out BK127.out (by decide)) (fun _ hk => hk.2) (.int .i64 t120)) (fun _ hk => hk.2) (.slice Ao51 t121.length co51)) (fun _ hk => hk.2) (.int .i64 t124)) (fun _ hk => hk.2) (.int .i64 t125)) (fun _ hk => hk.2) (.bool t126)) (fun _ h_ => h_.1))) (Kd.R_base ho0) hb);replace HO123 := Aside0.mk (Kd.R_elder' (by (with_reducible repeat (first | apply Kd.R_alloc | apply Kd.R_drewN | apply Kd.R_drew));exact (Kd.R_mono (Kd.R_far (p := ⟨gb127, 4, none⟩) (Kd.R_far (p := ⟨gb127, 3, none⟩) (Kd.R_far (p := ⟨gb127, 2, none⟩) (Kd.R_far (p := ⟨gb127, 1, none⟩) (Kd.R_far (p := ⟨gb127, 0, none⟩) (Kd.R_types HO123.out BK127.out (by decide)) (fun _ hk => hk.2) (.int .i64 t120)) (fun _ hk => hk.2) (.slice Ao51 t121.length co51)) (fun _ hk => hk.2) (.int .i64 t124)) (fun _ hk => hk.2) (.int .i64 t125)) (fun _ hk => hk.2) (.bool t126)) (fun _ h_ => h_.1))) (Kd.R_base ho0) hb);replace BK101 := Aside0.mk (blk_below (g := gb101) (o := .cells #[.int .i64 a0_0, .slice A0_1 l0_1.length c0_1, .int .i64 a0_2, .int .i64 a0_3, .bool a0_4] 71 (0, 0)) (by (with_reducible repeat (first | refine blk_drewN ?_ _ | refine blk_drew ?_ | refine blk_alloc ?_ _));refine blk_far ?_ NB101_127.out _;(with_reducible repeat (first | refine blk_drewN ?_ _ | refine blk_drew ?_ | refine blk_alloc ?_ _));refine blk_far ?_ NB101_127.out _;(with_reducible repeat (first | refine blk_drewN ?_ _ | refine blk_drew ?_ | refine blk_alloc ?_ _));refine blk_far ?_ NB101_127.out _;(with_reducible repeat (first | refine blk_drewN ?_ _ | refine blk_drew ?_ | refine blk_alloc ?_ _));refine blk_far ?_ NB101_127.out _;(with_reducible repeat (first | refine blk_drewN ?_ _ | refine blk_drew ?_ | refine blk_alloc ?_ _));refine blk_far ?_ NB101_127.out _;(with_reducible repeat (first | refine blk_drewN ?_ _ | refine blk_drew ?_ | refine blk_alloc ?_ _));exact BK101.out) hb);replace BK102 := Aside0.mk (blk_below (g := gb102) (o := .cells #[.int .i64 a1_0, .slice A1_1 l1_1.length c1_1, .int .i64 a1_2, .int .i64 a1_3, .bool a1_4] 71 (0, 0)) (by (with_reducible repeat (first | refine blk_drewN ?_ _ | refine blk_drew ?_ | refine blk_alloc ?_ _));refine blk_far ?_ NB102_127.out _;(with_reducible repeat (first | refine blk_drewN ?_ _ | refine blk_drew ?_ | refine blk_alloc ?_ _));refine blk_far ?_ NB102_127.out _;(with_reducible repeat (first | refine blk_drewN ?_ _ | refine blk_drew ?_ | refine blk_alloc ?_ _));refine blk_far ?_ NB102_127.out _;(with_reducible repeat (first | refine blk_drewN ?_ _ | refine blk_drew ?_ | refine blk_alloc ?_ _));refine blk_far ?_ NB102_127.out _;(with_reducible repeat (first | refine blk_drewN ?_ _ | refine blk_drew ?_ | refine blk_alloc ?_ _));refine blk_far ?_ NB102_127.out _;(with_reducible repeat (first | refine blk_drewN ?_ _ | refine blk_drew ?_ | refine blk_alloc ?_ _));exact BK102.out) hb);replace BK127 := Aside0.mk (blk_below (g := gb127) (o := .cells #[.int .i64 t120, .slice Ao51 t121.length co51, .int .i64 t124, .int .i64 t125, .bool t126] 63 (0, 0)) (by (with_reducible repeat (first | refine blk_drewN ?_ _ | refine blk_drew ?_ | refine blk_alloc ?_ _));refine blk_put (cs := #[.int .i64 t120, .slice Ao51 t121.length co51, .int .i64 t124, .int .i64 t125, .bool false]) ?_ 4 _ rfl;(with_reducible repeat (first | refine blk_drewN ?_ _ | refine blk_drew ?_ | refine blk_alloc ?_ _));refine blk_put (cs := #[.int .i64 t120, .slice Ao51 t121.length co51, .int .i64 t124, .int .i64 0, .bool false]) ?_ 3 _ rfl;(with_reducible repeat (first | refine blk_drewN ?_ _ | refine blk_drew ?_ | refine blk_alloc ?_ _));refine blk_put (cs := #[.int .i64 t120, .slice Ao51 t121.length co51, .int .i64 0, .int .i64 0, .bool false]) ?_ 2 _ rfl;(with_reducible repeat (first | refine blk_drewN ?_ _ | refine blk_drew ?_ | refine blk_alloc ?_ _));refine blk_put (cs := #[.int .i64 t120, .slice none 0 0, .int .i64 0, .int .i64 0, .bool false]) ?_ 1 _ rfl;(with_reducible repeat (first | refine blk_drewN ?_ _ | refine blk_drew ?_ | refine blk_alloc ?_ _));refine blk_put (cs := #[.int .i64 0, .slice none 0 0, .int .i64 0, .int .i64 0, .bool false]) ?_ 0 _ rfl;(with_reducible repeat (first | refine blk_drewN ?_ _ | refine blk_drew ?_ | refine blk_alloc ?_ _));exact BK127.out) hb);replace HB := Aside0.mk (below_step (by repeat (first | (with_reducible first | exact HB.out | apply below_alloc | apply pw_below_drewN | apply below_drew1 | refine below_set ?_ GE101.out | refine below_set ?_ GE102.out | refine below_set ?_ GE127.out) | exact HB.out)) hb);(try clear hb);(try clear hb2);(try clear hk);(try clear hi);(try clear ho0)) | ((with_reducible refine gate_dst (N := 8) rfl ?_);refine box_event ?hg (N := 8) ?hd (cs := #[.int .i64 0, .slice none 0 0, .int .i64 0, .int .i64 0, .bool false]) (t := 63) ?hr ?_;(case hd => rfl);(case hg => rfl);(case hr => first | (go_simp;done) | (go_simp;rfl));intro gb135 hg w54 hbox hb;replace HO108 := Aside0.mk (Kd.R_below (by exact HO108.out) hb);replace HO115 := Aside0.mk (Kd.R_below (by exact HO115.out) hb);replace HO123 := Aside0.mk (Kd.R_below (by exact HO123.out) hb);replace HO131 := Aside0.mk (Kd.R_below (by exact HO131.out) hb);have BK135 := Aside0.mk (hbox);have GW135 := Aside0.mk ((by rw [hg];exact (below_size (by repeat (first | (with_reducible first | exact HB.out | apply below_alloc | apply pw_below_drewN | apply below_drew1 | refine below_set ?_ GE101.out | refine below_set ?_ GE102.out | refine below_set ?_ GE127.out) | exact HB.out))) : w.heap.size ≤ gb135));have GE135 := Aside0.mk ((by rw [hg];exact (below_size (by repeat (first | (with_reducible first | exact HB.out | apply below_alloc | apply pw_below_drewN | apply below_drew1 | refine below_set ?_ GE101.out | refine below_set ?_ GE102.out | refine below_set ?_ GE127.out) | exact HB.out))) : w.heap.size ≤ gb135));replace HB := Aside0.mk (below_step (by repeat (first | (with_reducible first | exact HB.out | apply below_alloc | apply pw_below_drewN | apply below_drew1 | refine below_set ?_ GE101.out | refine below_set ?_ GE102.out | refine below_set ?_ GE127.out) | exact HB.out)) hb);have NB101_135 := Aside0.mk ((by rw [hg];exact Nat.ne_of_lt (blk_lt BK101.out) : gb101 ≠ gb135));have NB135_101 := Aside0.mk ((by rw [hg];exact Nat.ne_of_gt (blk_lt BK101.out) : gb135 ≠ gb101));replace BK101 := Aside0.mk (blk_below BK101.out hb);have NB102_135 := Aside0.mk ((by rw [hg];exact Nat.ne_of_lt (blk_lt BK102.out) : gb102 ≠ gb135));have NB135_102 := Aside0.mk ((by rw [hg];exact Nat.ne_of_gt (blk_lt BK102.out) : gb135 ≠ gb102));replace BK102 := Aside0.mk (blk_below BK102.out hb);have NB127_135 := Aside0.mk ((by rw [hg];exact Nat.ne_of_lt (blk_lt BK127.out) : gb127 ≠ gb135));have NB135_127 := Aside0.mk ((by rw [hg];exact Nat.ne_of_gt (blk_lt BK127.out) : gb135 ≠ gb127));replace BK127 := Aside0.mk (blk_below BK127.out hb);clear hb hbox hg;have hnb55 := NB135_101.out;have hnc55 := NB101_135.out;have hnb56 := NB135_102.out;have hnc56 := NB102_135.out;have hnb57 := NB135_127.out;have hnc57 := NB127_135.out;obtain ⟨hcz58_0, hcz58_1, hcz58_2, hcz58_3, hcz58_4, hfz58_0, hfz58_1, hfz58_2, hfz58_3, hfz58_4⟩ := bx5 BK135.out;obtain ⟨Ao59, co59, eo59⟩ := Kd.R_slice HO131.out;subst eo59;obtain ⟨hcz60_0, hcz60_1, hcz60_2, hcz60_3, hcz60_4, hfz60_0, hfz60_1, hfz60_2, hfz60_3, hfz60_4⟩ := bx5 BK127.out) | ((with_reducible refine gate_callee (f := 49) rfl ?_);refine goesL_ (some 31) rfl rfl Try.func49 (by kernel_rfl) rfl #[.agg #[.int .i64 t120, .slice Ao51 t121.length co51, .int .i64 t124, .int .i64 t125, .bool t126], .agg #[.int .i64 t128, .slice Ao59 t129.length co59, .int .i64 t132, .int .i64 t133, .bool t134]] rfl (by (try simp only [List.map_toArray, List.map_cons, List.map_nil]);first | done | rfl | (simp only [List.length_drop, List.length_take];rfl)) ?_;(with_reducible refine (impl_GraphSame.calls k t120 _ _ t121 t124 t125 t126 t128 _ _ t129 t132 t133 t134 t136 _ ?side1 ?side2 ?side3 ?side4 A24.out).mono ?_);(case side1 => refine (Kd.R_reads' (e := 104) (base := w.heap.size) (ok := fun k_ => (((True ∧ some k_ ≠ (.slice Ao42 t106.length co42 : Value).ownBlock) ∧ some k_ ≠ (.slice Ao43 t113.length co43 : Value).ownBlock) ∧ some k_ ≠ (.slice Ao59 t129.length co59 : Value).ownBlock)) (n := t121.length) (c := co51) ?_).2.2;exact (by (with_reducible repeat (first | apply Kd.R_alloc | apply Kd.R_drewN | apply Kd.R_drew));exact (Kd.R_mono (Kd.R_far (p := ⟨gb135, 4, none⟩) (Kd.R_far (p := ⟨gb135, 3, none⟩) (Kd.R_far (p := ⟨gb135, 2, none⟩) (Kd.R_far (p := ⟨gb135, 1, none⟩) (Kd.R_far (p := ⟨gb135, 0, none⟩) (Kd.R_types HO123.out BK135.out (by decide)) (fun _ hk => hk.2) (.int .i64 t128)) (fun _ hk => hk.2) (.slice Ao59 t129.length co59)) (fun _ hk => hk.2) (.int .i64 t132)) (fun _ hk => hk.2) (.int .i64 t133)) (fun _ hk => hk.2) (.bool t134)) (fun _ h_ => h_.1))));(case side2 => exact (Kd.R_reads' HO123.out).2.1);(case side3 => refine (Kd.R_reads' (e := 104) (base := w.heap.size) (ok := fun k_ => (((True ∧ some k_ ≠ (.slice Ao42 t106.length co42 : Value).ownBlock) ∧ some k_ ≠ (.slice Ao43 t113.length co43 : Value).ownBlock) ∧ some k_ ≠ (.slice Ao51 t121.length co51 : Value).ownBlock)) (n := t129.length) (c := co59) ?_).2.2;exact (by (with_reducible repeat (first | apply Kd.R_alloc | apply Kd.R_drewN | apply Kd.R_drew));exact (Kd.R_mono (Kd.R_far (p := ⟨gb135, 4, none⟩) (Kd.R_far (p := ⟨gb135, 3, none⟩) (Kd.R_far (p := ⟨gb135, 2, none⟩) (Kd.R_far (p := ⟨gb135, 1, none⟩) (Kd.R_far (p := ⟨gb135, 0, none⟩) (Kd.R_types HO131.out BK135.out (by decide)) (fun _ hk => hk.2) (.int .i64 t128)) (fun _ hk => hk.2) (.slice Ao59 t129.length co59)) (fun _ hk => hk.2) (.int .i64 t132)) (fun _ hk => hk.2) (.int .i64 t133)) (fun _ hk => hk.2) (.bool t134)) (fun _ h_ => h_.1))));(case side4 => exact (Kd.R_reads' HO131.out).2.1);rintro e w61 ⟨rfl, hb⟩;refine ⟨_, rfl, ?_⟩;replace HO108 := Aside0.mk (Kd.R_below (by (with_reducible repeat (first | apply Kd.R_alloc | apply Kd.R_drewN | apply Kd.R_drew));exact (Kd.R_mono (Kd.R_far (p := ⟨gb135, 4, none⟩) (Kd.R_far (p := ⟨gb135, 3, none⟩) (Kd.R_far (p := ⟨gb135, 2, none⟩) (Kd.R_far (p := ⟨gb135, 1, none⟩) (Kd.R_far (p := ⟨gb135, 0, none⟩) (Kd.R_types HO108.out BK135.out (by decide)) (fun _ hk => hk.2) (.int .i64 t128)) (fun _ hk => hk.2) (.slice Ao59 t129.length co59)) (fun _ hk => hk.2) (.int .i64 t132)) (fun _ hk => hk.2) (.int .i64 t133)) (fun _ hk => hk.2) (.bool t134)) (fun _ h_ => h_.1))) hb);replace HO115 := Aside0.mk (Kd.R_below (by (with_reducible repeat (first | apply Kd.R_alloc | apply Kd.R_drewN | apply Kd.R_drew));exact (Kd.R_mono (Kd.R_far (p := ⟨gb135, 4, none⟩) (Kd.R_far (p := ⟨gb135, 3, none⟩) (Kd.R_far (p := ⟨gb135, 2, none⟩) (Kd.R_far (p := ⟨gb135, 1, none⟩) (Kd.R_far (p := ⟨gb135, 0, none⟩) (Kd.R_types HO115.out BK135.out (by decide)) (fun _ hk => hk.2) (.int .i64 t128)) (fun _ hk => hk.2) (.slice Ao59 t129.length co59)) (fun _ hk => hk.2) (.int .i64 t132)) (fun _ hk => hk.2) (.int .i64 t133)) (fun _ hk => hk.2) (.bool t134)) (fun _ h_ => h_.1))) hb);replace HO123 := Aside0.mk (Kd.R_below (by (with_reducible repeat (first | apply Kd.R_alloc | apply Kd.R_drewN | apply Kd.R_drew));exact (Kd.R_mono (Kd.R_far (p := ⟨gb135, 4, none⟩) (Kd.R_far (p := ⟨gb135, 3, none⟩) (Kd.R_far (p := ⟨gb135, 2, none⟩) (Kd.R_far (p := ⟨gb135, 1, none⟩) (Kd.R_far (p := ⟨gb135, 0, none⟩) (Kd.R_types HO123.out BK135.out (by decide)) (fun _ hk => hk.2) (.int .i64 t128)) (fun _ hk => hk.2) (.slice Ao59 t129.length co59)) (fun _ hk => hk.2) (.int .i64 t132)) (fun _ hk => hk.2) (.int .i64 t133)) (fun _ hk => hk.2) (.bool t134)) (fun _ h_ => h_.1))) hb);replace HO131 := Aside0.mk (Kd.R_below (by (with_reducible repeat (first | apply Kd.R_alloc | apply Kd.R_drewN | apply Kd.R_drew));exact (Kd.R_mono (Kd.R_far (p := ⟨gb135, 4, none⟩) (Kd.R_far (p := ⟨gb135, 3, none⟩) (Kd.R_far (p := ⟨gb135, 2, none⟩) (Kd.R_far (p := ⟨gb135, 1, none⟩) (Kd.R_far (p := ⟨gb135, 0, none⟩) (Kd.R_types HO131.out BK135.out (by decide)) (fun _ hk => hk.2) (.int .i64 t128)) (fun _ hk => hk.2) (.slice Ao59 t129.length co59)) (fun _ hk => hk.2) (.int .i64 t132)) (fun _ hk => hk.2) (.int .i64 t133)) (fun _ hk => hk.2) (.bool t134)) (fun _ h_ => h_.1))) hb);replace BK101 := Aside0.mk (blk_below (g := gb101) (o := .cells #[.int .i64 a0_0, .slice A0_1 l0_1.length c0_1, .int .i64 a0_2, .int .i64 a0_3, .bool a0_4] 71 (0, 0)) (by (with_reducible repeat (first | refine blk_drewN ?_ _ | refine blk_drew ?_ | refine blk_alloc ?_ _));refine blk_far ?_ NB101_135.out _;(with_reducible repeat (first | refine blk_drewN ?_ _ | refine blk_drew ?_ | refine blk_alloc ?_ _));refine blk_far ?_ NB101_135.out _;(with_reducible repeat (first | refine blk_drewN ?_ _ | refine blk_drew ?_ | refine blk_alloc ?_ _));refine blk_far ?_ NB101_135.out _;(with_reducible repeat (first | refine blk_drewN ?_ _ | refine blk_drew ?_ | refine blk_alloc ?_ _));refine blk_far ?_ NB101_135.out _;(with_reducible repeat (first | refine blk_drewN ?_ _ | refine blk_drew ?_ | refine blk_alloc ?_ _));refine blk_far ?_ NB101_135.out _;(with_reducible repeat (first | refine blk_drewN ?_ _ | refine blk_drew ?_ | refine blk_alloc ?_ _));exact BK101.out) hb);replace BK102 := Aside0.mk (blk_below (g := gb102) (o := .cells #[.int .i64 a1_0, .slice A1_1 l1_1.length c1_1, .int .i64 a1_2, .int .i64 a1_3, .bool a1_4] 71 (0, 0)) (by (with_reducible repeat (first | refine blk_drewN ?_ _ | refine blk_drew ?_ | refine blk_alloc ?_ _));refine blk_far ?_ NB102_135.out _;(with_reducible repeat (first | refine blk_drewN ?_ _ | refine blk_drew ?_ | refine blk_alloc ?_ _));refine blk_far ?_ NB102_135.out _;(with_reducible repeat (first | refine blk_drewN ?_ _ | refine blk_drew ?_ | refine blk_alloc ?_ _));refine blk_far ?_ NB102_135.out _;(with_reducible repeat (first | refine blk_drewN ?_ _ | refine blk_drew ?_ | refine blk_alloc ?_ _));refine blk_far ?_ NB102_135.out _;(with_reducible repeat (first | refine blk_drewN ?_ _ | refine blk_drew ?_ | refine blk_alloc ?_ _));refine blk_far ?_ NB102_135.out _;(with_reducible repeat (first | refine blk_drewN ?_ _ | refine blk_drew ?_ | refine blk_alloc ?_ _));exact BK102.out) hb);replace BK127 := Aside0.mk (blk_below (g := gb127) (o := .cells #[.int .i64 t120, .slice Ao51 t121.length co51, .int .i64 t124, .int .i64 t125, .bool t126] 63 (0, 0)) (by (with_reducible repeat (first | refine blk_drewN ?_ _ | refine blk_drew ?_ | refine blk_alloc ?_ _));refine blk_far ?_ NB127_135.out _;(with_reducible repeat (first | refine blk_drewN ?_ _ | refine blk_drew ?_ | refine blk_alloc ?_ _));refine blk_far ?_ NB127_135.out _;(with_reducible repeat (first | refine blk_drewN ?_ _ | refine blk_drew ?_ | refine blk_alloc ?_ _));refine blk_far ?_ NB127_135.out _;(with_reducible repeat (first | refine blk_drewN ?_ _ | refine blk_drew ?_ | refine blk_alloc ?_ _));refine blk_far ?_ NB127_135.out _;(with_reducible repeat (first | refine blk_drewN ?_ _ | refine blk_drew ?_ | refine blk_alloc ?_ _));refine blk_far ?_ NB127_135.out _;(with_reducible repeat (first | refine blk_drewN ?_ _ | refine blk_drew ?_ | refine blk_alloc ?_ _));exact BK127.out) hb);replace BK135 := Aside0.mk (blk_below (g := gb135) (o := .cells #[.int .i64 t128, .slice Ao59 t129.length co59, .int .i64 t132, .int .i64 t133, .bool t134] 63 (0, 0)) (by (with_reducible repeat (first | refine blk_drewN ?_ _ | refine blk_drew ?_ | refine blk_alloc ?_ _));refine blk_put (cs := #[.int .i64 t128, .slice Ao59 t129.length co59, .int .i64 t132, .int .i64 t133, .bool false]) ?_ 4 _ rfl;(with_reducible repeat (first | refine blk_drewN ?_ _ | refine blk_drew ?_ | refine blk_alloc ?_ _));refine blk_put (cs := #[.int .i64 t128, .slice Ao59 t129.length co59, .int .i64 t132, .int .i64 0, .bool false]) ?_ 3 _ rfl;(with_reducible repeat (first | refine blk_drewN ?_ _ | refine blk_drew ?_ | refine blk_alloc ?_ _));refine blk_put (cs := #[.int .i64 t128, .slice Ao59 t129.length co59, .int .i64 0, .int .i64 0, .bool false]) ?_ 2 _ rfl;(with_reducible repeat (first | refine blk_drewN ?_ _ | refine blk_drew ?_ | refine blk_alloc ?_ _));refine blk_put (cs := #[.int .i64 t128, .slice none 0 0, .int .i64 0, .int .i64 0, .bool false]) ?_ 1 _ rfl;(with_reducible repeat (first | refine blk_drewN ?_ _ | refine blk_drew ?_ | refine blk_alloc ?_ _));refine blk_put (cs := #[.int .i64 0, .slice none 0 0, .int .i64 0, .int .i64 0, .bool false]) ?_ 0 _ rfl;(with_reducible repeat (first | refine blk_drewN ?_ _ | refine blk_drew ?_ | refine blk_alloc ?_ _));exact BK135.out) hb);replace HB := Aside0.mk (below_step (by repeat (first | (with_reducible first | exact HB.out | apply below_alloc | apply pw_below_drewN | apply below_drew1 | refine below_set ?_ GE101.out | refine below_set ?_ GE102.out | refine below_set ?_ GE127.out | refine below_set ?_ GE135.out) | exact HB.out)) hb);(try clear hb);(try clear hb2);(try clear hk);(try clear hi)))
      replace HO108 := Aside0.mk (Kd.R_drew HO108.out)
      replace HO115 := Aside0.mk (Kd.R_drew HO115.out)
      replace HO123 := Aside0.mk (Kd.R_drew HO123.out)
      replace HO131 := Aside0.mk (Kd.R_drew HO131.out)
      replace BK101 := Aside0.mk (blk_drew BK101.out)
      replace BK102 := Aside0.mk (blk_drew BK102.out)
      replace BK127 := Aside0.mk (blk_drew BK127.out)
      replace BK135 := Aside0.mk (blk_drew BK135.out)
      replace HB := Aside0.mk (below_drew1 HB.out)
      refine start_ (n := 5) (S := fun w' => w'.cell? ⟨gb127, 0, none⟩ = some (.int .i64 t120) ∧ w'.cell? ⟨gb127, 1, none⟩ = some (.slice Ao51 t121.length co51) ∧ w'.cell? ⟨gb127, 2, none⟩ = some (.int .i64 t124) ∧ w'.cell? ⟨gb127, 3, none⟩ = some (.int .i64 t125) ∧ w'.cell? ⟨gb127, 4, none⟩ = some (.bool t126) ∧ w'.cell? ⟨gb101, 0, none⟩ = some (.int .i64 a0_0) ∧ w'.cell? ⟨gb101, 1, none⟩ = some (.slice A0_1 l0_1.length c0_1) ∧ w'.cell? ⟨gb101, 2, none⟩ = some (.int .i64 a0_2) ∧ w'.cell? ⟨gb101, 3, none⟩ = some (.int .i64 a0_3) ∧ w'.cell? ⟨gb101, 4, none⟩ = some (.bool a0_4)) (ds := []) #[false, false, false, false, false] (by kernel_rfl) rfl rfl ⟨(blk_cell BK127.out 0).trans rfl, (blk_cell BK127.out 1).trans rfl, (blk_cell BK127.out 2).trans rfl, (blk_cell BK127.out 3).trans rfl, (blk_cell BK127.out 4).trans rfl, (blk_cell BK101.out 0).trans rfl, (blk_cell BK101.out 1).trans rfl, (blk_cell BK101.out 2).trans rfl, (blk_cell BK101.out 3).trans rfl, (blk_cell BK101.out 4).trans rfl⟩ (fun hHeld => ?_)
      generalize w61.drew = w62 at HO108 HO115 HO123 HO131 BK101 BK102 BK127 BK135 HB hHeld ⊢
      refine take_ (i := 0) (N := some 35) (v := ?_) (a' := ?_) #[true, false, false, false, false] rfl rfl (by kernel_rfl) (fun _ _ _ h => h) (Or.inl ⟨by rfl, ?_⟩) hHeld ?_ ?_
      rotate_left
      ·rintro w' ⟨s0, s1, s2, s3, s4, s5, s6, s7, s8, s9⟩
       go_simp
       with_reducible rfl
      rotate_left
      ·simp only [Act.put, List.setIfInBounds_toArray, List.set_cons_zero, List.set_cons_succ, i64_w, i32_w]
       rfl
      refine take_ (i := 1) (N := some 36) (v := ?_) (a' := ?_) #[true, true, false, false, false] rfl rfl (by kernel_rfl) (fun _ _ _ h => h) (Or.inl ⟨by rfl, ?_⟩) hHeld ?_ ?_
      rotate_left
      ·rintro w' ⟨s0, s1, s2, s3, s4, s5, s6, s7, s8, s9⟩
       go_simp
       with_reducible rfl
      rotate_left
      ·simp only [Act.put, List.setIfInBounds_toArray, List.set_cons_zero, List.set_cons_succ, i64_w, i32_w]
       rfl
      refine one_ (i := 2) (N := some 37) #[true, true, true, false, false] rfl rfl (by kernel_rfl) (by decide) (fun K hK => ?_)
      refine goes_ Try.func46 (by kernel_rfl) rfl #[.agg #[.int .i64 a0_0, .slice A0_1 l0_1.length c0_1, .int .i64 a0_2, .int .i64 a0_3, .bool a0_4]] (by rfl) rfl rfl (by (try simp only [List.map_toArray, List.map_cons, List.map_nil]);first | done | rfl | (simp only [List.length_drop, List.length_take];rfl)) ?_
      with_reducible refine (laws_toGraph.calls k a0_0 _ _ l0_1 a0_2 a0_3 a0_4 t137 t138 t141 t142 t143 _ ?side1 ?side2 A26.out).mono ?_
      (case side1 => repeat (first | exact (Kd.C_below HR0_1.out HB.out) | (with_reducible refine Kd.C_alloc ?_ _) | (with_reducible refine Kd.C_drewN ?_ _) | (with_reducible refine Kd.C_drew ?_)))
      (case side2 => exact HC0_1.out)
      rintro e w63 ⟨v139, rfl, ho0, hb⟩
      refine ⟨_, rfl, ?_⟩
      have HO140 := Aside0.mk (Kd.R_lower (Kd.R_new' (Kd.R_new' (Kd.R_new' (Kd.R_new' ho0 (Kd.R_lt (by exact HO108.out))) (Kd.R_lt (by exact HO115.out))) (Kd.R_lt (by exact HO123.out))) (Kd.R_lt (by exact HO131.out))) (below_size (by exact HB.out)))
      replace HO108 := Aside0.mk (Kd.R_elder' (by exact HO108.out) (Kd.R_base ho0) hb)
      replace HO115 := Aside0.mk (Kd.R_elder' (by exact HO115.out) (Kd.R_base ho0) hb)
      replace HO123 := Aside0.mk (Kd.R_elder' (by exact HO123.out) (Kd.R_base ho0) hb)
      replace HO131 := Aside0.mk (Kd.R_elder' (by exact HO131.out) (Kd.R_base ho0) hb)
      replace BK101 := Aside0.mk (blk_below BK101.out hb)
      replace BK102 := Aside0.mk (blk_below BK102.out hb)
      replace BK127 := Aside0.mk (blk_below BK127.out hb)
      replace BK135 := Aside0.mk (blk_below BK135.out hb)
      replace HB := Aside0.mk (below_step (by exact HB.out) hb)
      (try clear hb)
      (try clear hb2)
      (try clear hk)
      (try clear hi)
      (try clear ho0)
      obtain ⟨Ao64, co64, eo64⟩ := Kd.R_slice HO140.out
      (first | subst eo64 | (injection eo64 with f1_ f2_ f3_;have f4_ := f1_.symm;have f5_ := f3_.symm;clear f1_ f2_ f3_;subst f4_;subst f5_))
      refine hK.out _ _ ⟨(blk_cell BK127.out 0).trans rfl, (blk_cell BK127.out 1).trans rfl, (blk_cell BK127.out 2).trans rfl, (blk_cell BK127.out 3).trans rfl, (blk_cell BK127.out 4).trans rfl, (blk_cell BK101.out 0).trans rfl, (blk_cell BK101.out 1).trans rfl, (blk_cell BK101.out 2).trans rfl, (blk_cell BK101.out 3).trans rfl, (blk_cell BK101.out 4).trans rfl⟩ (fun hHeld => ?_)
      clear hK K
      refine norm_ (a' := ?_) ?_ ?_
      rotate_left
      ·show Act.put _ (some 37) _ = _
       simp only [Act.put, List.setIfInBounds_toArray, List.set_cons_zero, List.set_cons_succ, i64_w, i32_w]
       rfl
      refine one_ (i := 3) (N := some 38) #[true, true, true, true, false] rfl rfl (by kernel_rfl) (by decide) (fun K hK => ?_)
      refine goes_ Try.func40 (by kernel_rfl) rfl #[.agg #[.int .i64 t120, .slice Ao51 t121.length co51, .int .i64 t124, .int .i64 t125, .bool t126], .agg #[.int .i64 t137, .slice Ao64 t138.length co64, .int .i64 t141, .int .i64 t142, .bool t143]] (by rfl) rfl rfl (by (try simp only [List.map_toArray, List.map_cons, List.map_nil]);first | done | rfl | (simp only [List.length_drop, List.length_take];rfl)) ?_
      with_reducible refine (laws_eqGraph.calls k t120 _ _ t121 t124 t125 t126 t137 _ _ t138 t141 t142 t143 true _ ?side1 ?side2 ?side3 ?side4 A27.out).mono ?_
      (case side1 => repeat (first | exact (Kd.R_reads' HO123.out).2.2 | (with_reducible refine Kd.C_alloc ?_ _) | (with_reducible refine Kd.C_drewN ?_ _) | (with_reducible refine Kd.C_drew ?_)))
      (case side2 => exact (Kd.R_reads' HO123.out).2.1)
      (case side3 => repeat (first | exact (Kd.R_reads' HO140.out).2.2 | (with_reducible refine Kd.C_alloc ?_ _) | (with_reducible refine Kd.C_drewN ?_ _) | (with_reducible refine Kd.C_drew ?_)))
      (case side4 => exact (Kd.R_reads' HO140.out).2.1)
      rintro e w65 ⟨rfl, hb⟩
      refine ⟨_, rfl, ?_⟩
      replace HO108 := Aside0.mk (Kd.R_below (by exact HO108.out) hb)
      replace HO115 := Aside0.mk (Kd.R_below (by exact HO115.out) hb)
      replace HO123 := Aside0.mk (Kd.R_below (by exact HO123.out) hb)
      replace HO131 := Aside0.mk (Kd.R_below (by exact HO131.out) hb)
      replace HO140 := Aside0.mk (Kd.R_below (by exact HO140.out) hb)
      replace BK101 := Aside0.mk (blk_below BK101.out hb)
      replace BK102 := Aside0.mk (blk_below BK102.out hb)
      replace BK127 := Aside0.mk (blk_below BK127.out hb)
      replace BK135 := Aside0.mk (blk_below BK135.out hb)
      replace HB := Aside0.mk (below_step (by exact HB.out) hb)
      (try clear hb)
      (try clear hb2)
      (try clear hk)
      (try clear hi)
      refine hK.out _ _ ⟨(blk_cell BK127.out 0).trans rfl, (blk_cell BK127.out 1).trans rfl, (blk_cell BK127.out 2).trans rfl, (blk_cell BK127.out 3).trans rfl, (blk_cell BK127.out 4).trans rfl, (blk_cell BK101.out 0).trans rfl, (blk_cell BK101.out 1).trans rfl, (blk_cell BK101.out 2).trans rfl, (blk_cell BK101.out 3).trans rfl, (blk_cell BK101.out 4).trans rfl⟩ (fun hHeld => ?_)
      clear hK K
      refine norm_ (a' := ?_) ?_ ?_
      rotate_left
      ·show Act.put _ (some 38) _ = _
       simp only [Act.put, List.setIfInBounds_toArray, List.set_cons_zero, List.set_cons_succ, i64_w, i32_w]
       rfl
      refine pure_ (i := 4) (N := some 39) (v := ?_) (a' := ?_) #[true, true, true, true, true] rfl rfl (by kernel_rfl) (fun _ _ _ h => h) (Or.inl ⟨by rfl, ?_⟩) ?_ ?_
      rotate_left
      ·intro w'
       go_simp
       with_reducible rfl
      rotate_left
      ·simp only [Act.put, List.setIfInBounds_toArray, List.set_cons_zero, List.set_cons_succ, i64_w, i32_w]
       rfl
      refine done_ (by kernel_rfl) ?_
      try go_wp2
      replace HO108 := Aside0.mk (Kd.R_drew HO108.out)
      replace HO115 := Aside0.mk (Kd.R_drew HO115.out)
      replace HO123 := Aside0.mk (Kd.R_drew HO123.out)
      replace HO131 := Aside0.mk (Kd.R_drew HO131.out)
      replace HO140 := Aside0.mk (Kd.R_drew HO140.out)
      replace BK101 := Aside0.mk (blk_drew BK101.out)
      replace BK102 := Aside0.mk (blk_drew BK102.out)
      replace BK127 := Aside0.mk (blk_drew BK127.out)
      replace BK135 := Aside0.mk (blk_drew BK135.out)
      replace HB := Aside0.mk (below_drew1 HB.out)
      refine start_ (n := 5) (S := fun w' => w'.cell? ⟨gb135, 0, none⟩ = some (.int .i64 t128) ∧ w'.cell? ⟨gb135, 1, none⟩ = some (.slice Ao59 t129.length co59) ∧ w'.cell? ⟨gb135, 2, none⟩ = some (.int .i64 t132) ∧ w'.cell? ⟨gb135, 3, none⟩ = some (.int .i64 t133) ∧ w'.cell? ⟨gb135, 4, none⟩ = some (.bool t134) ∧ w'.cell? ⟨gb102, 0, none⟩ = some (.int .i64 a1_0) ∧ w'.cell? ⟨gb102, 1, none⟩ = some (.slice A1_1 l1_1.length c1_1) ∧ w'.cell? ⟨gb102, 2, none⟩ = some (.int .i64 a1_2) ∧ w'.cell? ⟨gb102, 3, none⟩ = some (.int .i64 a1_3) ∧ w'.cell? ⟨gb102, 4, none⟩ = some (.bool a1_4)) (ds := []) #[false, false, false, false, false] (by kernel_rfl) rfl rfl ⟨(blk_cell BK135.out 0).trans rfl, (blk_cell BK135.out 1).trans rfl, (blk_cell BK135.out 2).trans rfl, (blk_cell BK135.out 3).trans rfl, (blk_cell BK135.out 4).trans rfl, (blk_cell BK102.out 0).trans rfl, (blk_cell BK102.out 1).trans rfl, (blk_cell BK102.out 2).trans rfl, (blk_cell BK102.out 3).trans rfl, (blk_cell BK102.out 4).trans rfl⟩ (fun hHeld => ?_)
      generalize w65.drew = w66 at HO108 HO115 HO123 HO131 HO140 BK101 BK102 BK127 BK135 HB hHeld ⊢
      refine take_ (i := 0) (N := some 40) (v := ?_) (a' := ?_) #[true, false, false, false, false] rfl rfl (by kernel_rfl) (fun _ _ _ h => h) (Or.inl ⟨by rfl, ?_⟩) hHeld ?_ ?_
      rotate_left
      ·rintro w' ⟨s0, s1, s2, s3, s4, s5, s6, s7, s8, s9⟩
       go_simp
       with_reducible rfl
      rotate_left
      ·simp only [Act.put, List.setIfInBounds_toArray, List.set_cons_zero, List.set_cons_succ, i64_w, i32_w]
       rfl
      refine take_ (i := 1) (N := some 41) (v := ?_) (a' := ?_) #[true, true, false, false, false] rfl rfl (by kernel_rfl) (fun _ _ _ h => h) (Or.inl ⟨by rfl, ?_⟩) hHeld ?_ ?_
      rotate_left
      ·rintro w' ⟨s0, s1, s2, s3, s4, s5, s6, s7, s8, s9⟩
       go_simp
       with_reducible rfl
      rotate_left
      ·simp only [Act.put, List.setIfInBounds_toArray, List.set_cons_zero, List.set_cons_succ, i64_w, i32_w]
       rfl
      refine one_ (i := 2) (N := some 42) #[true, true, true, false, false] rfl rfl (by kernel_rfl) (by decide) (fun K hK => ?_)
      refine goes_ Try.func46 (by kernel_rfl) rfl #[.agg #[.int .i64 a1_0, .slice A1_1 l1_1.length c1_1, .int .i64 a1_2, .int .i64 a1_3, .bool a1_4]] (by rfl) rfl rfl (by (try simp only [List.map_toArray, List.map_cons, List.map_nil]);first | done | rfl | (simp only [List.length_drop, List.length_take];rfl)) ?_
      with_reducible refine (laws_toGraph.calls k a1_0 _ _ l1_1 a1_2 a1_3 a1_4 t145 t146 t149 t150 t151 _ ?side1 ?side2 A29.out).mono ?_
      (case side1 => repeat (first | exact (Kd.C_below HR1_1.out HB.out) | (with_reducible refine Kd.C_alloc ?_ _) | (with_reducible refine Kd.C_drewN ?_ _) | (with_reducible refine Kd.C_drew ?_)))
      (case side2 => exact HC1_1.out)
      rintro e w67 ⟨v147, rfl, ho0, hb⟩
      refine ⟨_, rfl, ?_⟩
      have HO148 := Aside0.mk (Kd.R_lower (Kd.R_new' (Kd.R_new' (Kd.R_new' (Kd.R_new' (Kd.R_new' ho0 (Kd.R_lt (by exact HO108.out))) (Kd.R_lt (by exact HO115.out))) (Kd.R_lt (by exact HO123.out))) (Kd.R_lt (by exact HO131.out))) (Kd.R_lt (by exact HO140.out))) (below_size (by exact HB.out)))
      replace HO108 := Aside0.mk (Kd.R_elder' (by exact HO108.out) (Kd.R_base ho0) hb)
      replace HO115 := Aside0.mk (Kd.R_elder' (by exact HO115.out) (Kd.R_base ho0) hb)
      replace HO123 := Aside0.mk (Kd.R_elder' (by exact HO123.out) (Kd.R_base ho0) hb)
      replace HO131 := Aside0.mk (Kd.R_elder' (by exact HO131.out) (Kd.R_base ho0) hb)
      replace HO140 := Aside0.mk (Kd.R_elder' (by exact HO140.out) (Kd.R_base ho0) hb)
      replace BK101 := Aside0.mk (blk_below BK101.out hb)
      replace BK102 := Aside0.mk (blk_below BK102.out hb)
      replace BK127 := Aside0.mk (blk_below BK127.out hb)
      replace BK135 := Aside0.mk (blk_below BK135.out hb)
      replace HB := Aside0.mk (below_step (by exact HB.out) hb)
      (try clear hb)
      (try clear hb2)
      (try clear hk)
      (try clear hi)
      (try clear ho0)
      obtain ⟨Ao68, co68, eo68⟩ := Kd.R_slice HO148.out
      (first | subst eo68 | (injection eo68 with f1_ f2_ f3_;have f4_ := f1_.symm;have f5_ := f3_.symm;clear f1_ f2_ f3_;subst f4_;subst f5_))
      refine hK.out _ _ ⟨(blk_cell BK135.out 0).trans rfl, (blk_cell BK135.out 1).trans rfl, (blk_cell BK135.out 2).trans rfl, (blk_cell BK135.out 3).trans rfl, (blk_cell BK135.out 4).trans rfl, (blk_cell BK102.out 0).trans rfl, (blk_cell BK102.out 1).trans rfl, (blk_cell BK102.out 2).trans rfl, (blk_cell BK102.out 3).trans rfl, (blk_cell BK102.out 4).trans rfl⟩ (fun hHeld => ?_)
      clear hK K
      refine norm_ (a' := ?_) ?_ ?_
      rotate_left
      ·show Act.put _ (some 42) _ = _
       simp only [Act.put, List.setIfInBounds_toArray, List.set_cons_zero, List.set_cons_succ, i64_w, i32_w]
       rfl
      refine one_ (i := 3) (N := some 43) #[true, true, true, true, false] rfl rfl (by kernel_rfl) (by decide) (fun K hK => ?_)
      refine goes_ Try.func40 (by kernel_rfl) rfl #[.agg #[.int .i64 t128, .slice Ao59 t129.length co59, .int .i64 t132, .int .i64 t133, .bool t134], .agg #[.int .i64 t145, .slice Ao68 t146.length co68, .int .i64 t149, .int .i64 t150, .bool t151]] (by rfl) rfl rfl (by (try simp only [List.map_toArray, List.map_cons, List.map_nil]);first | done | rfl | (simp only [List.length_drop, List.length_take];rfl)) ?_
      with_reducible refine (laws_eqGraph.calls k t128 _ _ t129 t132 t133 t134 t145 _ _ t146 t149 t150 t151 true _ ?side1 ?side2 ?side3 ?side4 A30.out).mono ?_
      (case side1 => repeat (first | exact (Kd.R_reads' HO131.out).2.2 | (with_reducible refine Kd.C_alloc ?_ _) | (with_reducible refine Kd.C_drewN ?_ _) | (with_reducible refine Kd.C_drew ?_)))
      (case side2 => exact (Kd.R_reads' HO131.out).2.1)
      (case side3 => repeat (first | exact (Kd.R_reads' HO148.out).2.2 | (with_reducible refine Kd.C_alloc ?_ _) | (with_reducible refine Kd.C_drewN ?_ _) | (with_reducible refine Kd.C_drew ?_)))
      (case side4 => exact (Kd.R_reads' HO148.out).2.1)
      rintro e w69 ⟨rfl, hb⟩
      refine ⟨_, rfl, ?_⟩
      replace HO108 := Aside0.mk (Kd.R_below (by exact HO108.out) hb)
      replace HO115 := Aside0.mk (Kd.R_below (by exact HO115.out) hb)
      replace HO123 := Aside0.mk (Kd.R_below (by exact HO123.out) hb)
      replace HO131 := Aside0.mk (Kd.R_below (by exact HO131.out) hb)
      replace HO140 := Aside0.mk (Kd.R_below (by exact HO140.out) hb)
      replace HO148 := Aside0.mk (Kd.R_below (by exact HO148.out) hb)
      replace BK101 := Aside0.mk (blk_below BK101.out hb)
      replace BK102 := Aside0.mk (blk_below BK102.out hb)
      replace BK127 := Aside0.mk (blk_below BK127.out hb)
      replace BK135 := Aside0.mk (blk_below BK135.out hb)
      replace HB := Aside0.mk (below_step (by exact HB.out) hb)
      (try clear hb)
      (try clear hb2)
      (try clear hk)
      (try clear hi)
      refine hK.out _ _ ⟨(blk_cell BK135.out 0).trans rfl, (blk_cell BK135.out 1).trans rfl, (blk_cell BK135.out 2).trans rfl, (blk_cell BK135.out 3).trans rfl, (blk_cell BK135.out 4).trans rfl, (blk_cell BK102.out 0).trans rfl, (blk_cell BK102.out 1).trans rfl, (blk_cell BK102.out 2).trans rfl, (blk_cell BK102.out 3).trans rfl, (blk_cell BK102.out 4).trans rfl⟩ (fun hHeld => ?_)
      clear hK K
      refine norm_ (a' := ?_) ?_ ?_
      rotate_left
      ·show Act.put _ (some 43) _ = _
       simp only [Act.put, List.setIfInBounds_toArray, List.set_cons_zero, List.set_cons_succ, i64_w, i32_w]
       rfl
      refine pure_ (i := 4) (N := some 44) (v := ?_) (a' := ?_) #[true, true, true, true, true] rfl rfl (by kernel_rfl) (fun _ _ _ h => h) (Or.inl ⟨by rfl, ?_⟩) ?_ ?_
      rotate_left
      ·intro w'
       go_simp
       with_reducible rfl
      rotate_left
      ·simp only [Act.put, List.setIfInBounds_toArray, List.set_cons_zero, List.set_cons_succ, i64_w, i32_w]
       rfl
      refine done_ (by kernel_rfl) ?_
      try go_wp2
      go_ret
      exact ⟨by first | rfl | (simp [errW_none, errW_some] <;> rfl) | (simp [*, errW_none, errW_some] <;> rfl), by repeat (first | (with_reducible first | exact HB.out | apply below_alloc | apply pw_below_drewN | apply below_drew1 | refine below_set ?_ GE101.out | refine below_set ?_ GE102.out | refine below_set ?_ GE127.out | refine below_set ?_ GE135.out) | exact HB.out)⟩
     ·replace c31 := Bool.eq_false_iff.mpr c31
      subst c31
      have H1 : (some false) = some r := by rw [if_neg (show ¬ (false = true) by decide)] at H;exact H
      clear H
      have H := H1
      clear H1
      exact absurd (Option.some.inj H) (by rw [hT_.out];decide)
    ·replace c28 := Bool.eq_false_iff.mpr c28
     subst c28
     have H1 : (some false) = some r := by rw [if_neg (show ¬ (false = true) by decide)] at H;exact H
     clear H
     have H := H1
     clear H1
     exact absurd (Option.some.inj H) (by rw [hT_.out];decide)

end Go.Proofs.Ytdljhokealbnnaa.M
namespace Go.Proofs.Ytdljhokealbnnaa.M
set_option linter.unusedVariables false
set_option linter.unusedSimpArgs false
open Go.RowKit Go.Proofs.YtdljhokealbnnaaW.PrintWords Go.Proofs.YtdljhokealbnnaaW.PrintLast

theorem rd_nat (l : List Int) (n : Nat) : rd l (n : Int) = l.getD n 0 := rfl

theorem szIntS_ok (l : List Int) (a : Int) (h0 : 0 ≤ a) (h1 : a ≤ 1048576) (hl : l.length ≤ 9223372036854775807) : laws_szIntS.f l a = some (if (l.length : Int) ≤ a then a - l.length else -1) := by
  unfold laws_szIntS.f
  rw [w_small (by omega) (by omega)]
  by_cases h : (l.length : Int) ≤ a
  · rw [if_neg (by omega), if_pos h]
  · rw [if_pos (by omega), if_neg h]

theorem toIntS_l0_ev (l : List Int) (hl : l.length ≤ 9223372036854775807) : ∀ (d n : Nat) (a : List Int), n + d = l.length → a.length = l.length → Ev (fun k => laws_toIntS.l0 k l a (n : Int)) (a.take n ++ l.drop n) := by
  intro d
  induction d with
  | zero =>
    intro n a hn ha
    rw [List.drop_of_length_le (by omega), List.take_of_length_le (by omega), List.append_nil]
    exact Ev.last (fun k => by simp only [laws_toIntS.l0]; rw [if_neg (by omega)])
  | succ d ih =>
    intro n a hn ha
    rw [drop_at l 0 n (by omega)]
    have next := ih (n + 1) (a.set n (l.getD n 0)) (by omega) (by rw [List.length_set]; exact ha)
    rw [take_set a n _ (by omega), List.append_assoc] at next
    refine Ev.step (fun k => by simp only [laws_toIntS.l0]; rw [if_pos (by omega), if_pos (by omega), if_pos (by omega), w_succ (by omega), rd_nat, Int.toNat_natCast]) ?_
    exact next
theorem toIntS_ev (l : List Int) (hl : l.length ≤ 1048576) : Ev (fun k => laws_toIntS.f k l) l := by
  unfold laws_toIntS.f
  refine Ev.pos (by omega) (Ev.pos (by omega) ?_)
  have := toIntS_l0_ev l (by omega) l.length 0 (List.replicate l.length 0) (by omega) (by simp)
  rw [Int.toNat_natCast]
  exact this

theorem eqIntS_l0_ev (l : List Int) (hl : l.length ≤ 9223372036854775807) : ∀ d n : Nat, n + d = l.length → Ev (fun k => laws_eqIntS.l0 k l l (n : Int)) true := by
  intro d
  induction d with
  | zero =>
    intro n hn
    exact Ev.last (fun k => by simp only [laws_eqIntS.l0]; rw [if_neg (by omega)])
  | succ d ih =>
    intro n hn
    refine Ev.step (fun k => by simp only [laws_eqIntS.l0]; rw [if_pos (by omega), if_pos (by omega), if_pos (by omega), if_pos trivial, w_succ (by omega)]) ?_
    exact ih (n + 1) (by omega)
theorem eqIntS_ev (l : List Int) (hl : l.length ≤ 9223372036854775807) : Ev (fun k => laws_eqIntS.f k l l) true := by
  unfold laws_eqIntS.f
  exact Ev.pos rfl (eqIntS_l0_ev l hl l.length 0 (by omega))
end Go.Proofs.Ytdljhokealbnnaa.M
namespace Go.Proofs.Ytdljhokealbnnaa.M
set_option linter.unusedVariables false
set_option linter.unusedSimpArgs false
open Go.RowKit Go.Proofs.YtdljhokealbnnaaW.PrintWords Go.Proofs.YtdljhokealbnnaaW.PrintLast

theorem maxLen_le {n : Nat} (h : n ≤ maxLen) : n ≤ 9223372036854775807 := by unfold maxLen at h; omega
def leftOf (a : Int) (n : Nat) : Int := if (n : Int) ≤ a then a - n else -1
theorem leftOf_neg {a : Int} {n : Nat} (h : ¬ (n : Int) ≤ a) : leftOf a n = -1 := if_neg h
theorem leftOf_pos {a : Int} {n : Nat} (h : (n : Int) ≤ a) : leftOf a n = a - n := if_pos h
def sumW {α : Type} (w : α → Nat) : List α → Nat
  | [] => 0
  | x :: xs => w x + sumW w xs
theorem sumW_mem {α : Type} (w : α → Nat) : ∀ (l : List α) (x : α), x ∈ l → w x ≤ sumW w l
  | [], _, h => by simp at h
  | y :: ys, x, h => by
    rw [sumW]
    rcases List.mem_cons.1 h with rfl | h
    · omega
    · have := sumW_mem w ys x h
      omega
theorem getD_in {α : Type} {l : List α} {z : α} {n : Nat} (h : n < l.length) : l.getD n z = l[n] := by
  rw [List.getD_eq_getElem?_getD, List.getElem?_eq_getElem h]
  rfl

theorem left_more {a : Int} {m n : Nat} : (if (m : Int) ≤ a then leftOf (a - m) n else -1) = leftOf a (m + n) := by
  unfold leftOf
  by_cases h : (m : Int) ≤ a
  · rw [if_pos h]
    by_cases h2 : (n : Int) ≤ a - m
    · rw [if_pos h2, if_pos (by omega)]
      omega
    · rw [if_neg h2, if_neg (by omega)]
  · rw [if_neg h, if_neg (by omega)]
theorem left_two {g : Nat → Option Int} {f : Int → Nat → Option Int} {a : Int} {m n : Nat} (h0 : 0 ≤ a) (hg : Ev g (leftOf a m)) (hf : (m : Int) ≤ a → Ev (f (a - m)) (leftOf (a - m) n)) : Ev (fun k => (g k).bind fun t => if t < 0 then some (-1) else f t k) (leftOf a (m + n)) := by
  refine Ev.bind hg ?_
  rw [← left_more]
  by_cases h : (m : Int) ≤ a
  · rw [leftOf_pos h, if_pos h]
    exact Ev.neg (by omega) (hf h)
  · rw [leftOf_neg h, if_neg h]
    exact Ev.pos (by omega) (Ev.now _)
theorem left_last {g : Nat → Option Int} {a : Int} {m : Nat} (h0 : 0 ≤ a) (hg : Ev g (leftOf a m)) : Ev (fun k => (g k).bind fun t => if t < 0 then some (-1) else some t) (leftOf a m) := by
  refine Ev.bind hg ?_
  by_cases h : (m : Int) ≤ a
  · rw [leftOf_pos h]
    exact Ev.neg (by omega) (Ev.now _)
  · rw [leftOf_neg h]
    exact Ev.pos (by omega) (Ev.now _)
theorem left_own {f : Int → Nat → Option Int} {a : Int} {m n : Nat} (h0 : 0 ≤ a) (h1 : a ≤ 1048576) (hm : m ≤ 9223372036854775807) (hf : (m : Int) ≤ a → Ev (f (a - m)) (leftOf (a - m) n)) : Ev (fun k => if wrap64 (a - (m : Int)) < 0 then some (-1) else f (wrap64 (a - (m : Int))) k) (leftOf a (m + n)) := by
  have hw : wrap64 (a - (m : Int)) = a - m := w_small (by omega) (by omega)
  rw [hw, ← left_more]
  by_cases h : (m : Int) ≤ a
  · rw [if_pos h]
    exact Ev.neg (by omega) (hf h)
  · rw [if_neg h]
    exact Ev.pos (by omega) (Ev.now _)

theorem gen_sz {α : Type} (z : α) (w : α → Nat) (e : Nat → α → Int → Option Int) (L : Nat → List α → Int → Int → Option Int)
    (hL : ∀ k l a n, L (k + 1) l a n = if n < (l.length : Int) then (if 0 ≤ n then ((e k (l.getD n.toNat z) a).bind fun t => (if t < 0 then (some (-1)) else (L k l t (wrap64 (n + 1))))) else none) else some a)
    (l : List α) (hl : l.length ≤ 9223372036854775807) (he : ∀ x ∈ l, ∀ a : Int, 0 ≤ a → a ≤ 1048576 → Ev (fun k => e k x a) (leftOf a (w x))) :
    ∀ (d n : Nat) (a : Int), n + d = l.length → 0 ≤ a → a ≤ 1048576 → Ev (fun k => L k l a (n : Int)) (leftOf a (sumW w (l.drop n))) := by
  intro d
  induction d with
  | zero =>
    intro n a hn h0 h1
    rw [List.drop_of_length_le (by omega), sumW, leftOf_pos (by omega)]
    exact Ev.last (fun k => by rw [hL, if_neg (by omega)]; simp)
  | succ d ih =>
    intro n a hn h0 h1
    have hlt : n < l.length := by omega
    rw [List.drop_eq_getElem_cons hlt, sumW]
    refine Ev.step (fun k => by rw [hL, if_pos (by omega), if_pos (by omega), Int.toNat_natCast, getD_in hlt, w_succ (by omega)]) ?_
    exact left_two (f := fun t k => L k l t ((n + 1 : Nat) : Int)) h0 (he _ (List.getElem_mem _) a h0 h1) (fun h => ih (n + 1) _ (by omega) (by omega) (by omega))
def allW {α : Type} (w : α → Nat) (l : List α) : Nat := l.length + sumW w l
theorem gen_szS {α : Type} (z : α) (w : α → Nat) (e : Nat → α → Int → Option Int) (L : Nat → List α → Int → Int → Option Int)
    (hL : ∀ k l a n, L (k + 1) l a n = if n < (l.length : Int) then (if 0 ≤ n then ((e k (l.getD n.toNat z) a).bind fun t => (if t < 0 then (some (-1)) else (L k l t (wrap64 (n + 1))))) else none) else some a)
    (l : List α) (hl : l.length ≤ 9223372036854775807) (he : ∀ x ∈ l, ∀ a : Int, 0 ≤ a → a ≤ 1048576 → Ev (fun k => e k x a) (leftOf a (w x))) (a : Int) (h0 : 0 ≤ a) (h1 : a ≤ 1048576) :
    Ev (fun k => if wrap64 (a - (l.length : Int)) < 0 then some (-1) else L k l (wrap64 (a - (l.length : Int))) 0) (leftOf a (allW w l)) :=
  left_own (f := fun t k => L k l t 0) h0 h1 hl (fun h => gen_sz z w e L hL l hl he l.length 0 _ (by omega) (by omega) (by omega))
theorem allW_mem {α : Type} {w : α → Nat} {l : List α} {x : α} (h : x ∈ l) : w x ≤ allW w l := by
  have := sumW_mem w l x h
  unfold allW
  omega
theorem allW_len {α : Type} {w : α → Nat} {l : List α} : l.length ≤ allW w l := by unfold allW; omega

theorem gen_to {α β γ : Type} (z : α) (cv : α → β) (u : α → γ) (pack : γ → β) (hp : ∀ x, pack (u x) = cv x) (e : Nat → α → Option γ) (L : Nat → List α → List β → Int → Option (List β))
    (hL : ∀ k l m n, L (k + 1) l m n = if n < (l.length : Int) then (if 0 ≤ n then ((e k (l.getD n.toNat z)).bind fun t => (if n < (m.length : Int) then (L k l (m.set n.toNat (pack t)) (wrap64 (n + 1))) else none)) else none) else some m)
    (l : List α) (hl : l.length ≤ 1048576) (he : ∀ x ∈ l, Ev (fun k => e k x) (u x)) :
    ∀ (d n : Nat) (m : List β), n + d = l.length → m.length = l.length → m.take n = (l.take n).map cv → Ev (fun k => L k l m (n : Int)) (l.map cv) := by
  intro d
  induction d with
  | zero =>
    intro n m hn hm ht
    refine Ev.last (fun k => by rw [hL, if_neg (by omega)]; rw [List.take_of_length_le (by omega), List.take_of_length_le (by omega)] at ht; rw [ht])
  | succ d ih =>
    intro n m hn hm ht
    have hlt : n < l.length := by omega
    refine Ev.step (fun k => by rw [hL, if_pos (by omega), if_pos (by omega), Int.toNat_natCast, getD_in hlt, w_succ (by omega)]) ?_
    refine Ev.bind (he _ (List.getElem_mem _)) (Ev.pos (by omega) ?_)
    refine ih (n + 1) _ (by omega) (by simp [hm]) ?_
    rw [take_set _ _ _ (by omega), ht, List.take_succ_eq_append_getElem hlt, List.map_append, hp]
    rfl
theorem gen_toS {α β γ : Type} (z : α) (zb : β) (cap : Nat) (hcap : 1048576 ≤ cap) (cv : α → β) (u : α → γ) (pack : γ → β) (hp : ∀ x, pack (u x) = cv x) (e : Nat → α → Option γ) (L : Nat → List α → List β → Int → Option (List β))
    (hL : ∀ k l m n, L (k + 1) l m n = if n < (l.length : Int) then (if 0 ≤ n then ((e k (l.getD n.toNat z)).bind fun t => (if n < (m.length : Int) then (L k l (m.set n.toNat (pack t)) (wrap64 (n + 1))) else none)) else none) else some m)
    (l : List α) (hl : l.length ≤ 1048576) (he : ∀ x ∈ l, Ev (fun k => e k x) (u x)) :
    Ev (fun k => if 0 ≤ (l.length : Int) then (if ((l.length : Int) : Int).toNat ≤ cap then (L k l (List.replicate ((l.length : Int) : Int).toNat zb) 0) else none) else none) (l.map cv) := by
  refine Ev.pos (by omega) (Ev.pos (by omega) ?_)
  rw [Int.toNat_natCast]
  exact gen_to z cv u pack hp e L hL l hl he l.length 0 _ (by omega) (by simp) (by simp)

theorem gen_eq {β : Type} (z : β) (e : Nat → β → β → Option Bool) (L : Nat → List β → List β → Int → Option Bool)
    (hL : ∀ k l m n, L (k + 1) l m n = if n < (l.length : Int) then (if 0 ≤ n then (if n < (m.length : Int) then ((e k (l.getD n.toNat z) (m.getD n.toNat z)).bind fun t => (if t = true then (L k l m (wrap64 (n + 1))) else some false)) else none) else none) else some true)
    (l : List β) (hl : l.length ≤ 1048576) (he : ∀ x ∈ l, Ev (fun k => e k x x) true) :
    ∀ (d n : Nat), n + d = l.length → Ev (fun k => L k l l (n : Int)) true := by
  intro d
  induction d with
  | zero =>
    intro n hn
    exact Ev.last (fun k => by rw [hL, if_neg (by omega)])
  | succ d ih =>
    intro n hn
    have hlt : n < l.length := by omega
    refine Ev.step (fun k => by rw [hL, if_pos (by omega), if_pos (by omega), if_pos (by omega), Int.toNat_natCast, getD_in hlt, w_succ (by omega)]) ?_
    exact Ev.bind (he _ (List.getElem_mem _)) (Ev.pos rfl (ih (n + 1) (by omega)))
theorem gen_eqS {β : Type} (z : β) (e : Nat → β → β → Option Bool) (L : Nat → List β → List β → Int → Option Bool)
    (hL : ∀ k l m n, L (k + 1) l m n = if n < (l.length : Int) then (if 0 ≤ n then (if n < (m.length : Int) then ((e k (l.getD n.toNat z) (m.getD n.toNat z)).bind fun t => (if t = true then (L k l m (wrap64 (n + 1))) else some false)) else none) else none) else some true)
    (l : List β) (hl : l.length ≤ 1048576) (he : ∀ x ∈ l, Ev (fun k => e k x x) true) :
    Ev (fun k => if (l.length : Int) = (l.length : Int) then L k l l 0 else some false) true :=
  Ev.pos rfl (gen_eq z e L hL l hl he l.length 0 (by omega))

theorem gen_two {β : Type} (z : β) (e f : Nat → β → β → Option Bool) (L M : Nat → List β → List β → Int → Option Bool)
    (hL : ∀ k l m n, L (k + 1) l m n = if n < (l.length : Int) then (if 0 ≤ n then (if n < (m.length : Int) then ((e k (l.getD n.toNat z) (m.getD n.toNat z)).bind fun t => (if t = true then (L k l m (wrap64 (n + 1))) else some false)) else none) else none) else some true)
    (hM : ∀ k l m n, M (k + 1) l m n = if n < (l.length : Int) then (if 0 ≤ n then (if n < (l.length : Int) then (if n < (m.length : Int) then ((f k (l.getD n.toNat z) (m.getD n.toNat z)).bind fun t => (if t = true then (M k l m (wrap64 (n + 1))) else some false)) else none) else none) else none) else some true)
    (l m : List β) (hl : l.length ≤ 1048576) (hm : l.length = m.length) (he : ∀ x ∈ l, ∀ y, ∃ v, Ev (fun k => e k x y) v ∧ Ev (fun k => f k x y) v) :
    ∀ (d n : Nat), n + d = l.length → ∃ v, Ev (fun k => L k l m (n : Int)) v ∧ Ev (fun k => M k l m (n : Int)) v := by
  intro d
  induction d with
  | zero =>
    intro n hn
    exact ⟨true, Ev.last (fun k => by rw [hL, if_neg (by omega)]), Ev.last (fun k => by rw [hM, if_neg (by omega)])⟩
  | succ d ih =>
    intro n hn
    have hlt : n < l.length := by omega
    have hlt2 : n < m.length := by omega
    obtain ⟨v, h1, h2⟩ := he l[n] (List.getElem_mem _) m[n]
    obtain ⟨v', h3, h4⟩ := ih (n + 1) (by omega)
    have sL : ∀ k, L (k + 1) l m (n : Int) = (e k l[n] m[n]).bind fun t => (if t = true then (L k l m ((n + 1 : Nat) : Int)) else some false) := fun k => by rw [hL, if_pos (by omega), if_pos (by omega), if_pos (by omega), Int.toNat_natCast, getD_in hlt, getD_in hlt2, w_succ (by omega)]
    have sM : ∀ k, M (k + 1) l m (n : Int) = (f k l[n] m[n]).bind fun t => (if t = true then (M k l m ((n + 1 : Nat) : Int)) else some false) := fun k => by rw [hM, if_pos (by omega), if_pos (by omega), if_pos (by omega), if_pos (by omega), Int.toNat_natCast, getD_in hlt, getD_in hlt2, w_succ (by omega)]
    cases v with
    | true => exact ⟨v', Ev.step sL (Ev.bind h1 (Ev.pos rfl h3)), Ev.step sM (Ev.bind h2 (Ev.pos rfl h4))⟩
    | false => exact ⟨false, Ev.step sL (Ev.bind h1 (Ev.neg (by decide) (Ev.now _))), Ev.step sM (Ev.bind h2 (Ev.neg (by decide) (Ev.now _)))⟩
theorem gen_twoS {β : Type} (z : β) (e f : Nat → β → β → Option Bool) (L M : Nat → List β → List β → Int → Option Bool)
    (hL : ∀ k l m n, L (k + 1) l m n = if n < (l.length : Int) then (if 0 ≤ n then (if n < (m.length : Int) then ((e k (l.getD n.toNat z) (m.getD n.toNat z)).bind fun t => (if t = true then (L k l m (wrap64 (n + 1))) else some false)) else none) else none) else some true)
    (hM : ∀ k l m n, M (k + 1) l m n = if n < (l.length : Int) then (if 0 ≤ n then (if n < (l.length : Int) then (if n < (m.length : Int) then ((f k (l.getD n.toNat z) (m.getD n.toNat z)).bind fun t => (if t = true then (M k l m (wrap64 (n + 1))) else some false)) else none) else none) else none) else some true)
    (l m : List β) (hl : l.length ≤ 1048576) (he : ∀ x ∈ l, ∀ y, ∃ v, Ev (fun k => e k x y) v ∧ Ev (fun k => f k x y) v) :
    ∃ v, Ev (fun k => if (l.length : Int) = (m.length : Int) then L k l m 0 else some false) v ∧ Ev (fun k => if (l.length : Int) = (m.length : Int) then M k l m 0 else some false) v := by
  by_cases h : l.length = m.length
  · obtain ⟨v, h1, h2⟩ := gen_two z e f L M hL hM l m hl h he l.length 0 (by omega)
    exact ⟨v, Ev.pos (by omega) h1, Ev.pos (by omega) h2⟩
  · exact ⟨false, Ev.neg (by omega) (Ev.now _), Ev.neg (by omega) (Ev.now _)⟩
end Go.Proofs.Ytdljhokealbnnaa.M
namespace Go.Proofs.Ytdljhokealbnnaa.M
set_option linter.unusedVariables false
set_option linter.unusedSimpArgs false
open Go.RowKit Go.Proofs.YtdljhokealbnnaaW.PrintWords Go.Proofs.YtdljhokealbnnaaW.PrintLast

def cmpI : List Int → List Int → Int
  | [], [] => 0
  | [], _ :: _ => -1
  | _ :: _, [] => 1
  | a :: xs, b :: ys => if a < b then -1 else if a > b then 1 else cmpI xs ys
def sgn (b : Bool) : Int := if b then -1 else 1
def cmpO (a b : S106) : Int := if a.f1 = b.f1 then (if a.f0 = b.f0 then cmpI a.f2 b.f2 else sgn (decide (a.f0 < b.f0))) else sgn (decide (a.f1 < b.f1))
theorem l3Ids_l0_ev (a b : List Int) (ha : a.length ≤ 9223372036854775806) (hb : b.length ≤ 9223372036854775806) : ∀ d n : Nat, n + d = a.length → n ≤ b.length → Ev (fun k => spec_l3Ids.l0 k a b (n : Int)) (cmpI (a.drop n) (b.drop n)) := by
  intro d
  have ends : ∀ (n : Nat), n ≤ a.length → n ≤ b.length → (n = a.length ∨ n = b.length) → Ev (fun k => spec_l3Ids.j1 k a b (n : Int) false) (cmpI (a.drop n) (b.drop n)) := by
    intro n h1 h2 h3
    refine Ev.last (fun k => ?_)
    simp only [spec_l3Ids.j1]
    rw [if_neg (by decide)]
    rcases Nat.lt_or_ge n a.length with ha' | ha'
    · have hbn : n = b.length := by omega
      rw [if_neg (by omega), if_pos (by omega), List.drop_eq_getElem_cons ha', List.drop_of_length_le (show b.length ≤ n by omega)]
      rfl
    · rw [List.drop_of_length_le ha']
      rcases Nat.lt_or_ge n b.length with hb' | hb'
      · rw [if_pos (by omega), List.drop_eq_getElem_cons hb']
        rfl
      · rw [if_neg (by omega), if_neg (by omega), List.drop_of_length_le hb']
        rfl
  induction d with
  | zero =>
    intro n hn hb'
    refine Ev.step (fun k => by simp only [spec_l3Ids.l0]; rw [if_neg (by omega)]) ?_
    exact ends n (by omega) hb' (by omega)
  | succ d ih =>
    intro n hn hb'
    refine Ev.step (fun k => by simp only [spec_l3Ids.l0]; rw [if_pos (by omega)]) ?_
    rcases Nat.lt_or_ge n b.length with hlt | hge
    · rw [decide_eq_true (show (n : Int) < (b.length : Int) by omega)]
      refine Ev.step (fun k => by simp only [spec_l3Ids.j1]; rw [if_pos trivial, if_pos (by omega), if_pos (by omega), if_pos (by omega), w_succ (by omega)]) ?_
      rw [drop_at a 0 n (by omega), drop_at b 0 n (by omega)]
      have next := ih (n + 1) (by omega) (by omega)
      have ra : rd a (n : Int) = a.getD n 0 := rfl
      have rb : rd b (n : Int) = b.getD n 0 := rfl
      rw [ra, rb]
      generalize a.getD n 0 = x at *
      generalize b.getD n 0 = y at *
      unfold cmpI
      by_cases h1 : x < y
      · rw [if_pos h1]
        exact Ev.pos h1 (Ev.now _)
      · rw [if_neg h1]
        refine Ev.neg h1 ?_
        by_cases h2 : x > y
        · rw [if_pos h2]
          exact Ev.pos h2 (Ev.now _)
        · rw [if_neg h2]
          exact Ev.neg h2 next
    · rw [decide_eq_false (show ¬ (n : Int) < (b.length : Int) by omega)]
      exact ends n (by omega) hb' (by omega)
theorem l3Ids_ev (a b : List Int) (ha : a.length ≤ 9223372036854775806) (hb : b.length ≤ 9223372036854775806) : Ev (fun k => spec_l3Ids.f k a b) (cmpI a b) := by
  unfold spec_l3Ids.f
  exact l3Ids_l0_ev a b ha hb a.length 0 (by omega) (by omega)

theorem cmp_Compare_is (a b : Int) : cmp_Compare_int.f a b = some (if a < b then -1 else if a > b then 1 else 0) := by
  unfold cmp_Compare_int.f cmp_isNaN_int.f
  simp only [Option.bind_some, bne_self_eq_false]
  rw [if_neg (by decide), if_neg (by decide)]
  by_cases h : a < b
  · rw [if_pos h, if_pos h]
  · rw [if_neg h, if_neg h]
    by_cases h2 : a > b
    · rw [if_pos h2, if_pos h2]
    · rw [if_neg h2, if_neg h2]
theorem impl_Compare_l0_ev (a b : List Int) (ha : a.length ≤ 9223372036854775806) (hb : b.length ≤ 9223372036854775806) : ∀ d n : Nat, n + d = a.length → n ≤ b.length → Ev (fun k => slices_Compare_int_int.l0 k a b a (a.length : Int) (n : Int)) (cmpI (a.drop n) (b.drop n)) := by
  intro d
  induction d with
  | zero =>
    intro n hn hb'
    refine Ev.last (fun k => ?_)
    simp only [slices_Compare_int_int.l0]
    rw [if_neg (by omega), List.drop_of_length_le (show a.length ≤ n by omega)]
    rcases Nat.lt_or_ge n b.length with hlt | hge
    · rw [if_pos (by omega), List.drop_eq_getElem_cons hlt]
      rfl
    · rw [if_neg (by omega), List.drop_of_length_le hge]
      rfl
  | succ d ih =>
    intro n hn hb'
    have ra : rd a (n : Int) = a.getD n 0 := rfl
    have rb : rd b (n : Int) = b.getD n 0 := rfl
    refine Ev.step (fun k => by simp only [slices_Compare_int_int.l0]; rw [if_pos (by omega), if_pos (by omega), if_pos (by omega), w_succ (by omega), ra, rb, cmp_Compare_is]) ?_
    rcases Nat.lt_or_ge n b.length with hlt | hge
    · refine Ev.neg (by omega) (Ev.pos (by omega) ?_)
      rw [drop_at a 0 n (by omega), drop_at b 0 n (by omega)]
      have next := ih (n + 1) (by omega) (by omega)
      generalize a.getD n 0 = x at *
      generalize b.getD n 0 = y at *
      refine Ev.bind (Ev.now _) ?_
      unfold cmpI
      by_cases h1 : x < y
      · rw [if_pos h1, if_pos h1]
        exact Ev.neg (by decide) (Ev.now _)
      · rw [if_neg h1, if_neg h1]
        by_cases h2 : x > y
        · rw [if_pos h2, if_pos h2]
          exact Ev.neg (by decide) (Ev.now _)
        · rw [if_neg h2, if_neg h2]
          exact Ev.pos rfl next
    · refine Ev.pos (by omega) ?_
      rw [drop_at a 0 n (by omega), List.drop_of_length_le hge]
      exact Ev.now _
theorem impl_compare_ev (a b : S106) (ha : a.f2.length ≤ 9223372036854775806) (hb : b.f2.length ≤ 9223372036854775806) : Ev (fun k => impl_compare.f k a.f0 a.f1 a.f2 b.f0 b.f1 b.f2) (cmpO a b) := by
  unfold impl_compare.f cmpO impl_sign.f
  by_cases h1 : a.f1 = b.f1
  · rw [if_pos h1]
    refine Ev.pos h1 ?_
    by_cases h2 : a.f0 = b.f0
    · rw [if_pos h2]
      exact Ev.pos h2 (Ev.bindS (impl_Compare_l0_ev a.f2 b.f2 ha hb a.f2.length 0 (by omega) (by omega)) rfl)
    · rw [if_neg h2]
      refine Ev.neg h2 (Ev.one (fun _ => ?_))
      by_cases h3 : a.f0 < b.f0 <;> simp [h3, sgn]
  · rw [if_neg h1]
    refine Ev.neg h1 (Ev.one (fun _ => ?_))
    by_cases h3 : a.f1 < b.f1 <;> simp [h3, sgn]
def Short (l : List S106) : Prop := ∀ x ∈ l, x.f2.length ≤ 9223372036854775806
theorem Short.at_ {l : List S106} (h : Short l) (n : Nat) : (l.getD n z106).f2.length ≤ 9223372036854775806 := by
  rw [List.getD_eq_getElem?_getD]
  rcases Nat.lt_or_ge n l.length with hn | hn
  · rw [List.getElem?_eq_getElem hn]
    exact h _ (List.getElem_mem hn)
  · rw [List.getElem?_eq_none hn]
    show (z106).f2.length ≤ _
    simp [z106]

def cvO (x : S173) : S106 := ⟨x.f0, x.f1, x.f2⟩
def szO : List S173 → Nat
  | [] => 0
  | x :: xs => x.f2.length + szO xs
theorem szIntS_is (l : List Int) (a : Int) (h0 : 0 ≤ a) (h1 : a ≤ 1048576) (hl : l.length ≤ 9223372036854775807) : laws_szIntS.f l a = some (leftOf a l.length) := szIntS_ok l a h0 h1 hl
theorem szOcc_is (x : S173) (a : Int) (h0 : 0 ≤ a) (h1 : a ≤ 1048576) (hl : x.f2.length ≤ 9223372036854775807) : laws_szOcc.f x.f0 x.f1 x.f2 a = some (leftOf a x.f2.length) := by
  unfold laws_szOcc.f
  rw [szIntS_is _ _ h0 h1 hl, Option.bind_some]
  by_cases h : (x.f2.length : Int) ≤ a
  · rw [leftOf_pos h, if_neg (by omega)]
  · rw [leftOf_neg h, if_pos (by omega)]

def ShortL (l : List S173) : Prop := ∀ x ∈ l, x.f2.length ≤ 9223372036854775807
theorem ShortL.at_ {l : List S173} (h : ShortL l) (n : Nat) : (l.getD n z173).f2.length ≤ 9223372036854775807 := by
  rw [List.getD_eq_getElem?_getD]
  rcases Nat.lt_or_ge n l.length with hn | hn
  · rw [List.getElem?_eq_getElem hn]
    exact h _ (List.getElem_mem hn)
  · rw [List.getElem?_eq_none hn]
    show (z173).f2.length ≤ _
    simp [z173]
theorem szOccS_l0_ev (l : List S173) (hl : l.length ≤ 9223372036854775807) (hs : ShortL l) : ∀ (d n : Nat) (a : Int), n + d = l.length → 0 ≤ a → a ≤ 1048576 → Ev (fun k => laws_szOccS.l0 k l a (n : Int)) (leftOf a (szO (l.drop n))) := by
  intro d
  induction d with
  | zero =>
    intro n a hn h0 h1
    rw [List.drop_of_length_le (by omega), leftOf_pos (show ((szO [] : Nat) : Int) ≤ a from h0)]
    exact Ev.last (fun k => by simp only [laws_szOccS.l0]; rw [if_neg (by omega)]; simp [szO])
  | succ d ih =>
    intro n a hn h0 h1
    have hr : rd_T173 l (n : Int) = l.getD n z173 := rfl
    have hx := hs.at_ n
    rw [drop_at l z173 n (by omega)]
    refine Ev.step (fun k => by simp only [laws_szOccS.l0]; rw [if_pos (by omega), if_pos (by omega), hr, w_succ (by omega)]) ?_
    generalize l.getD n z173 = x at *
    refine Ev.bind (Ev.one (fun _ => szOcc_is x a h0 h1 hx)) ?_
    rw [szO]
    by_cases h : (x.f2.length : Int) ≤ a
    · rw [leftOf_pos h]
      refine Ev.neg (by omega) (Ev.val (ih (n + 1) (a - x.f2.length) (by omega) (by omega) (by omega)) ?_)
      unfold leftOf
      by_cases h2 : ((szO (l.drop (n + 1)) : Nat) : Int) ≤ a - x.f2.length
      · rw [if_pos h2, if_pos (by omega)]
        omega
      · rw [if_neg h2, if_neg (by omega)]
    · rw [leftOf_neg h, leftOf_neg (by omega)]
      exact Ev.pos (by omega) (Ev.now _)
def allO (l : List S173) : Nat := l.length + szO l
theorem szOccS_ev (l : List S173) (hl : l.length ≤ 9223372036854775807) (hs : ShortL l) (a : Int) (h0 : 0 ≤ a) (h1 : a ≤ 1048576) : Ev (fun k => laws_szOccS.f k l a) (leftOf a (allO l)) := by
  unfold laws_szOccS.f allO
  rw [w_small (by omega) (by omega)]
  by_cases h : (l.length : Int) ≤ a
  · refine Ev.neg (by omega) (Ev.val (szOccS_l0_ev l hl hs l.length 0 (a - l.length) (by omega) (by omega) (by omega)) ?_)
    rw [List.drop_zero]
    unfold leftOf
    by_cases h2 : ((szO l : Nat) : Int) ≤ a - l.length
    · rw [if_pos h2, if_pos (by omega)]
      omega
    · rw [if_neg h2, if_neg (by omega)]
  · rw [leftOf_neg (by omega)]
    exact Ev.pos (by omega) (Ev.now _)
theorem szO_mem : ∀ (l : List S173) (x : S173), x ∈ l → x.f2.length ≤ szO l
  | [], _, h => by simp at h
  | y :: ys, x, h => by
    rw [szO]
    rcases List.mem_cons.1 h with rfl | h
    · omega
    · have := szO_mem ys x h
      omega
def FewO (l : List S173) : Prop := allO l ≤ 1048576
theorem FewO.len {l : List S173} (h : FewO l) : l.length ≤ 1048576 := by unfold FewO allO at h; omega
theorem FewO.ids {l : List S173} (h : FewO l) (x : S173) (hx : x ∈ l) : x.f2.length ≤ 1048576 := by
  have := szO_mem l x hx
  unfold FewO allO at h
  omega

theorem toOcc_ev (x : S173) (hl : x.f2.length ≤ 1048576) : Ev (fun k => laws_toOcc.f k x.f0 x.f1 x.f2) (x.f0, x.f1, x.f2) := by
  unfold laws_toOcc.f
  exact Ev.bindS (toIntS_ev x.f2 hl) rfl
theorem toOccS_l0_ev (l : List S173) (hl : FewO l) : ∀ (d n : Nat) (a : List S106), n + d = l.length → a.length = l.length → Ev (fun k => laws_toOccS.l0 k l a (n : Int)) (a.take n ++ (l.drop n).map cvO) := by
  have hlen := hl.len
  intro d
  induction d with
  | zero =>
    intro n a hn ha
    rw [List.drop_of_length_le (by omega), List.take_of_length_le (by omega), List.map_nil, List.append_nil]
    exact Ev.last (fun k => by simp only [laws_toOccS.l0]; rw [if_neg (by omega)])
  | succ d ih =>
    intro n a hn ha
    have hlt : n < l.length := by omega
    have hr : rd_T173 l (n : Int) = l.getD n z173 := rfl
    have hx : (l.getD n z173).f2.length ≤ 1048576 := by
      refine hl.ids _ ?_
      rw [List.getD_eq_getElem?_getD, List.getElem?_eq_getElem hlt]
      exact List.getElem_mem hlt
    rw [drop_at l z173 n hlt]
    have next := ih (n + 1) (a.set n (cvO (l.getD n z173))) (by omega) (by rw [List.length_set]; exact ha)
    rw [take_set a n _ (by omega), List.append_assoc] at next
    refine Ev.step (fun k => by simp only [laws_toOccS.l0]; rw [if_pos (by omega), if_pos (by omega), w_succ (by omega), hr, Int.toNat_natCast]) ?_
    refine Ev.bind (toOcc_ev _ hx) (Ev.pos (by omega) ?_)
    rw [List.map_cons]
    exact next
theorem toOccS_ev (l : List S173) (hl : FewO l) : Ev (fun k => laws_toOccS.f k l) (l.map cvO) := by
  have hlen := hl.len
  unfold laws_toOccS.f
  refine Ev.pos (by omega) (Ev.pos (by omega) ?_)
  have := toOccS_l0_ev l hl l.length 0 (List.replicate l.length z106) (by omega) (by simp)
  rw [Int.toNat_natCast]
  exact this
theorem short_map (l : List S173) (hl : FewO l) : Short (l.map cvO) := by
  intro x hx
  obtain ⟨y, hy, rfl⟩ := List.mem_map.1 hx
  have := hl.ids y hy
  show y.f2.length ≤ _
  omega

theorem eqOcc_ev (o : S106) (hl : o.f2.length ≤ 9223372036854775806) : Ev (fun k => laws_eqOcc.f k o.f0 o.f1 o.f2 o.f0 o.f1 o.f2) true := by
  unfold laws_eqOcc.f
  exact Ev.pos rfl (Ev.pos rfl (Ev.bindS (eqIntS_ev o.f2 (by omega)) rfl))
theorem eqOccS_l0_ev (l : List S106) (hl : l.length ≤ 9223372036854775806) (hs : Short l) : ∀ d n : Nat, n + d = l.length → Ev (fun k => laws_eqOccS.l0 k l l (n : Int)) true := by
  intro d
  induction d with
  | zero =>
    intro n hn
    exact Ev.last (fun k => by simp only [laws_eqOccS.l0]; rw [if_neg (by omega)])
  | succ d ih =>
    intro n hn
    have hr : rd_T106 l (n : Int) = l.getD n z106 := rfl
    refine Ev.step (fun k => by simp only [laws_eqOccS.l0]; rw [if_pos (by omega), if_pos (by omega), if_pos (by omega), hr, w_succ (by omega)]) ?_
    exact Ev.bind (eqOcc_ev _ (hs.at_ n)) (Ev.pos rfl (ih (n + 1) (by omega)))
theorem eqOccS_ev (l : List S106) (hl : l.length ≤ 9223372036854775806) (hs : Short l) : Ev (fun k => laws_eqOccS.f k l l) true := by
  unfold laws_eqOccS.f
  exact Ev.pos rfl (eqOccS_l0_ev l hl hs l.length 0 (by omega))

theorem cmpI_eq : ∀ a b : List Int, cmpI a b = 0 ↔ a = b
  | [], [] => by simp [cmpI]
  | [], _ :: _ => by simp [cmpI]
  | _ :: _, [] => by simp [cmpI]
  | a :: xs, b :: ys => by
    unfold cmpI
    by_cases h1 : a < b
    · rw [if_pos h1]
      constructor
      · intro h; exact absurd h (by decide)
      · intro h; injection h with h _; omega
    · rw [if_neg h1]
      by_cases h2 : a > b
      · rw [if_pos h2]
        constructor
        · intro h; exact absurd h (by decide)
        · intro h; injection h with h _; omega
      · rw [if_neg h2, cmpI_eq xs ys]
        have : a = b := by omega
        subst this
        simp
theorem sgn_ne (b : Bool) : sgn b ≠ 0 := by cases b <;> decide
theorem cmpO_eq (a b : S106) : cmpO a b = 0 ↔ a = b := by
  obtain ⟨a0, a1, a2⟩ := a
  obtain ⟨b0, b1, b2⟩ := b
  unfold cmpO
  dsimp only
  by_cases h1 : a1 = b1
  · rw [if_pos h1]
    by_cases h0 : a0 = b0
    · rw [if_pos h0, cmpI_eq]
      subst h1
      subst h0
      simp
    · rw [if_neg h0]
      constructor
      · intro h; exact absurd h (sgn_ne _)
      · intro h; injection h with h _ _; exact absurd h h0
  · rw [if_neg h1]
    constructor
    · intro h; exact absurd h (sgn_ne _)
    · intro h; injection h with _ h _; exact absurd h h1
def occsEq : List S106 → List S106 → Bool
  | [], [] => true
  | x :: xs, y :: ys => (cmpO x y == 0) && occsEq xs ys
  | _, _ => false
theorem occsEq_iff : ∀ a b : List S106, occsEq a b = true ↔ a = b
  | [], [] => by simp [occsEq]
  | [], _ :: _ => by simp [occsEq]
  | _ :: _, [] => by simp [occsEq]
  | x :: xs, y :: ys => by
    unfold occsEq
    rw [Bool.and_eq_true, occsEq_iff xs ys, beq_iff_eq, cmpO_eq]
    simp
theorem occsEq_self (a : List S106) : occsEq a a = true := (occsEq_iff a a).2 rfl
theorem occsEq_len (a b : List S106) (h : a.length ≠ b.length) : occsEq a b = false := by
  rw [Bool.eq_false_iff]
  intro e
  exact h (by rw [(occsEq_iff a b).1 e])

theorem l3Same_ev (a b : S106) (ha : a.f2.length ≤ 9223372036854775806) (hb : b.f2.length ≤ 9223372036854775806) : Ev (fun k => spec_l3Same.f k a.f0 a.f1 a.f2 b.f0 b.f1 b.f2) (cmpO a b == 0) := by
  have no : a ≠ b → (cmpO a b == 0) = false := fun h => beq_eq_false_iff_ne.2 (fun e => h ((cmpO_eq a b).1 e))
  unfold spec_l3Same.f
  by_cases h0 : a.f0 = b.f0
  · refine Ev.pos h0 ?_
    by_cases h1 : a.f1 = b.f1
    · refine Ev.pos h1 ?_
      by_cases h2 : (a.f2.length : Int) = (b.f2.length : Int)
      · refine Ev.pos h2 (Ev.bindS (l3Ids_ev _ _ ha hb) ?_)
        unfold cmpO
        rw [if_pos h1, if_pos h0]
      · rw [no (fun e => h2 (by rw [e]))]
        exact Ev.neg h2 (Ev.now _)
    · rw [no (fun e => h1 (by rw [e]))]
      exact Ev.neg h1 (Ev.now _)
  · rw [no (fun e => h0 (by rw [e]))]
    exact Ev.neg h0 (Ev.now _)
theorem spec_OccsSame_l0_ev (a b : List S106) (hl : a.length ≤ 9223372036854775806) (ha : Short a) (hb : Short b) (hab : a.length = b.length) : ∀ d n : Nat, n + d = a.length → Ev (fun k => spec_OccsSame.l0 k a b (n : Int)) (occsEq (a.drop n) (b.drop n)) := by
  intro d
  induction d with
  | zero =>
    intro n hn
    rw [List.drop_of_length_le (by omega), List.drop_of_length_le (by omega)]
    exact Ev.last (fun k => by simp only [spec_OccsSame.l0]; rw [if_neg (by omega)]; rfl)
  | succ d ih =>
    intro n hn
    have hra : rd_T106 a (n : Int) = a.getD n z106 := rfl
    have hrb : rd_T106 b (n : Int) = b.getD n z106 := rfl
    have hx := ha.at_ n
    have hy := hb.at_ n
    rw [drop_at a z106 n (by omega), drop_at b z106 n (by omega)]
    have next := ih (n + 1) (by omega)
    refine Ev.step (fun k => by simp only [spec_OccsSame.l0]; rw [if_pos (by omega), if_pos (by omega), if_pos (by omega), hra, hrb, w_succ (by omega)]) ?_
    generalize a.getD n z106 = x at *
    generalize b.getD n z106 = y at *
    refine Ev.bind (l3Same_ev x y hx hy) ?_
    unfold occsEq
    by_cases h : (cmpO x y == 0) = true
    · rw [h]
      exact Ev.pos rfl next
    · refine Ev.neg h ?_
      simp only [Bool.not_eq_true] at h
      rw [h]
      exact Ev.now _
theorem spec_OccsSame_ev (a b : List S106) (hl : a.length ≤ 9223372036854775806) (ha : Short a) (hb : Short b) : Ev (fun k => spec_OccsSame.f k a b) (occsEq a b) := by
  unfold spec_OccsSame.f
  by_cases h : a.length = b.length
  · exact Ev.pos (by omega) (spec_OccsSame_l0_ev a b hl ha hb h a.length 0 (by omega))
  · rw [occsEq_len a b h]
    exact Ev.neg (by omega) (Ev.now _)
theorem impl_EqualFunc_l0_ev (a b : List S106) (hl : a.length ≤ 9223372036854775806) (ha : Short a) (hb : Short b) (hab : a.length = b.length) : ∀ d n : Nat, n + d = a.length → Ev (fun k => impl_Occ.l0 k b a (a.length : Int) (n : Int)) (occsEq (a.drop n) (b.drop n)) := by
  intro d
  induction d with
  | zero =>
    intro n hn
    rw [List.drop_of_length_le (by omega), List.drop_of_length_le (by omega)]
    exact Ev.last (fun k => by simp only [impl_Occ.l0]; rw [if_neg (by omega)]; rfl)
  | succ d ih =>
    intro n hn
    have hra : rd_T106 a (n : Int) = a.getD n z106 := rfl
    have hrb : rd_T106 b (n : Int) = b.getD n z106 := rfl
    have hx := ha.at_ n
    have hy := hb.at_ n
    rw [drop_at a z106 n (by omega), drop_at b z106 n (by omega)]
    have next := ih (n + 1) (by omega)
    refine Ev.step (fun k => by simp only [impl_Occ.l0, impl_OccsSame_1.f]; rw [if_pos (by omega), if_pos (by omega), if_pos (by omega), if_pos (by omega), hra, hrb, w_succ (by omega)]) ?_
    generalize a.getD n z106 = x at *
    generalize b.getD n z106 = y at *
    refine Ev.bind (a := cmpO x y == 0) (Ev.bindS (impl_compare_ev x y hx hy) rfl) ?_
    unfold occsEq
    by_cases h : (cmpO x y == 0) = true
    · rw [h]
      exact Ev.pos rfl next
    · refine Ev.neg h ?_
      simp only [Bool.not_eq_true] at h
      rw [h]
      exact Ev.now _
theorem impl_OccsSame_ev (a b : List S106) (hl : a.length ≤ 9223372036854775806) (ha : Short a) (hb : Short b) : Ev (fun k => impl_OccsSame.f k a b) (occsEq a b) := by
  unfold impl_OccsSame.f impl_Occ.f
  refine Ev.bindS (a := occsEq a b) ?_ rfl
  by_cases h : a.length = b.length
  · exact Ev.pos (by omega) (impl_EqualFunc_l0_ev a b hl ha hb h a.length 0 (by omega))
  · rw [occsEq_len a b h]
    exact Ev.neg (by omega) (Ev.now _)
end Go.Proofs.Ytdljhokealbnnaa.M
namespace Go.Proofs.Ytdljhokealbnnaa.M
set_option linter.unusedVariables false
set_option linter.unusedSimpArgs false
open Go.RowKit Go.Proofs.YtdljhokealbnnaaW.PrintWords Go.Proofs.YtdljhokealbnnaaW.PrintLast

theorem good_ids (x : S173) (h : good173 x) : x.f2.length ≤ 9223372036854775807 := maxLen_le h.2.2.1
def goodOs (l : List S173) : Prop := l.length ≤ maxLen ∧ ∀ y ∈ l, good173 y
theorem goodOs.short {l : List S173} (h : goodOs l) : ShortL l := fun x hx => good_ids x (h.2 x hx)
theorem goodOs.sz {l : List S173} (h : goodOs l) (a : Int) (h0 : 0 ≤ a) (h1 : a ≤ 1048576) : Ev (fun k => laws_szOccS.f k l a) (leftOf a (allO l)) := szOccS_ev l (maxLen_le h.1) h.short a h0 h1
theorem few_cv {l : List S173} (h : FewO l) : (l.map cvO).length ≤ 1048576 := by rw [List.length_map]; exact h.len
theorem sz2 {p q : List S173} (h : goodOs p) (g : goodOs q) (a : Int) (h0 : 0 ≤ a) (h1 : a ≤ 1048576) : Ev (fun k => (laws_szOccS.f k p a).bind fun t => (if t < 0 then (some (-1)) else ((laws_szOccS.f k q t).bind fun t => (if t < 0 then (some (-1)) else (some t))))) (leftOf a (allO p + allO q)) :=
  left_two (f := fun t k => (laws_szOccS.f k q t).bind fun t => (if t < 0 then (some (-1)) else (some t))) h0 (h.sz a h0 h1) (fun hm => left_last (by omega) (g.sz _ (by omega) (by omega)))
theorem to2 {p q : List S173} (h : FewO p) (g : FewO q) : Ev (fun k => (laws_toOccS.f k p).bind fun t => ((laws_toOccS.f k q).bind fun u => (some (t, u)))) (p.map cvO, q.map cvO) := Ev.bind (toOccS_ev p h) (Ev.bindS (toOccS_ev q g) rfl)
theorem and2 {f g : Nat → Option Bool} {a b : Bool} (h : Ev f a) (k : Ev g b) : Ev (fun n => (f n).bind fun t => (if t = true then ((g n).bind fun u => (some u)) else (some false))) (a && b) := by
  refine Ev.bind h ?_
  cases a with
  | true => exact Ev.pos rfl (Ev.bindS k (by simp))
  | false => exact Ev.neg (by decide) (Ev.now _)
theorem eq2 {p q : List S173} (h : FewO p) (g : FewO q) : Ev (fun n => (laws_eqOccS.f n (p.map cvO) (p.map cvO)).bind fun t => (if t = true then ((laws_eqOccS.f n (q.map cvO) (q.map cvO)).bind fun t => (if t = true then (some true) else (some false))) else (some false))) true := by
  have k1 := few_cv h
  have k2 := few_cv g
  exact Ev.bind (eqOccS_ev _ (by omega) (short_map p h)) (Ev.pos rfl (Ev.bindS (eqOccS_ev _ (by omega) (short_map q g)) rfl))

def allN (x : S141) : Nat := x.f3.length + ((allO x.f4.f0 + allO x.f4.f1) + ((allO x.f5.f0 + allO x.f5.f1) + allO x.f6))
def cvN (x : S141) : S104 := ⟨x.f0, x.f1, x.f2, x.f3, ⟨x.f4.f0.map cvO, x.f4.f1.map cvO⟩, ⟨x.f5.f0.map cvO, x.f5.f1.map cvO⟩, x.f6.map cvO, x.f7⟩
theorem szNode_ev (x : S141) (h : good141 x) (a : Int) (h0 : 0 ≤ a) (h1 : a ≤ 1048576) : Ev (fun k => laws_szNode.f k x.f0 x.f1 x.f2 x.f3 x.f4.f0 x.f4.f1 x.f5.f0 x.f5.f1 x.f6 x.f7 a) (leftOf a (allN x)) := by
  unfold laws_szNode.f allN
  obtain ⟨_, _, _, h3, h4, h5, h6, _⟩ := h
  refine left_two (f := fun t k => (laws_szPair.f k x.f4.f0 x.f4.f1 t).bind fun t103 => (if t103 < 0 then (some (-1)) else ((laws_szSpan.f k x.f5.f0 x.f5.f1 t103).bind fun t104 => (if t104 < 0 then (some (-1)) else ((laws_szOccS.f k x.f6 t104).bind fun t105 => (if t105 < 0 then (some (-1)) else (some t105))))))) h0 (Ev.one (fun _ => szIntS_is x.f3 a h0 h1 (maxLen_le h3.1))) (fun hm => ?_)
  refine left_two (f := fun t k => (laws_szSpan.f k x.f5.f0 x.f5.f1 t).bind fun t104 => (if t104 < 0 then (some (-1)) else ((laws_szOccS.f k x.f6 t104).bind fun t105 => (if t105 < 0 then (some (-1)) else (some t105))))) (by omega) (sz2 h4.1 h4.2 _ (by omega) (by omega)) (fun hm2 => ?_)
  refine left_two (f := fun t k => (laws_szOccS.f k x.f6 t).bind fun t105 => (if t105 < 0 then (some (-1)) else (some t105))) (by omega) (sz2 h5.1 h5.2 _ (by omega) (by omega)) (fun hm3 => ?_)
  exact left_last (by omega) (goodOs.sz h6 _ (by omega) (by omega))
theorem toNode_ev (x : S141) (h : allN x ≤ 1048576) : Ev (fun k => laws_toNode.f k x.f0 x.f1 x.f2 x.f3 x.f4.f0 x.f4.f1 x.f5.f0 x.f5.f1 x.f6 x.f7) (x.f0, x.f1, x.f2, x.f3, x.f4.f0.map cvO, x.f4.f1.map cvO, x.f5.f0.map cvO, x.f5.f1.map cvO, x.f6.map cvO, x.f7) := by
  unfold allN at h
  have g1 : FewO x.f4.f0 := by unfold FewO; omega
  have g2 : FewO x.f4.f1 := by unfold FewO; omega
  have g3 : FewO x.f5.f0 := by unfold FewO; omega
  have g4 : FewO x.f5.f1 := by unfold FewO; omega
  have g5 : FewO x.f6 := by unfold FewO; omega
  unfold laws_toNode.f
  exact Ev.bind (toIntS_ev x.f3 (by omega)) (Ev.bind (to2 g1 g2) (Ev.bind (to2 g3 g4) (Ev.bindS (toOccS_ev _ g5) rfl)))
theorem eqNode_ev (x : S141) (h : allN x ≤ 1048576) : Ev (fun k => laws_eqNode.f k (cvN x).f0 (cvN x).f1 (cvN x).f2 (cvN x).f3 (cvN x).f4.f0 (cvN x).f4.f1 (cvN x).f5.f0 (cvN x).f5.f1 (cvN x).f6 (cvN x).f7 (cvN x).f0 (cvN x).f1 (cvN x).f2 (cvN x).f3 (cvN x).f4.f0 (cvN x).f4.f1 (cvN x).f5.f0 (cvN x).f5.f1 (cvN x).f6 (cvN x).f7) true := by
  unfold allN at h
  have g1 : FewO x.f4.f0 := by unfold FewO; omega
  have g2 : FewO x.f4.f1 := by unfold FewO; omega
  have g3 : FewO x.f5.f0 := by unfold FewO; omega
  have g4 : FewO x.f5.f1 := by unfold FewO; omega
  have g5 : FewO x.f6 := by unfold FewO; omega
  have k5 := few_cv g5
  unfold laws_eqNode.f
  exact Ev.pos rfl (Ev.pos rfl (Ev.pos rfl (Ev.bind (eqIntS_ev x.f3 (by omega)) (Ev.pos rfl (Ev.bind (eq2 g1 g2) (Ev.pos rfl (Ev.bind (eq2 g3 g4) (Ev.pos rfl (Ev.bind (eqOccS_ev (x.f6.map cvO) (by omega) (short_map _ g5)) (Ev.pos rfl (Ev.pos rfl (Ev.now _))))))))))))

theorem szNodeS_ev (l : List S141) (hl : l.length ≤ maxLen) (hg : ∀ x ∈ l, good141 x) (a : Int) (h0 : 0 ≤ a) (h1 : a ≤ 1048576) : Ev (fun k => laws_szNodeS.f k l a) (leftOf a (allW allN l)) := by
  unfold laws_szNodeS.f
  exact gen_szS z141 allN (fun k x a => laws_szNode.f k x.f0 x.f1 x.f2 x.f3 x.f4.f0 x.f4.f1 x.f5.f0 x.f5.f1 x.f6 x.f7 a) laws_szNodeS.l0 (fun _ _ _ _ => rfl) l (maxLen_le hl) (fun x hx a h0 h1 => szNode_ev x (hg x hx) a h0 h1) a h0 h1
theorem toNodeS_ev (l : List S141) (h : allW allN l ≤ 1048576) : Ev (fun k => laws_toNodeS.f k l) (l.map cvN) := by
  have hl := allW_len (w := allN) (l := l)
  unfold laws_toNodeS.f
  exact gen_toS z141 z104 _ (by omega) cvN (fun x => (x.f0, x.f1, x.f2, x.f3, x.f4.f0.map cvO, x.f4.f1.map cvO, x.f5.f0.map cvO, x.f5.f1.map cvO, x.f6.map cvO, x.f7))
    (fun t => (⟨t.1, t.2.1, t.2.2.1, t.2.2.2.1, ⟨t.2.2.2.2.1, t.2.2.2.2.2.1⟩, ⟨t.2.2.2.2.2.2.1, t.2.2.2.2.2.2.2.1⟩, t.2.2.2.2.2.2.2.2.1, t.2.2.2.2.2.2.2.2.2⟩ : S104))
    (fun _ => rfl) (fun k x => laws_toNode.f k x.f0 x.f1 x.f2 x.f3 x.f4.f0 x.f4.f1 x.f5.f0 x.f5.f1 x.f6 x.f7) laws_toNodeS.l0 (fun _ _ _ _ => rfl) l (by omega) (fun x hx => toNode_ev x (by have := allW_mem (w := allN) hx; omega))
theorem eqNodeS_ev (l : List S141) (h : allW allN l ≤ 1048576) : Ev (fun k => laws_eqNodeS.f k (l.map cvN) (l.map cvN)) true := by
  have hl := allW_len (w := allN) (l := l)
  unfold laws_eqNodeS.f
  refine gen_eqS z104 (fun k x y => laws_eqNode.f k x.f0 x.f1 x.f2 x.f3 x.f4.f0 x.f4.f1 x.f5.f0 x.f5.f1 x.f6 x.f7 y.f0 y.f1 y.f2 y.f3 y.f4.f0 y.f4.f1 y.f5.f0 y.f5.f1 y.f6 y.f7) laws_eqNodeS.l0 (fun _ _ _ _ => rfl) (l.map cvN) (by rw [List.length_map]; omega) (fun y hy => ?_)
  obtain ⟨x, hx, rfl⟩ := List.mem_map.1 hy
  exact eqNode_ev x (by have := allW_mem (w := allN) hx; omega)
end Go.Proofs.Ytdljhokealbnnaa.M
namespace Go.Proofs.Ytdljhokealbnnaa.M
set_option linter.unusedVariables false
set_option linter.unusedSimpArgs false
open Go.RowKit Go.Proofs.YtdljhokealbnnaaW.PrintWords Go.Proofs.YtdljhokealbnnaaW.PrintLast

structure SmallN (a : S104) : Prop where
  h3 : a.f3.length ≤ 1048576
  p0 : a.f4.f0.length ≤ 1048576 ∧ Short a.f4.f0
  p1 : a.f4.f1.length ≤ 1048576 ∧ Short a.f4.f1
  q0 : a.f5.f0.length ≤ 1048576 ∧ Short a.f5.f0
  q1 : a.f5.f1.length ≤ 1048576 ∧ Short a.f5.f1
  d : a.f6.length ≤ 1048576 ∧ Short a.f6
theorem smallN_cv (x : S141) (h : allN x ≤ 1048576) : SmallN (cvN x) := by
  unfold allN at h
  have g1 : FewO x.f4.f0 := by unfold FewO; omega
  have g2 : FewO x.f4.f1 := by unfold FewO; omega
  have g3 : FewO x.f5.f0 := by unfold FewO; omega
  have g4 : FewO x.f5.f1 := by unfold FewO; omega
  have g5 : FewO x.f6 := by unfold FewO; omega
  exact ⟨show x.f3.length ≤ 1048576 by omega, ⟨few_cv g1, short_map _ g1⟩, ⟨few_cv g2, short_map _ g2⟩, ⟨few_cv g3, short_map _ g3⟩, ⟨few_cv g4, short_map _ g4⟩, ⟨few_cv g5, short_map _ g5⟩⟩
def nodeEq (a b : S104) : Bool := decide (a.f0 = b.f0) && (decide (a.f1 = b.f1) && (decide (a.f2 = b.f2) && (decide (a.f3 = b.f3) && ((occsEq a.f4.f0 b.f4.f0 && occsEq a.f4.f1 b.f4.f1) && ((occsEq a.f5.f0 b.f5.f0 && occsEq a.f5.f1 b.f5.f1) && (occsEq a.f6 b.f6 && decide (a.f7 = b.f7)))))))
theorem drop_eq {l m : List Int} {n : Nat} (h1 : n < l.length) (h2 : n < m.length) : (l.drop n = m.drop n) ↔ (l.getD n 0 = m.getD n 0 ∧ l.drop (n + 1) = m.drop (n + 1)) := by
  rw [drop_at l 0 n h1, drop_at m 0 n h2]
  simp
theorem equal_l0_ev (l m : List Int) (hl : l.length ≤ 1048576) (hm : l.length = m.length) : ∀ d n : Nat, n + d = l.length → Ev (fun k => slices_Equal_int_int.l0 k l m (l.length : Int) (n : Int)) (decide (l.drop n = m.drop n)) := by
  intro d
  induction d with
  | zero =>
    intro n hn
    rw [List.drop_of_length_le (by omega), List.drop_of_length_le (by omega)]
    exact Ev.last (fun k => by simp only [slices_Equal_int_int.l0]; rw [if_neg (by omega)]; rfl)
  | succ d ih =>
    intro n hn
    refine Ev.step (fun k => by simp only [slices_Equal_int_int.l0]; rw [if_pos (by omega), if_pos (by omega), if_pos (by omega), if_pos (by omega), rd_nat, rd_nat, w_succ (by omega)]) ?_
    have e := drop_eq (show n < l.length by omega) (show n < m.length by omega)
    by_cases h : l.getD n 0 = m.getD n 0
    · refine Ev.pos h (Ev.val (ih (n + 1) (by omega)) ?_)
      rw [decide_eq_decide, e]
      simp only [h, true_and, false_and, not_false_eq_true]
    · refine Ev.neg h (Ev.val (Ev.now _) ?_)
      symm
      rw [decide_eq_false_iff_not, e]
      simp only [h, true_and, false_and, not_false_eq_true]
theorem equal_ev (l m : List Int) (hl : l.length ≤ 1048576) : Ev (fun k => slices_Equal_int_int.f k l m) (decide (l = m)) := by
  unfold slices_Equal_int_int.f
  by_cases h : l.length = m.length
  · exact Ev.pos (by omega) (equal_l0_ev l m hl h l.length 0 (by omega))
  · refine Ev.neg (by omega) (Ev.val (Ev.now _) ?_)
    symm
    rw [decide_eq_false_iff_not]
    exact fun e => h (by rw [e])
theorem l7Same_l0_ev (a b : S104) (hl : a.f3.length ≤ 1048576) (hm : a.f3.length = b.f3.length) : ∀ d n : Nat, n + d = a.f3.length → Ev (fun k => spec_l7Same.l0 k (n : Int) a.f0 a.f1 a.f2 a.f3 a.f4.f0 a.f4.f1 a.f5.f0 a.f5.f1 a.f6 a.f7 b.f0 b.f1 b.f2 b.f3 b.f4.f0 b.f4.f1 b.f5.f0 b.f5.f1 b.f6 b.f7) (decide (a.f3.drop n = b.f3.drop n)) := by
  intro d
  induction d with
  | zero =>
    intro n hn
    rw [List.drop_of_length_le (by omega), List.drop_of_length_le (by omega)]
    exact Ev.last (fun k => by simp only [spec_l7Same.l0]; rw [if_neg (by omega)]; rfl)
  | succ d ih =>
    intro n hn
    refine Ev.step (fun k => by simp only [spec_l7Same.l0]; rw [if_pos (by omega), if_pos (by omega), if_pos (by omega), rd_nat, rd_nat, w_succ (by omega)]) ?_
    have e := drop_eq (show n < a.f3.length by omega) (show n < b.f3.length by omega)
    by_cases h : a.f3.getD n 0 = b.f3.getD n 0
    · refine Ev.pos h (Ev.val (ih (n + 1) (by omega)) ?_)
      rw [decide_eq_decide, e]
      simp only [h, true_and, false_and, not_false_eq_true]
    · refine Ev.neg h (Ev.val (Ev.now _) ?_)
      symm
      rw [decide_eq_false_iff_not, e]
      simp only [h, true_and, false_and, not_false_eq_true]
theorem implPair_ev {p q r s : List S106} (hp : p.length ≤ 1048576 ∧ Short p) (hq : q.length ≤ 1048576 ∧ Short q) (hr : Short r) (hs : Short s) : Ev (fun k => impl_PairSame.f k p q r s) (occsEq p r && occsEq q s) ∧ Ev (fun k => impl_SpanSame.f k p q r s) (occsEq p r && occsEq q s) ∧ Ev (fun k => spec_PairSame.f k p q r s) (occsEq p r && occsEq q s) ∧ Ev (fun k => spec_SpanSame.f k p q r s) (occsEq p r && occsEq q s) := by
  have i := and2 (impl_OccsSame_ev p r (by omega) hp.2 hr) (impl_OccsSame_ev q s (by omega) hq.2 hs)
  have j := and2 (spec_OccsSame_ev p r (by omega) hp.2 hr) (spec_OccsSame_ev q s (by omega) hq.2 hs)
  exact ⟨i, i, j, j⟩
theorem impl_node_ev (a b : S104) (ha : SmallN a) (hb : SmallN b) : Ev (fun k => impl_GraphSame_1.f k a.f0 a.f1 a.f2 a.f3 a.f4.f0 a.f4.f1 a.f5.f0 a.f5.f1 a.f6 a.f7 b.f0 b.f1 b.f2 b.f3 b.f4.f0 b.f4.f1 b.f5.f0 b.f5.f1 b.f6 b.f7) (nodeEq a b) := by
  have e4 := (implPair_ev ha.p0 ha.p1 hb.p0.2 hb.p1.2).1
  have e5 := (implPair_ev ha.q0 ha.q1 hb.q0.2 hb.q1.2).2.1
  have e6 := impl_OccsSame_ev a.f6 b.f6 (by have := ha.d.1; omega) ha.d.2 hb.d.2
  have e3 := equal_ev a.f3 b.f3 ha.h3
  unfold impl_GraphSame_1.f nodeEq
  generalize (occsEq a.f4.f0 b.f4.f0 && occsEq a.f4.f1 b.f4.f1) = v4 at *
  generalize (occsEq a.f5.f0 b.f5.f0 && occsEq a.f5.f1 b.f5.f1) = v5 at *
  generalize occsEq a.f6 b.f6 = v6 at *
  by_cases h0 : a.f0 = b.f0
  case neg => exact Ev.neg h0 (Ev.val (Ev.now _) (by simp [h0]))
  refine Ev.pos h0 ?_
  by_cases h1 : a.f1 = b.f1
  case neg => exact Ev.neg h1 (Ev.val (Ev.now _) (by simp [h1]))
  refine Ev.pos h1 ?_
  by_cases h2 : a.f2 = b.f2
  case neg => exact Ev.neg h2 (Ev.val (Ev.now _) (by simp [h2]))
  refine Ev.pos h2 (Ev.bind e3 ?_)
  by_cases h3 : a.f3 = b.f3
  case neg => exact Ev.neg (by simp [h3]) (Ev.val (Ev.now _) (by simp [h3]))
  refine Ev.pos (by simp [h3]) (Ev.bind e4 ?_)
  cases v4 with
  | false => exact Ev.neg (by decide) (Ev.val (Ev.now _) (by simp))
  | true =>
    refine Ev.pos rfl (Ev.bind e5 ?_)
    cases v5 with
    | false => exact Ev.neg (by decide) (Ev.val (Ev.now _) (by simp))
    | true =>
      refine Ev.pos rfl (Ev.bind e6 ?_)
      cases v6 with
      | false => exact Ev.neg (by decide) (Ev.val (Ev.now _) (by simp))
      | true =>
        refine Ev.pos rfl (Ev.val (Ev.now _) ?_)
        simp [h0, h1, h2, h3]
        by_cases h7 : a.f7 = b.f7 <;> simp [h7]
theorem spec_node_ev (a b : S104) (ha : SmallN a) (hb : SmallN b) : Ev (fun k => spec_l7Same.f k a.f0 a.f1 a.f2 a.f3 a.f4.f0 a.f4.f1 a.f5.f0 a.f5.f1 a.f6 a.f7 b.f0 b.f1 b.f2 b.f3 b.f4.f0 b.f4.f1 b.f5.f0 b.f5.f1 b.f6 b.f7) (nodeEq a b) := by
  have e4 := (implPair_ev ha.p0 ha.p1 hb.p0.2 hb.p1.2).2.2.1
  have e5 := (implPair_ev ha.q0 ha.q1 hb.q0.2 hb.q1.2).2.2.2
  have e6 := spec_OccsSame_ev a.f6 b.f6 (by have := ha.d.1; omega) ha.d.2 hb.d.2
  have bad : ∀ v : Bool, v = false → Ev (fun k => spec_l7Same.j0 k true a.f0 a.f1 a.f2 a.f3 a.f4.f0 a.f4.f1 a.f5.f0 a.f5.f1 a.f6 a.f7 b.f0 b.f1 b.f2 b.f3 b.f4.f0 b.f4.f1 b.f5.f0 b.f5.f1 b.f6 b.f7) v := fun v hv => Ev.last (fun k => by simp only [spec_l7Same.j0]; rw [if_pos trivial, hv])
  unfold spec_l7Same.f nodeEq
  generalize (occsEq a.f4.f0 b.f4.f0 && occsEq a.f4.f1 b.f4.f1) = v4 at *
  generalize (occsEq a.f5.f0 b.f5.f0 && occsEq a.f5.f1 b.f5.f1) = v5 at *
  generalize occsEq a.f6 b.f6 = v6 at *
  by_cases h0 : a.f0 = b.f0
  case neg => exact Ev.neg h0 (bad _ (by simp [h0]))
  refine Ev.pos h0 ?_
  by_cases h1 : a.f1 = b.f1
  case neg => exact Ev.neg h1 (bad _ (by simp [h1]))
  refine Ev.pos h1 ?_
  by_cases h2 : a.f2 = b.f2
  case neg => exact Ev.neg h2 (bad _ (by simp [h2]))
  refine Ev.pos h2 ?_
  by_cases h7 : a.f7 = b.f7
  case neg => exact Ev.neg h7 (bad _ (by simp [h7]))
  refine Ev.pos h7 ?_
  by_cases hl : a.f3.length = b.f3.length
  case neg => exact Ev.neg (by omega) (bad _ (by have : a.f3 ≠ b.f3 := fun e => hl (by rw [e])
                                                 simp [this]))
  refine Ev.pos (by omega) (Ev.bind e4 ?_)
  cases v4 with
  | false => exact Ev.neg (by decide) (bad _ (by simp))
  | true =>
    refine Ev.pos rfl (Ev.bind e5 ?_)
    cases v5 with
    | false => exact Ev.neg (by decide) (bad _ (by simp))
    | true =>
      refine Ev.pos rfl (Ev.bind e6 ?_)
      cases v6 with
      | false => exact bad _ (by simp)
      | true =>
        refine Ev.step (fun k => by simp only [spec_l7Same.j0]; rw [if_neg (by decide)]; rfl) (Ev.val (l7Same_l0_ev a b ha.h3 hl a.f3.length 0 (by omega)) ?_)
        simp [h0, h1, h2, h7]
end Go.Proofs.Ytdljhokealbnnaa.M
namespace Go.Proofs.Ytdljhokealbnnaa.M
set_option linter.unusedVariables false
set_option linter.unusedSimpArgs false
open Go.RowKit Go.Proofs.YtdljhokealbnnaaW.PrintWords Go.Proofs.YtdljhokealbnnaaW.PrintLast

theorem graph_l0_ev (p q : Int × Int × Int × Bool) (l m : List S104) (hl : l.length ≤ 1048576) (hm : l.length = m.length) (hs : ∀ x ∈ l, SmallN x) (ht : ∀ x ∈ m, SmallN x) : ∀ d n : Nat, n + d = l.length → ∃ v, Ev (fun k => spec_GraphSame.l0 k (n : Int) p.1 l p.2.1 p.2.2.1 p.2.2.2 q.1 m q.2.1 q.2.2.1 q.2.2.2) v ∧ Ev (fun k => impl_Node.l0 k m l (l.length : Int) (n : Int)) v := by
  intro d
  induction d with
  | zero =>
    intro n hn
    exact ⟨true, Ev.last (fun k => by simp only [spec_GraphSame.l0]; rw [if_neg (by omega)]), Ev.last (fun k => by simp only [impl_Node.l0]; rw [if_neg (by omega)])⟩
  | succ d ih =>
    intro n hn
    have hx : l.getD n z104 = l[n] := getD_in (by omega)
    have hy : m.getD n z104 = m[n] := getD_in (by omega)
    have rx : rd_T104 l (n : Int) = l[n] := hx
    have ry : rd_T104 m (n : Int) = m[n] := hy
    have h1 := spec_node_ev l[n] m[n] (hs _ (List.getElem_mem _)) (ht _ (List.getElem_mem _))
    have h2 := impl_node_ev l[n] m[n] (hs _ (List.getElem_mem _)) (ht _ (List.getElem_mem _))
    obtain ⟨v', h3, h4⟩ := ih (n + 1) (by omega)
    have sL : ∀ r, (nodeEq l[n] m[n] = true → r = v') → (nodeEq l[n] m[n] = false → r = false) → Ev (fun k => spec_GraphSame.l0 k (n : Int) p.1 l p.2.1 p.2.2.1 p.2.2.2 q.1 m q.2.1 q.2.2.1 q.2.2.2) r := by
      intro r r1 r2
      refine Ev.step (fun k => by simp only [spec_GraphSame.l0]; rw [if_pos (by omega), if_pos (by omega), if_pos (by omega), rx, ry, w_succ (by omega)]) (Ev.bind h1 ?_)
      cases hv : nodeEq l[n] m[n] with
      | true => exact Ev.pos rfl (Ev.val h3 (r1 hv).symm)
      | false => exact Ev.neg (by decide) (Ev.val (Ev.now _) (r2 hv).symm)
    have sM : ∀ r, (nodeEq l[n] m[n] = true → r = v') → (nodeEq l[n] m[n] = false → r = false) → Ev (fun k => impl_Node.l0 k m l (l.length : Int) (n : Int)) r := by
      intro r r1 r2
      refine Ev.step (fun k => by simp only [impl_Node.l0]; rw [if_pos (by omega), if_pos (by omega), if_pos (by omega), if_pos (by omega), rx, ry, w_succ (by omega)]) (Ev.bind h2 ?_)
      cases hv : nodeEq l[n] m[n] with
      | true => exact Ev.pos rfl (Ev.val h4 (r1 hv).symm)
      | false => exact Ev.neg (by decide) (Ev.val (Ev.now _) (r2 hv).symm)
    cases hv : nodeEq l[n] m[n] with
    | true => exact ⟨v', sL v' (fun _ => rfl) (fun h => by rw [hv] at h; cases h), sM v' (fun _ => rfl) (fun h => by rw [hv] at h; cases h)⟩
    | false => exact ⟨false, sL false (fun h => by rw [hv] at h; cases h) (fun _ => rfl), sM false (fun h => by rw [hv] at h; cases h) (fun _ => rfl)⟩
theorem sameGraph_ev (p q : Int × Int × Int × Bool) (l m : List S104) (hl : l.length ≤ 1048576) (hs : ∀ x ∈ l, SmallN x) (ht : ∀ x ∈ m, SmallN x) : ∃ v, Ev (fun k => spec_GraphSame.f k p.1 l p.2.1 p.2.2.1 p.2.2.2 q.1 m q.2.1 q.2.2.1 q.2.2.2) v ∧ Ev (fun k => impl_GraphSame.f k p.1 l p.2.1 p.2.2.1 p.2.2.2 q.1 m q.2.1 q.2.2.1 q.2.2.2) v := by
  have bad : Ev (fun k => spec_GraphSame.j0 k true p.1 l p.2.1 p.2.2.1 p.2.2.2 q.1 m q.2.1 q.2.2.1 q.2.2.2) false := Ev.last (fun k => by simp only [spec_GraphSame.j0]; rw [if_pos trivial])
  unfold spec_GraphSame.f impl_GraphSame.f
  by_cases h0 : p.1 = q.1
  case neg => exact ⟨false, Ev.neg h0 bad, Ev.neg h0 (Ev.now _)⟩
  by_cases h1 : p.2.1 = q.2.1
  case neg => exact ⟨false, Ev.pos h0 (Ev.neg h1 bad), Ev.pos h0 (Ev.neg h1 (Ev.now _))⟩
  by_cases h2 : p.2.2.1 = q.2.2.1
  case neg => exact ⟨false, Ev.pos h0 (Ev.pos h1 (Ev.neg h2 bad)), Ev.pos h0 (Ev.pos h1 (Ev.neg h2 (Ev.now _)))⟩
  by_cases h3 : p.2.2.2 = q.2.2.2
  case neg => exact ⟨false, Ev.pos h0 (Ev.pos h1 (Ev.pos h2 (Ev.pos (by simp [h3]) bad))), Ev.pos h0 (Ev.pos h1 (Ev.pos h2 (Ev.neg (by simp [h3]) (Ev.now _))))⟩
  have n3 : ¬ ((p.2.2.2 != q.2.2.2) = true) := by simp [h3]
  have y3 : (p.2.2.2 == q.2.2.2) = true := by simp [h3]
  by_cases hm : l.length = m.length
  · obtain ⟨v, hv, hw⟩ := graph_l0_ev p q l m hl hm hs ht l.length 0 (by omega)
    have hd : ((l.length : Int) != (m.length : Int)) = false := by rw [hm]; simp
    refine ⟨v, Ev.pos h0 (Ev.pos h1 (Ev.pos h2 (Ev.neg n3 ?_))), Ev.pos h0 (Ev.pos h1 (Ev.pos h2 (Ev.pos y3 (Ev.bindS ?_ rfl))))⟩
    · rw [hd]
      exact Ev.step (fun k => by simp only [spec_GraphSame.j0]; rw [if_neg (by decide)]; rfl) hv
    · exact Ev.pos (show (l.length : Int) = (m.length : Int) by omega) hw
  · have hd : ((l.length : Int) != (m.length : Int)) = true := by simp; omega
    refine ⟨false, Ev.pos h0 (Ev.pos h1 (Ev.pos h2 (Ev.neg n3 ?_))), Ev.pos h0 (Ev.pos h1 (Ev.pos h2 (Ev.pos y3 (Ev.bindS (a := false) ?_ rfl))))⟩
    · rw [hd]
      exact bad
    · exact Ev.neg (show ¬ ((l.length : Int) = (m.length : Int)) by omega) (Ev.now _)
theorem szGraph_ev (x : S71) (h : good71 x) (a : Int) (h0 : 0 ≤ a) (h1 : a ≤ 1048576) : Ev (fun k => laws_szGraph.f k x.f0 x.f1 x.f2 x.f3 x.f4 a) (leftOf a (allW allN x.f1)) := by
  unfold laws_szGraph.f
  exact left_last h0 (szNodeS_ev x.f1 h.2.1.1 h.2.1.2 a h0 h1)
theorem toGraph_ev (x : S71) (h : allW allN x.f1 ≤ 1048576) : Ev (fun k => laws_toGraph.f k x.f0 x.f1 x.f2 x.f3 x.f4) (x.f0, x.f1.map cvN, x.f2, x.f3, x.f4) := by
  unfold laws_toGraph.f
  exact Ev.bindS (toNodeS_ev x.f1 h) rfl
theorem eqGraph_ev (x : S71) (h : allW allN x.f1 ≤ 1048576) : Ev (fun k => laws_eqGraph.f k x.f0 (x.f1.map cvN) x.f2 x.f3 x.f4 x.f0 (x.f1.map cvN) x.f2 x.f3 x.f4) true := by
  unfold laws_eqGraph.f
  exact Ev.pos rfl (Ev.bind (eqNodeS_ev x.f1 h) (Ev.pos rfl (Ev.pos rfl (Ev.pos rfl (Ev.neg (by simp) (Ev.now _))))))
theorem smallNs (l : List S141) (h : allW allN l ≤ 1048576) : ∀ y ∈ l.map cvN, SmallN y := by
  intro y hy
  obtain ⟨x, hx, rfl⟩ := List.mem_map.1 hy
  exact smallN_cv x (by have := allW_mem (w := allN) hx; omega)
theorem FnExactGraphSame_pure (x : S71) (h : good71 x) (y : S71) (g : good71 y) : ∃ k, laws_FnExactGraphSame.f k x.f0 x.f1 x.f2 x.f3 x.f4 y.f0 y.f1 y.f2 y.f3 y.f4 = some true := by
  refine Ev.rounds (g := fun k => laws_FnExactGraphSame.f k x.f0 x.f1 x.f2 x.f3 x.f4 y.f0 y.f1 y.f2 y.f3 y.f4) ?_
  unfold laws_FnExactGraphSame.f
  refine Ev.bind (szGraph_ev x h 1048576 (by omega) (by omega)) ?_
  by_cases hs : ((allW allN x.f1 : Nat) : Int) ≤ 1048576
  · rw [leftOf_pos hs]
    refine Ev.neg (by omega) (Ev.bind (szGraph_ev y g _ (by omega) (by omega)) ?_)
    by_cases hs2 : ((allW allN y.f1 : Nat) : Int) ≤ 1048576 - allW allN x.f1
    · rw [leftOf_pos hs2]
      refine Ev.neg (by omega) ?_
      have tx := toGraph_ev x (by omega)
      have ty := toGraph_ev y (by omega)
      have hl := allW_len (w := allN) (l := x.f1)
      obtain ⟨v, hv, hw⟩ := sameGraph_ev (x.f0, x.f2, x.f3, x.f4) (y.f0, y.f2, y.f3, y.f4) (x.f1.map cvN) (y.f1.map cvN) (by rw [List.length_map]; omega) (smallNs x.f1 (by omega)) (smallNs y.f1 (by omega))
      refine Ev.bind tx (Ev.bind ty (Ev.bind hv (Ev.bind tx (Ev.bind ty (Ev.bind hw (Ev.neg (by simp) ?_))))))
      refine Ev.bind tx (Ev.bind (eqGraph_ev x (by omega)) (Ev.pos rfl ?_))
      exact Ev.bind ty (Ev.bindS (eqGraph_ev y (by omega)) rfl)
    · rw [leftOf_neg hs2]
      exact Ev.pos (by omega) (Ev.now _)
  · rw [leftOf_neg hs]
    exact Ev.pos (by omega) (Ev.now _)
end Go.Proofs.Ytdljhokealbnnaa.M
