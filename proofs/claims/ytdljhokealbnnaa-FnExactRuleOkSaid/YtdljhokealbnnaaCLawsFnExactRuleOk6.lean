/- What the claim's law leans on: the program's functions, what they compute, and the law over plain values; no condition is asked. (Part 6 of 6.) -/
import Derived.Test.YtdljhokealbnnaaCLawsFnExactRuleOk5
namespace Go.Proofs.Ytdljhokealbnnaa.M
open Go.RowKit Go.Proofs.YtdljhokealbnnaaW.PrintWords Go.Proofs.YtdljhokealbnnaaW.PrintLast Go.Proofs.YtdljhokealbnnaaW.PrintMore
attribute [local go_sem] max2_int min2_int max_two min_two max_three min_three max_four min_four
set_option linter.unusedVariables false
set_option linter.unusedSimpArgs false

def impl_RulesSame_1.f (k : Nat) (a0_0 : ByteArray) (a0_1 : Int) (a0_2 : Int) (a0_3 : Int) (a0_4 : Int) (a0_5 : Int) (l0_6 : List (S37)) (a0_7 : Int) (a0_8 : Int) (a0_9 : Int) (a0_10 : Int) (a0_11 : Int) (a1_0 : ByteArray) (a1_1 : Int) (a1_2 : Int) (a1_3 : Int) (a1_4 : Int) (a1_5 : Int) (l1_6 : List (S37)) (a1_7 : Int) (a1_8 : Int) (a1_9 : Int) (a1_10 : Int) (a1_11 : Int) : Option (Bool) := if a0_0.toList = a1_0.toList then (if a0_1 = a1_1 then (if a0_2 = a1_2 then ((impl_ExSame.f k a0_3 a0_4 a0_5 l0_6 a1_3 a1_4 a1_5 l1_6).bind fun t103 => (if t103 = true then (if a0_7 = a1_7 then (if a0_8 = a1_8 then (if a0_9 = a1_9 then (if a0_10 = a1_10 then (some (a0_11 == a1_11)) else (some false)) else (some false)) else (some false)) else (some false)) else (some false))) else (some false)) else (some false)) else (some false)
theorem impl_RulesSame_1.mono : ∀ a0 a1 a2 a3 a4 a5 a6 a7 a8 a9 a10 a11 a12 a13 a14 a15 a16 a17 a18 a19 a20 a21 a22 a23 k, LeO (impl_RulesSame_1.f k a0 a1 a2 a3 a4 a5 a6 a7 a8 a9 a10 a11 a12 a13 a14 a15 a16 a17 a18 a19 a20 a21 a22 a23) (impl_RulesSame_1.f (k + 1) a0 a1 a2 a3 a4 a5 a6 a7 a8 a9 a10 a11 a12 a13 a14 a15 a16 a17 a18 a19 a20 a21 a22 a23) := by
 intro a0 a1 a2 a3 a4 a5 a6 a7 a8 a9 a10 a11 a12 a13 a14 a15 a16 a17 a18 a19 a20 a21 a22 a23 k
 unfold impl_RulesSame_1.f
 repeat' first
   | (with_reducible exact impl_ExSame.mono _ _ _ _ _ _ _ _ _)
   | (with_reducible exact LeO.refl _)
   | (with_reducible exact LeO.none _)
   | (with_reducible refine LeO.ite ?_ ?_)
   | (with_reducible refine LeO.bind ?_ (fun _ => ?_))
   | exact impl_ExSame.mono _ _ _ _ _ _ _ _ _
   | exact LeO.none _
   | refine LeO.ite ?_ ?_
   | refine LeO.bind ?_ (fun _ => ?_)
set_option maxHeartbeats 8000000 in
set_option maxRecDepth 100000 in
theorem impl_RulesSame_1.calls (k : Nat) (a0_0 : ByteArray) (a0_1 : Int) (a0_2 : Int) (a0_3 : Int) (a0_4 : Int) (a0_5 : Int) (A0_6 : Option Addr) (c0_6 : Nat) (l0_6 : List (S37)) (a0_7 : Int) (a0_8 : Int) (a0_9 : Int) (a0_10 : Int) (a0_11 : Int) (a1_0 : ByteArray) (a1_1 : Int) (a1_2 : Int) (a1_3 : Int) (a1_4 : Int) (a1_5 : Int) (A1_6 : Option Addr) (c1_6 : Nat) (l1_6 : List (S37)) (a1_7 : Int) (a1_8 : Int) (a1_9 : Int) (a1_10 : Int) (a1_11 : Int) (r : Bool) (w : World) (hr0_6 : Kd.C k37 w A0_6 l0_6.length l0_6) (hc0_6 : l0_6.length ≤ c0_6) (hr1_6 : Kd.C k37 w A1_6 l1_6.length l1_6) (hc1_6 : l1_6.length ≤ c1_6) (h : impl_RulesSame_1.f k a0_0 a0_1 a0_2 a0_3 a0_4 a0_5 l0_6 a0_7 a0_8 a0_9 a0_10 a0_11 a1_0 a1_1 a1_2 a1_3 a1_4 a1_5 l1_6 a1_7 a1_8 a1_9 a1_10 a1_11 = some r) :
  Calls Try.prog 52 #[.agg #[.string a0_0, .int .i64 a0_1, .int .i64 a0_2, .int .i64 a0_3, .int .i64 a0_4, .int .i64 a0_5, .slice A0_6 l0_6.length c0_6, .int .i64 a0_7, .int .i64 a0_8, .int .i64 a0_9, .int .i64 a0_10, .int .i64 a0_11], .agg #[.string a1_0, .int .i64 a1_1, .int .i64 a1_2, .int .i64 a1_3, .int .i64 a1_4, .int .i64 a1_5, .slice A1_6 l1_6.length c1_6, .int .i64 a1_7, .int .i64 a1_8, .int .i64 a1_9, .int .i64 a1_10, .int .i64 a1_11]] w fun e w' => e = .returned (.bool r) ∧ Below w.heap.size w w' := by
 have hu39 := Try.underlying39
 have hu37 := Try.underlying37
 have HR0_6 := Aside0.mk hr0_6
 have HC0_6 := Aside0.mk hc0_6
 clear hr0_6 hc0_6
 have HR1_6 := Aside0.mk hr1_6
 have HC1_6 := Aside0.mk hc1_6
 clear hr1_6 hc1_6
 have HB := Aside0.mk (Below.refl w.heap.size w)
 have H : (if a0_0.toList = a1_0.toList then (if a0_1 = a1_1 then (if a0_2 = a1_2 then ((impl_ExSame.f k a0_3 a0_4 a0_5 l0_6 a1_3 a1_4 a1_5 l1_6).bind fun t103 => (if t103 = true then (if a0_7 = a1_7 then (if a0_8 = a1_8 then (if a0_9 = a1_9 then (if a0_10 = a1_10 then (some (a0_11 == a1_11)) else (some false)) else (some false)) else (some false)) else (some false)) else (some false))) else (some false)) else (some false)) else (some false)) = some r := h
 clear h
 by_cases c3 : a0_0.toList = a1_0.toList
 ·rw [if_pos c3] at H
  have c3b0 : (a0_0.toList == a1_0.toList) = true := beq_iff_eq.mpr c3
  have c3b1 : (a0_0.toList != a1_0.toList) = false := bne_eq_false_iff_eq.mpr c3
  clear c3
  by_cases c4 : a0_1 = a1_1
  ·rw [if_pos c4] at H
   have c4b0 : (a0_1 == a1_1) = true := beq_iff_eq.mpr c4
   have c4b1 : (a0_1 != a1_1) = false := bne_eq_false_iff_eq.mpr c4
   clear c4
   by_cases c5 : a0_2 = a1_2
   ·rw [if_pos c5] at H
    have c5b0 : (a0_2 == a1_2) = true := beq_iff_eq.mpr c5
    have c5b1 : (a0_2 != a1_2) = false := bne_eq_false_iff_eq.mpr c5
    clear c5
    replace H := Option.bind_eq_some_iff.mp H
    obtain ⟨t103, A60, H⟩ := H
    replace H : (if t103 = true then (if a0_7 = a1_7 then (if a0_8 = a1_8 then (if a0_9 = a1_9 then (if a0_10 = a1_10 then (some (a0_11 == a1_11)) else (some false)) else (some false)) else (some false)) else (some false)) else (some false)) = some r := H
    have A6 := Aside0.mk A60
    clear A60
    by_cases c7 : t103 = true
    ·subst c7
     have H1 : (if a0_7 = a1_7 then (if a0_8 = a1_8 then (if a0_9 = a1_9 then (if a0_10 = a1_10 then (some (a0_11 == a1_11)) else (some false)) else (some false)) else (some false)) else (some false)) = some r := by rw [if_pos rfl] at H;exact H
     clear H
     have H := H1
     clear H1
     by_cases c8 : a0_7 = a1_7
     ·rw [if_pos c8] at H
      have c8b0 : (a0_7 == a1_7) = true := beq_iff_eq.mpr c8
      have c8b1 : (a0_7 != a1_7) = false := bne_eq_false_iff_eq.mpr c8
      clear c8
      by_cases c9 : a0_8 = a1_8
      ·rw [if_pos c9] at H
       have c9b0 : (a0_8 == a1_8) = true := beq_iff_eq.mpr c9
       have c9b1 : (a0_8 != a1_8) = false := bne_eq_false_iff_eq.mpr c9
       clear c9
       by_cases c10 : a0_9 = a1_9
       ·rw [if_pos c10] at H
        have c10b0 : (a0_9 == a1_9) = true := beq_iff_eq.mpr c10
        have c10b1 : (a0_9 != a1_9) = false := bne_eq_false_iff_eq.mpr c10
        clear c10
        by_cases c11 : a0_10 = a1_10
        ·rw [if_pos c11] at H
         have c11b0 : (a0_10 == a1_10) = true := beq_iff_eq.mpr c11
         have c11b1 : (a0_10 != a1_10) = false := bne_eq_false_iff_eq.mpr c11
         clear c11
         obtain rfl := Option.some.inj H
         go_enter Try.func52, Try.ntmps52
         go_wp2_with (first | ((with_reducible refine gate_dst (N := 2) rfl ?_);refine box_event ?hg (N := 2) ?hd (cs := #[.string a0_0, .int .i64 a0_1, .int .i64 a0_2, .int .i64 a0_3, .int .i64 a0_4, .int .i64 a0_5, .slice A0_6 l0_6.length c0_6, .int .i64 a0_7, .int .i64 a0_8, .int .i64 a0_9, .int .i64 a0_10, .int .i64 a0_11]) (t := 39) ?hr ?_;(case hd => rfl);(case hg => rfl);(case hr => first | (go_simp;done) | (go_simp;rfl));intro gb101 hg w12 hbox hb;have n0_ := Aside0.mk (below_step (by exact HB.out) hb);have n1_ := Aside0.mk (hbox);have n2_ := Aside0.mk ((by rw [hg];exact (below_size (by exact HB.out)) : w.heap.size ≤ gb101));have n3_ := Aside0.mk ((by rw [hg];exact (below_size (by exact HB.out)) : w.heap.size ≤ gb101));clear HB;have HB := n0_;have BK101 := n1_;have GW101 := n2_;have GE101 := n3_;clear n0_ n1_ n2_ n3_;clear hb hbox hg) | ((with_reducible refine gate_dst (N := 3) rfl ?_);refine box_event ?hg (N := 3) ?hd (cs := #[.string a1_0, .int .i64 a1_1, .int .i64 a1_2, .int .i64 a1_3, .int .i64 a1_4, .int .i64 a1_5, .slice A1_6 l1_6.length c1_6, .int .i64 a1_7, .int .i64 a1_8, .int .i64 a1_9, .int .i64 a1_10, .int .i64 a1_11]) (t := 39) ?hr ?_;(case hd => rfl);(case hg => rfl);(case hr => first | (go_simp;done) | (go_simp;rfl));intro gb102 hg w13 hbox hb;have n0_ := Aside0.mk (blk_below BK101.out hb);have n1_ := Aside0.mk (below_step (by exact HB.out) hb);have n2_ := Aside0.mk (hbox);have n3_ := Aside0.mk ((by rw [hg];exact (below_size (by exact HB.out)) : w.heap.size ≤ gb102));have n4_ := Aside0.mk ((by rw [hg];exact (below_size (by exact HB.out)) : w.heap.size ≤ gb102));have n5_ := Aside0.mk ((by rw [hg];exact Nat.ne_of_lt (blk_lt BK101.out) : gb101 ≠ gb102));have n6_ := Aside0.mk ((by rw [hg];exact Nat.ne_of_gt (blk_lt BK101.out) : gb102 ≠ gb101));clear BK101;clear HB;have BK101 := n0_;have HB := n1_;have BK102 := n2_;have GW102 := n3_;have GE102 := n4_;have NB101_102 := n5_;have NB102_101 := n6_;clear n0_ n1_ n2_ n3_ n4_ n5_ n6_;clear hb hbox hg;have hnb14 := NB101_102.out;have hnc14 := NB102_101.out;have hcz15_0 : w13.cell? ⟨gb101, 0, none⟩ = some (.string a0_0) := (blk_cell BK101.out 0).trans rfl;have hcz15_1 : w13.cell? ⟨gb101, 1, none⟩ = some (.int .i64 a0_1) := (blk_cell BK101.out 1).trans rfl;have hcz15_2 : w13.cell? ⟨gb101, 2, none⟩ = some (.int .i64 a0_2) := (blk_cell BK101.out 2).trans rfl;have hcz15_3 : w13.cell? ⟨gb101, 3, none⟩ = some (.int .i64 a0_3) := (blk_cell BK101.out 3).trans rfl;have hcz15_4 : w13.cell? ⟨gb101, 4, none⟩ = some (.int .i64 a0_4) := (blk_cell BK101.out 4).trans rfl;have hcz15_5 : w13.cell? ⟨gb101, 5, none⟩ = some (.int .i64 a0_5) := (blk_cell BK101.out 5).trans rfl;have hcz15_6 : w13.cell? ⟨gb101, 6, none⟩ = some (.slice A0_6 l0_6.length c0_6) := (blk_cell BK101.out 6).trans rfl;have hcz15_7 : w13.cell? ⟨gb101, 7, none⟩ = some (.int .i64 a0_7) := (blk_cell BK101.out 7).trans rfl;have hcz15_8 : w13.cell? ⟨gb101, 8, none⟩ = some (.int .i64 a0_8) := (blk_cell BK101.out 8).trans rfl;have hcz15_9 : w13.cell? ⟨gb101, 9, none⟩ = some (.int .i64 a0_9) := (blk_cell BK101.out 9).trans rfl;have hcz15_10 : w13.cell? ⟨gb101, 10, none⟩ = some (.int .i64 a0_10) := (blk_cell BK101.out 10).trans rfl;have hcz15_11 : w13.cell? ⟨gb101, 11, none⟩ = some (.int .i64 a0_11) := (blk_cell BK101.out 11).trans rfl;have hfz15_0 := blk_frozen BK101.out 0;have hfz15_1 := blk_frozen BK101.out 1;have hfz15_2 := blk_frozen BK101.out 2;have hfz15_3 := blk_frozen BK101.out 3;have hfz15_4 := blk_frozen BK101.out 4;have hfz15_5 := blk_frozen BK101.out 5;have hfz15_6 := blk_frozen BK101.out 6;have hfz15_7 := blk_frozen BK101.out 7;have hfz15_8 := blk_frozen BK101.out 8;have hfz15_9 := blk_frozen BK101.out 9;have hfz15_10 := blk_frozen BK101.out 10;have hfz15_11 := blk_frozen BK101.out 11;have hcz16_0 : w13.cell? ⟨gb102, 0, none⟩ = some (.string a1_0) := (blk_cell BK102.out 0).trans rfl;have hcz16_1 : w13.cell? ⟨gb102, 1, none⟩ = some (.int .i64 a1_1) := (blk_cell BK102.out 1).trans rfl;have hcz16_2 : w13.cell? ⟨gb102, 2, none⟩ = some (.int .i64 a1_2) := (blk_cell BK102.out 2).trans rfl;have hcz16_3 : w13.cell? ⟨gb102, 3, none⟩ = some (.int .i64 a1_3) := (blk_cell BK102.out 3).trans rfl;have hcz16_4 : w13.cell? ⟨gb102, 4, none⟩ = some (.int .i64 a1_4) := (blk_cell BK102.out 4).trans rfl;have hcz16_5 : w13.cell? ⟨gb102, 5, none⟩ = some (.int .i64 a1_5) := (blk_cell BK102.out 5).trans rfl;have hcz16_6 : w13.cell? ⟨gb102, 6, none⟩ = some (.slice A1_6 l1_6.length c1_6) := (blk_cell BK102.out 6).trans rfl;have hcz16_7 : w13.cell? ⟨gb102, 7, none⟩ = some (.int .i64 a1_7) := (blk_cell BK102.out 7).trans rfl;have hcz16_8 : w13.cell? ⟨gb102, 8, none⟩ = some (.int .i64 a1_8) := (blk_cell BK102.out 8).trans rfl;have hcz16_9 : w13.cell? ⟨gb102, 9, none⟩ = some (.int .i64 a1_9) := (blk_cell BK102.out 9).trans rfl;have hcz16_10 : w13.cell? ⟨gb102, 10, none⟩ = some (.int .i64 a1_10) := (blk_cell BK102.out 10).trans rfl;have hcz16_11 : w13.cell? ⟨gb102, 11, none⟩ = some (.int .i64 a1_11) := (blk_cell BK102.out 11).trans rfl;have hfz16_0 := blk_frozen BK102.out 0;have hfz16_1 := blk_frozen BK102.out 1;have hfz16_2 := blk_frozen BK102.out 2;have hfz16_3 := blk_frozen BK102.out 3;have hfz16_4 := blk_frozen BK102.out 4;have hfz16_5 := blk_frozen BK102.out 5;have hfz16_6 := blk_frozen BK102.out 6;have hfz16_7 := blk_frozen BK102.out 7;have hfz16_8 := blk_frozen BK102.out 8;have hfz16_9 := blk_frozen BK102.out 9;have hfz16_10 := blk_frozen BK102.out 10;have hfz16_11 := blk_frozen BK102.out 11) | (go_at_call 53;(with_reducible refine (impl_ExSame.calls k a0_3 a0_4 a0_5 _ _ l0_6 a1_3 a1_4 a1_5 _ _ l1_6 true _ ?side1 ?side2 ?side3 ?side4 A6.out).mono ?_);(case side1 => repeat (first | exact (Kd.C_below HR0_6.out HB.out) | (with_reducible refine Kd.C_alloc ?_ _) | (with_reducible refine Kd.C_drewN ?_ _) | (with_reducible refine Kd.C_drew ?_)));(case side2 => exact HC0_6.out);(case side3 => repeat (first | exact (Kd.C_below HR1_6.out HB.out) | (with_reducible refine Kd.C_alloc ?_ _) | (with_reducible refine Kd.C_drewN ?_ _) | (with_reducible refine Kd.C_drew ?_)));(case side4 => exact HC1_6.out);rintro e w17 ⟨rfl, hb⟩;have n0_ := Aside0.mk (blk_below BK101.out hb);have n1_ := Aside0.mk (blk_below BK102.out hb);have n2_ := Aside0.mk (below_step (by exact HB.out) hb);clear BK101;clear BK102;clear HB;have BK101 := n0_;have BK102 := n1_;have HB := n2_;clear n0_ n1_ n2_;(try clear hb);(try clear hb2);(try clear hk);(try clear hi);have hcz18_0 : w17.cell? ⟨gb101, 0, none⟩ = some (.string a0_0) := (blk_cell BK101.out 0).trans rfl;have hcz18_1 : w17.cell? ⟨gb101, 1, none⟩ = some (.int .i64 a0_1) := (blk_cell BK101.out 1).trans rfl;have hcz18_2 : w17.cell? ⟨gb101, 2, none⟩ = some (.int .i64 a0_2) := (blk_cell BK101.out 2).trans rfl;have hcz18_3 : w17.cell? ⟨gb101, 3, none⟩ = some (.int .i64 a0_3) := (blk_cell BK101.out 3).trans rfl;have hcz18_4 : w17.cell? ⟨gb101, 4, none⟩ = some (.int .i64 a0_4) := (blk_cell BK101.out 4).trans rfl;have hcz18_5 : w17.cell? ⟨gb101, 5, none⟩ = some (.int .i64 a0_5) := (blk_cell BK101.out 5).trans rfl;have hcz18_6 : w17.cell? ⟨gb101, 6, none⟩ = some (.slice A0_6 l0_6.length c0_6) := (blk_cell BK101.out 6).trans rfl;have hcz18_7 : w17.cell? ⟨gb101, 7, none⟩ = some (.int .i64 a0_7) := (blk_cell BK101.out 7).trans rfl;have hcz18_8 : w17.cell? ⟨gb101, 8, none⟩ = some (.int .i64 a0_8) := (blk_cell BK101.out 8).trans rfl;have hcz18_9 : w17.cell? ⟨gb101, 9, none⟩ = some (.int .i64 a0_9) := (blk_cell BK101.out 9).trans rfl;have hcz18_10 : w17.cell? ⟨gb101, 10, none⟩ = some (.int .i64 a0_10) := (blk_cell BK101.out 10).trans rfl;have hcz18_11 : w17.cell? ⟨gb101, 11, none⟩ = some (.int .i64 a0_11) := (blk_cell BK101.out 11).trans rfl;have hfz18_0 := blk_frozen BK101.out 0;have hfz18_1 := blk_frozen BK101.out 1;have hfz18_2 := blk_frozen BK101.out 2;have hfz18_3 := blk_frozen BK101.out 3;have hfz18_4 := blk_frozen BK101.out 4;have hfz18_5 := blk_frozen BK101.out 5;have hfz18_6 := blk_frozen BK101.out 6;have hfz18_7 := blk_frozen BK101.out 7;have hfz18_8 := blk_frozen BK101.out 8;have hfz18_9 := blk_frozen BK101.out 9;have hfz18_10 := blk_frozen BK101.out 10;have hfz18_11 := blk_frozen BK101.out 11;have hcz19_0 : w17.cell? ⟨gb102, 0, none⟩ = some (.string a1_0) := (blk_cell BK102.out 0).trans rfl;have hcz19_1 : w17.cell? ⟨gb102, 1, none⟩ = some (.int .i64 a1_1) := (blk_cell BK102.out 1).trans rfl;have hcz19_2 : w17.cell? ⟨gb102, 2, none⟩ = some (.int .i64 a1_2) := (blk_cell BK102.out 2).trans rfl;have hcz19_3 : w17.cell? ⟨gb102, 3, none⟩ = some (.int .i64 a1_3) := (blk_cell BK102.out 3).trans rfl;have hcz19_4 : w17.cell? ⟨gb102, 4, none⟩ = some (.int .i64 a1_4) := (blk_cell BK102.out 4).trans rfl;have hcz19_5 : w17.cell? ⟨gb102, 5, none⟩ = some (.int .i64 a1_5) := (blk_cell BK102.out 5).trans rfl;have hcz19_6 : w17.cell? ⟨gb102, 6, none⟩ = some (.slice A1_6 l1_6.length c1_6) := (blk_cell BK102.out 6).trans rfl;have hcz19_7 : w17.cell? ⟨gb102, 7, none⟩ = some (.int .i64 a1_7) := (blk_cell BK102.out 7).trans rfl;have hcz19_8 : w17.cell? ⟨gb102, 8, none⟩ = some (.int .i64 a1_8) := (blk_cell BK102.out 8).trans rfl;have hcz19_9 : w17.cell? ⟨gb102, 9, none⟩ = some (.int .i64 a1_9) := (blk_cell BK102.out 9).trans rfl;have hcz19_10 : w17.cell? ⟨gb102, 10, none⟩ = some (.int .i64 a1_10) := (blk_cell BK102.out 10).trans rfl;have hcz19_11 : w17.cell? ⟨gb102, 11, none⟩ = some (.int .i64 a1_11) := (blk_cell BK102.out 11).trans rfl;have hfz19_0 := blk_frozen BK102.out 0;have hfz19_1 := blk_frozen BK102.out 1;have hfz19_2 := blk_frozen BK102.out 2;have hfz19_3 := blk_frozen BK102.out 3;have hfz19_4 := blk_frozen BK102.out 4;have hfz19_5 := blk_frozen BK102.out 5;have hfz19_6 := blk_frozen BK102.out 6;have hfz19_7 := blk_frozen BK102.out 7;have hfz19_8 := blk_frozen BK102.out 8;have hfz19_9 := blk_frozen BK102.out 9;have hfz19_10 := blk_frozen BK102.out 10;have hfz19_11 := blk_frozen BK102.out 11))
         go_ret
         exact ⟨by first | rfl | (simp [errW_none, errW_some] <;> rfl) | (simp [*, errW_none, errW_some] <;> rfl), by repeat (first | (with_reducible first | exact HB.out | apply below_alloc | apply pw_below_drewN | apply below_drew1 | refine below_set ?_ GE101.out | refine below_set ?_ GE102.out) | exact HB.out)⟩
        ·rw [if_neg c11] at H
         have c11b0 : (a0_10 == a1_10) = false := beq_eq_false_iff_ne.mpr c11
         have c11b1 : (a0_10 != a1_10) = true := bne_iff_ne.mpr c11
         obtain rfl := Option.some.inj H
         go_enter Try.func52, Try.ntmps52
         go_wp2_with (first | ((with_reducible refine gate_dst (N := 2) rfl ?_);refine box_event ?hg (N := 2) ?hd (cs := #[.string a0_0, .int .i64 a0_1, .int .i64 a0_2, .int .i64 a0_3, .int .i64 a0_4, .int .i64 a0_5, .slice A0_6 l0_6.length c0_6, .int .i64 a0_7, .int .i64 a0_8, .int .i64 a0_9, .int .i64 a0_10, .int .i64 a0_11]) (t := 39) ?hr ?_;(case hd => rfl);(case hg => rfl);(case hr => first | (go_simp;done) | (go_simp;rfl));intro gb101 hg w20 hbox hb;have n0_ := Aside0.mk (below_step (by exact HB.out) hb);have n1_ := Aside0.mk (hbox);have n2_ := Aside0.mk ((by rw [hg];exact (below_size (by exact HB.out)) : w.heap.size ≤ gb101));have n3_ := Aside0.mk ((by rw [hg];exact (below_size (by exact HB.out)) : w.heap.size ≤ gb101));clear HB;have HB := n0_;have BK101 := n1_;have GW101 := n2_;have GE101 := n3_;clear n0_ n1_ n2_ n3_;clear hb hbox hg) | ((with_reducible refine gate_dst (N := 3) rfl ?_);refine box_event ?hg (N := 3) ?hd (cs := #[.string a1_0, .int .i64 a1_1, .int .i64 a1_2, .int .i64 a1_3, .int .i64 a1_4, .int .i64 a1_5, .slice A1_6 l1_6.length c1_6, .int .i64 a1_7, .int .i64 a1_8, .int .i64 a1_9, .int .i64 a1_10, .int .i64 a1_11]) (t := 39) ?hr ?_;(case hd => rfl);(case hg => rfl);(case hr => first | (go_simp;done) | (go_simp;rfl));intro gb102 hg w21 hbox hb;have n0_ := Aside0.mk (blk_below BK101.out hb);have n1_ := Aside0.mk (below_step (by exact HB.out) hb);have n2_ := Aside0.mk (hbox);have n3_ := Aside0.mk ((by rw [hg];exact (below_size (by exact HB.out)) : w.heap.size ≤ gb102));have n4_ := Aside0.mk ((by rw [hg];exact (below_size (by exact HB.out)) : w.heap.size ≤ gb102));have n5_ := Aside0.mk ((by rw [hg];exact Nat.ne_of_lt (blk_lt BK101.out) : gb101 ≠ gb102));have n6_ := Aside0.mk ((by rw [hg];exact Nat.ne_of_gt (blk_lt BK101.out) : gb102 ≠ gb101));clear BK101;clear HB;have BK101 := n0_;have HB := n1_;have BK102 := n2_;have GW102 := n3_;have GE102 := n4_;have NB101_102 := n5_;have NB102_101 := n6_;clear n0_ n1_ n2_ n3_ n4_ n5_ n6_;clear hb hbox hg;have hnb22 := NB101_102.out;have hnc22 := NB102_101.out;have hcz23_0 : w21.cell? ⟨gb101, 0, none⟩ = some (.string a0_0) := (blk_cell BK101.out 0).trans rfl;have hcz23_1 : w21.cell? ⟨gb101, 1, none⟩ = some (.int .i64 a0_1) := (blk_cell BK101.out 1).trans rfl;have hcz23_2 : w21.cell? ⟨gb101, 2, none⟩ = some (.int .i64 a0_2) := (blk_cell BK101.out 2).trans rfl;have hcz23_3 : w21.cell? ⟨gb101, 3, none⟩ = some (.int .i64 a0_3) := (blk_cell BK101.out 3).trans rfl;have hcz23_4 : w21.cell? ⟨gb101, 4, none⟩ = some (.int .i64 a0_4) := (blk_cell BK101.out 4).trans rfl;have hcz23_5 : w21.cell? ⟨gb101, 5, none⟩ = some (.int .i64 a0_5) := (blk_cell BK101.out 5).trans rfl;have hcz23_6 : w21.cell? ⟨gb101, 6, none⟩ = some (.slice A0_6 l0_6.length c0_6) := (blk_cell BK101.out 6).trans rfl;have hcz23_7 : w21.cell? ⟨gb101, 7, none⟩ = some (.int .i64 a0_7) := (blk_cell BK101.out 7).trans rfl;have hcz23_8 : w21.cell? ⟨gb101, 8, none⟩ = some (.int .i64 a0_8) := (blk_cell BK101.out 8).trans rfl;have hcz23_9 : w21.cell? ⟨gb101, 9, none⟩ = some (.int .i64 a0_9) := (blk_cell BK101.out 9).trans rfl;have hcz23_10 : w21.cell? ⟨gb101, 10, none⟩ = some (.int .i64 a0_10) := (blk_cell BK101.out 10).trans rfl;have hcz23_11 : w21.cell? ⟨gb101, 11, none⟩ = some (.int .i64 a0_11) := (blk_cell BK101.out 11).trans rfl;have hfz23_0 := blk_frozen BK101.out 0;have hfz23_1 := blk_frozen BK101.out 1;have hfz23_2 := blk_frozen BK101.out 2;have hfz23_3 := blk_frozen BK101.out 3;have hfz23_4 := blk_frozen BK101.out 4;have hfz23_5 := blk_frozen BK101.out 5;have hfz23_6 := blk_frozen BK101.out 6;have hfz23_7 := blk_frozen BK101.out 7;have hfz23_8 := blk_frozen BK101.out 8;have hfz23_9 := blk_frozen BK101.out 9;have hfz23_10 := blk_frozen BK101.out 10;have hfz23_11 := blk_frozen BK101.out 11;have hcz24_0 : w21.cell? ⟨gb102, 0, none⟩ = some (.string a1_0) := (blk_cell BK102.out 0).trans rfl;have hcz24_1 : w21.cell? ⟨gb102, 1, none⟩ = some (.int .i64 a1_1) := (blk_cell BK102.out 1).trans rfl;have hcz24_2 : w21.cell? ⟨gb102, 2, none⟩ = some (.int .i64 a1_2) := (blk_cell BK102.out 2).trans rfl;have hcz24_3 : w21.cell? ⟨gb102, 3, none⟩ = some (.int .i64 a1_3) := (blk_cell BK102.out 3).trans rfl;have hcz24_4 : w21.cell? ⟨gb102, 4, none⟩ = some (.int .i64 a1_4) := (blk_cell BK102.out 4).trans rfl;have hcz24_5 : w21.cell? ⟨gb102, 5, none⟩ = some (.int .i64 a1_5) := (blk_cell BK102.out 5).trans rfl;have hcz24_6 : w21.cell? ⟨gb102, 6, none⟩ = some (.slice A1_6 l1_6.length c1_6) := (blk_cell BK102.out 6).trans rfl;have hcz24_7 : w21.cell? ⟨gb102, 7, none⟩ = some (.int .i64 a1_7) := (blk_cell BK102.out 7).trans rfl;have hcz24_8 : w21.cell? ⟨gb102, 8, none⟩ = some (.int .i64 a1_8) := (blk_cell BK102.out 8).trans rfl;have hcz24_9 : w21.cell? ⟨gb102, 9, none⟩ = some (.int .i64 a1_9) := (blk_cell BK102.out 9).trans rfl;have hcz24_10 : w21.cell? ⟨gb102, 10, none⟩ = some (.int .i64 a1_10) := (blk_cell BK102.out 10).trans rfl;have hcz24_11 : w21.cell? ⟨gb102, 11, none⟩ = some (.int .i64 a1_11) := (blk_cell BK102.out 11).trans rfl;have hfz24_0 := blk_frozen BK102.out 0;have hfz24_1 := blk_frozen BK102.out 1;have hfz24_2 := blk_frozen BK102.out 2;have hfz24_3 := blk_frozen BK102.out 3;have hfz24_4 := blk_frozen BK102.out 4;have hfz24_5 := blk_frozen BK102.out 5;have hfz24_6 := blk_frozen BK102.out 6;have hfz24_7 := blk_frozen BK102.out 7;have hfz24_8 := blk_frozen BK102.out 8;have hfz24_9 := blk_frozen BK102.out 9;have hfz24_10 := blk_frozen BK102.out 10;have hfz24_11 := blk_frozen BK102.out 11) | (go_at_call 53;(with_reducible refine (impl_ExSame.calls k a0_3 a0_4 a0_5 _ _ l0_6 a1_3 a1_4 a1_5 _ _ l1_6 true _ ?side1 ?side2 ?side3 ?side4 A6.out).mono ?_);(case side1 => repeat (first | exact (Kd.C_below HR0_6.out HB.out) | (with_reducible refine Kd.C_alloc ?_ _) | (with_reducible refine Kd.C_drewN ?_ _) | (with_reducible refine Kd.C_drew ?_)));(case side2 => exact HC0_6.out);(case side3 => repeat (first | exact (Kd.C_below HR1_6.out HB.out) | (with_reducible refine Kd.C_alloc ?_ _) | (with_reducible refine Kd.C_drewN ?_ _) | (with_reducible refine Kd.C_drew ?_)));(case side4 => exact HC1_6.out);rintro e w25 ⟨rfl, hb⟩;have n0_ := Aside0.mk (blk_below BK101.out hb);have n1_ := Aside0.mk (blk_below BK102.out hb);have n2_ := Aside0.mk (below_step (by exact HB.out) hb);clear BK101;clear BK102;clear HB;have BK101 := n0_;have BK102 := n1_;have HB := n2_;clear n0_ n1_ n2_;(try clear hb);(try clear hb2);(try clear hk);(try clear hi);have hcz26_0 : w25.cell? ⟨gb101, 0, none⟩ = some (.string a0_0) := (blk_cell BK101.out 0).trans rfl;have hcz26_1 : w25.cell? ⟨gb101, 1, none⟩ = some (.int .i64 a0_1) := (blk_cell BK101.out 1).trans rfl;have hcz26_2 : w25.cell? ⟨gb101, 2, none⟩ = some (.int .i64 a0_2) := (blk_cell BK101.out 2).trans rfl;have hcz26_3 : w25.cell? ⟨gb101, 3, none⟩ = some (.int .i64 a0_3) := (blk_cell BK101.out 3).trans rfl;have hcz26_4 : w25.cell? ⟨gb101, 4, none⟩ = some (.int .i64 a0_4) := (blk_cell BK101.out 4).trans rfl;have hcz26_5 : w25.cell? ⟨gb101, 5, none⟩ = some (.int .i64 a0_5) := (blk_cell BK101.out 5).trans rfl;have hcz26_6 : w25.cell? ⟨gb101, 6, none⟩ = some (.slice A0_6 l0_6.length c0_6) := (blk_cell BK101.out 6).trans rfl;have hcz26_7 : w25.cell? ⟨gb101, 7, none⟩ = some (.int .i64 a0_7) := (blk_cell BK101.out 7).trans rfl;have hcz26_8 : w25.cell? ⟨gb101, 8, none⟩ = some (.int .i64 a0_8) := (blk_cell BK101.out 8).trans rfl;have hcz26_9 : w25.cell? ⟨gb101, 9, none⟩ = some (.int .i64 a0_9) := (blk_cell BK101.out 9).trans rfl;have hcz26_10 : w25.cell? ⟨gb101, 10, none⟩ = some (.int .i64 a0_10) := (blk_cell BK101.out 10).trans rfl;have hcz26_11 : w25.cell? ⟨gb101, 11, none⟩ = some (.int .i64 a0_11) := (blk_cell BK101.out 11).trans rfl;have hfz26_0 := blk_frozen BK101.out 0;have hfz26_1 := blk_frozen BK101.out 1;have hfz26_2 := blk_frozen BK101.out 2;have hfz26_3 := blk_frozen BK101.out 3;have hfz26_4 := blk_frozen BK101.out 4;have hfz26_5 := blk_frozen BK101.out 5;have hfz26_6 := blk_frozen BK101.out 6;have hfz26_7 := blk_frozen BK101.out 7;have hfz26_8 := blk_frozen BK101.out 8;have hfz26_9 := blk_frozen BK101.out 9;have hfz26_10 := blk_frozen BK101.out 10;have hfz26_11 := blk_frozen BK101.out 11;have hcz27_0 : w25.cell? ⟨gb102, 0, none⟩ = some (.string a1_0) := (blk_cell BK102.out 0).trans rfl;have hcz27_1 : w25.cell? ⟨gb102, 1, none⟩ = some (.int .i64 a1_1) := (blk_cell BK102.out 1).trans rfl;have hcz27_2 : w25.cell? ⟨gb102, 2, none⟩ = some (.int .i64 a1_2) := (blk_cell BK102.out 2).trans rfl;have hcz27_3 : w25.cell? ⟨gb102, 3, none⟩ = some (.int .i64 a1_3) := (blk_cell BK102.out 3).trans rfl;have hcz27_4 : w25.cell? ⟨gb102, 4, none⟩ = some (.int .i64 a1_4) := (blk_cell BK102.out 4).trans rfl;have hcz27_5 : w25.cell? ⟨gb102, 5, none⟩ = some (.int .i64 a1_5) := (blk_cell BK102.out 5).trans rfl;have hcz27_6 : w25.cell? ⟨gb102, 6, none⟩ = some (.slice A1_6 l1_6.length c1_6) := (blk_cell BK102.out 6).trans rfl;have hcz27_7 : w25.cell? ⟨gb102, 7, none⟩ = some (.int .i64 a1_7) := (blk_cell BK102.out 7).trans rfl;have hcz27_8 : w25.cell? ⟨gb102, 8, none⟩ = some (.int .i64 a1_8) := (blk_cell BK102.out 8).trans rfl;have hcz27_9 : w25.cell? ⟨gb102, 9, none⟩ = some (.int .i64 a1_9) := (blk_cell BK102.out 9).trans rfl;have hcz27_10 : w25.cell? ⟨gb102, 10, none⟩ = some (.int .i64 a1_10) := (blk_cell BK102.out 10).trans rfl;have hcz27_11 : w25.cell? ⟨gb102, 11, none⟩ = some (.int .i64 a1_11) := (blk_cell BK102.out 11).trans rfl;have hfz27_0 := blk_frozen BK102.out 0;have hfz27_1 := blk_frozen BK102.out 1;have hfz27_2 := blk_frozen BK102.out 2;have hfz27_3 := blk_frozen BK102.out 3;have hfz27_4 := blk_frozen BK102.out 4;have hfz27_5 := blk_frozen BK102.out 5;have hfz27_6 := blk_frozen BK102.out 6;have hfz27_7 := blk_frozen BK102.out 7;have hfz27_8 := blk_frozen BK102.out 8;have hfz27_9 := blk_frozen BK102.out 9;have hfz27_10 := blk_frozen BK102.out 10;have hfz27_11 := blk_frozen BK102.out 11))
         go_ret
         exact ⟨by first | rfl | (simp [errW_none, errW_some] <;> rfl) | (simp [*, errW_none, errW_some] <;> rfl), by repeat (first | (with_reducible first | exact HB.out | apply below_alloc | apply pw_below_drewN | apply below_drew1 | refine below_set ?_ GE101.out | refine below_set ?_ GE102.out) | exact HB.out)⟩
       ·rw [if_neg c10] at H
        have c10b0 : (a0_9 == a1_9) = false := beq_eq_false_iff_ne.mpr c10
        have c10b1 : (a0_9 != a1_9) = true := bne_iff_ne.mpr c10
        obtain rfl := Option.some.inj H
        go_enter Try.func52, Try.ntmps52
        go_wp2_with (first | ((with_reducible refine gate_dst (N := 2) rfl ?_);refine box_event ?hg (N := 2) ?hd (cs := #[.string a0_0, .int .i64 a0_1, .int .i64 a0_2, .int .i64 a0_3, .int .i64 a0_4, .int .i64 a0_5, .slice A0_6 l0_6.length c0_6, .int .i64 a0_7, .int .i64 a0_8, .int .i64 a0_9, .int .i64 a0_10, .int .i64 a0_11]) (t := 39) ?hr ?_;(case hd => rfl);(case hg => rfl);(case hr => first | (go_simp;done) | (go_simp;rfl));intro gb101 hg w28 hbox hb;have n0_ := Aside0.mk (below_step (by exact HB.out) hb);have n1_ := Aside0.mk (hbox);have n2_ := Aside0.mk ((by rw [hg];exact (below_size (by exact HB.out)) : w.heap.size ≤ gb101));have n3_ := Aside0.mk ((by rw [hg];exact (below_size (by exact HB.out)) : w.heap.size ≤ gb101));clear HB;have HB := n0_;have BK101 := n1_;have GW101 := n2_;have GE101 := n3_;clear n0_ n1_ n2_ n3_;clear hb hbox hg) | ((with_reducible refine gate_dst (N := 3) rfl ?_);refine box_event ?hg (N := 3) ?hd (cs := #[.string a1_0, .int .i64 a1_1, .int .i64 a1_2, .int .i64 a1_3, .int .i64 a1_4, .int .i64 a1_5, .slice A1_6 l1_6.length c1_6, .int .i64 a1_7, .int .i64 a1_8, .int .i64 a1_9, .int .i64 a1_10, .int .i64 a1_11]) (t := 39) ?hr ?_;(case hd => rfl);(case hg => rfl);(case hr => first | (go_simp;done) | (go_simp;rfl));intro gb102 hg w29 hbox hb;have n0_ := Aside0.mk (blk_below BK101.out hb);have n1_ := Aside0.mk (below_step (by exact HB.out) hb);have n2_ := Aside0.mk (hbox);have n3_ := Aside0.mk ((by rw [hg];exact (below_size (by exact HB.out)) : w.heap.size ≤ gb102));have n4_ := Aside0.mk ((by rw [hg];exact (below_size (by exact HB.out)) : w.heap.size ≤ gb102));have n5_ := Aside0.mk ((by rw [hg];exact Nat.ne_of_lt (blk_lt BK101.out) : gb101 ≠ gb102));have n6_ := Aside0.mk ((by rw [hg];exact Nat.ne_of_gt (blk_lt BK101.out) : gb102 ≠ gb101));clear BK101;clear HB;have BK101 := n0_;have HB := n1_;have BK102 := n2_;have GW102 := n3_;have GE102 := n4_;have NB101_102 := n5_;have NB102_101 := n6_;clear n0_ n1_ n2_ n3_ n4_ n5_ n6_;clear hb hbox hg;have hnb30 := NB101_102.out;have hnc30 := NB102_101.out;have hcz31_0 : w29.cell? ⟨gb101, 0, none⟩ = some (.string a0_0) := (blk_cell BK101.out 0).trans rfl;have hcz31_1 : w29.cell? ⟨gb101, 1, none⟩ = some (.int .i64 a0_1) := (blk_cell BK101.out 1).trans rfl;have hcz31_2 : w29.cell? ⟨gb101, 2, none⟩ = some (.int .i64 a0_2) := (blk_cell BK101.out 2).trans rfl;have hcz31_3 : w29.cell? ⟨gb101, 3, none⟩ = some (.int .i64 a0_3) := (blk_cell BK101.out 3).trans rfl;have hcz31_4 : w29.cell? ⟨gb101, 4, none⟩ = some (.int .i64 a0_4) := (blk_cell BK101.out 4).trans rfl;have hcz31_5 : w29.cell? ⟨gb101, 5, none⟩ = some (.int .i64 a0_5) := (blk_cell BK101.out 5).trans rfl;have hcz31_6 : w29.cell? ⟨gb101, 6, none⟩ = some (.slice A0_6 l0_6.length c0_6) := (blk_cell BK101.out 6).trans rfl;have hcz31_7 : w29.cell? ⟨gb101, 7, none⟩ = some (.int .i64 a0_7) := (blk_cell BK101.out 7).trans rfl;have hcz31_8 : w29.cell? ⟨gb101, 8, none⟩ = some (.int .i64 a0_8) := (blk_cell BK101.out 8).trans rfl;have hcz31_9 : w29.cell? ⟨gb101, 9, none⟩ = some (.int .i64 a0_9) := (blk_cell BK101.out 9).trans rfl;have hcz31_10 : w29.cell? ⟨gb101, 10, none⟩ = some (.int .i64 a0_10) := (blk_cell BK101.out 10).trans rfl;have hcz31_11 : w29.cell? ⟨gb101, 11, none⟩ = some (.int .i64 a0_11) := (blk_cell BK101.out 11).trans rfl;have hfz31_0 := blk_frozen BK101.out 0;have hfz31_1 := blk_frozen BK101.out 1;have hfz31_2 := blk_frozen BK101.out 2;have hfz31_3 := blk_frozen BK101.out 3;have hfz31_4 := blk_frozen BK101.out 4;have hfz31_5 := blk_frozen BK101.out 5;have hfz31_6 := blk_frozen BK101.out 6;have hfz31_7 := blk_frozen BK101.out 7;have hfz31_8 := blk_frozen BK101.out 8;have hfz31_9 := blk_frozen BK101.out 9;have hfz31_10 := blk_frozen BK101.out 10;have hfz31_11 := blk_frozen BK101.out 11;have hcz32_0 : w29.cell? ⟨gb102, 0, none⟩ = some (.string a1_0) := (blk_cell BK102.out 0).trans rfl;have hcz32_1 : w29.cell? ⟨gb102, 1, none⟩ = some (.int .i64 a1_1) := (blk_cell BK102.out 1).trans rfl;have hcz32_2 : w29.cell? ⟨gb102, 2, none⟩ = some (.int .i64 a1_2) := (blk_cell BK102.out 2).trans rfl;have hcz32_3 : w29.cell? ⟨gb102, 3, none⟩ = some (.int .i64 a1_3) := (blk_cell BK102.out 3).trans rfl;have hcz32_4 : w29.cell? ⟨gb102, 4, none⟩ = some (.int .i64 a1_4) := (blk_cell BK102.out 4).trans rfl;have hcz32_5 : w29.cell? ⟨gb102, 5, none⟩ = some (.int .i64 a1_5) := (blk_cell BK102.out 5).trans rfl;have hcz32_6 : w29.cell? ⟨gb102, 6, none⟩ = some (.slice A1_6 l1_6.length c1_6) := (blk_cell BK102.out 6).trans rfl;have hcz32_7 : w29.cell? ⟨gb102, 7, none⟩ = some (.int .i64 a1_7) := (blk_cell BK102.out 7).trans rfl;have hcz32_8 : w29.cell? ⟨gb102, 8, none⟩ = some (.int .i64 a1_8) := (blk_cell BK102.out 8).trans rfl;have hcz32_9 : w29.cell? ⟨gb102, 9, none⟩ = some (.int .i64 a1_9) := (blk_cell BK102.out 9).trans rfl;have hcz32_10 : w29.cell? ⟨gb102, 10, none⟩ = some (.int .i64 a1_10) := (blk_cell BK102.out 10).trans rfl;have hcz32_11 : w29.cell? ⟨gb102, 11, none⟩ = some (.int .i64 a1_11) := (blk_cell BK102.out 11).trans rfl;have hfz32_0 := blk_frozen BK102.out 0;have hfz32_1 := blk_frozen BK102.out 1;have hfz32_2 := blk_frozen BK102.out 2;have hfz32_3 := blk_frozen BK102.out 3;have hfz32_4 := blk_frozen BK102.out 4;have hfz32_5 := blk_frozen BK102.out 5;have hfz32_6 := blk_frozen BK102.out 6;have hfz32_7 := blk_frozen BK102.out 7;have hfz32_8 := blk_frozen BK102.out 8;have hfz32_9 := blk_frozen BK102.out 9;have hfz32_10 := blk_frozen BK102.out 10;have hfz32_11 := blk_frozen BK102.out 11) | (go_at_call 53;(with_reducible refine (impl_ExSame.calls k a0_3 a0_4 a0_5 _ _ l0_6 a1_3 a1_4 a1_5 _ _ l1_6 true _ ?side1 ?side2 ?side3 ?side4 A6.out).mono ?_);(case side1 => repeat (first | exact (Kd.C_below HR0_6.out HB.out) | (with_reducible refine Kd.C_alloc ?_ _) | (with_reducible refine Kd.C_drewN ?_ _) | (with_reducible refine Kd.C_drew ?_)));(case side2 => exact HC0_6.out);(case side3 => repeat (first | exact (Kd.C_below HR1_6.out HB.out) | (with_reducible refine Kd.C_alloc ?_ _) | (with_reducible refine Kd.C_drewN ?_ _) | (with_reducible refine Kd.C_drew ?_)));(case side4 => exact HC1_6.out);rintro e w33 ⟨rfl, hb⟩;have n0_ := Aside0.mk (blk_below BK101.out hb);have n1_ := Aside0.mk (blk_below BK102.out hb);have n2_ := Aside0.mk (below_step (by exact HB.out) hb);clear BK101;clear BK102;clear HB;have BK101 := n0_;have BK102 := n1_;have HB := n2_;clear n0_ n1_ n2_;(try clear hb);(try clear hb2);(try clear hk);(try clear hi);have hcz34_0 : w33.cell? ⟨gb101, 0, none⟩ = some (.string a0_0) := (blk_cell BK101.out 0).trans rfl;have hcz34_1 : w33.cell? ⟨gb101, 1, none⟩ = some (.int .i64 a0_1) := (blk_cell BK101.out 1).trans rfl;have hcz34_2 : w33.cell? ⟨gb101, 2, none⟩ = some (.int .i64 a0_2) := (blk_cell BK101.out 2).trans rfl;have hcz34_3 : w33.cell? ⟨gb101, 3, none⟩ = some (.int .i64 a0_3) := (blk_cell BK101.out 3).trans rfl;have hcz34_4 : w33.cell? ⟨gb101, 4, none⟩ = some (.int .i64 a0_4) := (blk_cell BK101.out 4).trans rfl;have hcz34_5 : w33.cell? ⟨gb101, 5, none⟩ = some (.int .i64 a0_5) := (blk_cell BK101.out 5).trans rfl;have hcz34_6 : w33.cell? ⟨gb101, 6, none⟩ = some (.slice A0_6 l0_6.length c0_6) := (blk_cell BK101.out 6).trans rfl;have hcz34_7 : w33.cell? ⟨gb101, 7, none⟩ = some (.int .i64 a0_7) := (blk_cell BK101.out 7).trans rfl;have hcz34_8 : w33.cell? ⟨gb101, 8, none⟩ = some (.int .i64 a0_8) := (blk_cell BK101.out 8).trans rfl;have hcz34_9 : w33.cell? ⟨gb101, 9, none⟩ = some (.int .i64 a0_9) := (blk_cell BK101.out 9).trans rfl;have hcz34_10 : w33.cell? ⟨gb101, 10, none⟩ = some (.int .i64 a0_10) := (blk_cell BK101.out 10).trans rfl;have hcz34_11 : w33.cell? ⟨gb101, 11, none⟩ = some (.int .i64 a0_11) := (blk_cell BK101.out 11).trans rfl;have hfz34_0 := blk_frozen BK101.out 0;have hfz34_1 := blk_frozen BK101.out 1;have hfz34_2 := blk_frozen BK101.out 2;have hfz34_3 := blk_frozen BK101.out 3;have hfz34_4 := blk_frozen BK101.out 4;have hfz34_5 := blk_frozen BK101.out 5;have hfz34_6 := blk_frozen BK101.out 6;have hfz34_7 := blk_frozen BK101.out 7;have hfz34_8 := blk_frozen BK101.out 8;have hfz34_9 := blk_frozen BK101.out 9;have hfz34_10 := blk_frozen BK101.out 10;have hfz34_11 := blk_frozen BK101.out 11;have hcz35_0 : w33.cell? ⟨gb102, 0, none⟩ = some (.string a1_0) := (blk_cell BK102.out 0).trans rfl;have hcz35_1 : w33.cell? ⟨gb102, 1, none⟩ = some (.int .i64 a1_1) := (blk_cell BK102.out 1).trans rfl;have hcz35_2 : w33.cell? ⟨gb102, 2, none⟩ = some (.int .i64 a1_2) := (blk_cell BK102.out 2).trans rfl;have hcz35_3 : w33.cell? ⟨gb102, 3, none⟩ = some (.int .i64 a1_3) := (blk_cell BK102.out 3).trans rfl;have hcz35_4 : w33.cell? ⟨gb102, 4, none⟩ = some (.int .i64 a1_4) := (blk_cell BK102.out 4).trans rfl;have hcz35_5 : w33.cell? ⟨gb102, 5, none⟩ = some (.int .i64 a1_5) := (blk_cell BK102.out 5).trans rfl;have hcz35_6 : w33.cell? ⟨gb102, 6, none⟩ = some (.slice A1_6 l1_6.length c1_6) := (blk_cell BK102.out 6).trans rfl;have hcz35_7 : w33.cell? ⟨gb102, 7, none⟩ = some (.int .i64 a1_7) := (blk_cell BK102.out 7).trans rfl;have hcz35_8 : w33.cell? ⟨gb102, 8, none⟩ = some (.int .i64 a1_8) := (blk_cell BK102.out 8).trans rfl;have hcz35_9 : w33.cell? ⟨gb102, 9, none⟩ = some (.int .i64 a1_9) := (blk_cell BK102.out 9).trans rfl;have hcz35_10 : w33.cell? ⟨gb102, 10, none⟩ = some (.int .i64 a1_10) := (blk_cell BK102.out 10).trans rfl;have hcz35_11 : w33.cell? ⟨gb102, 11, none⟩ = some (.int .i64 a1_11) := (blk_cell BK102.out 11).trans rfl;have hfz35_0 := blk_frozen BK102.out 0;have hfz35_1 := blk_frozen BK102.out 1;have hfz35_2 := blk_frozen BK102.out 2;have hfz35_3 := blk_frozen BK102.out 3;have hfz35_4 := blk_frozen BK102.out 4;have hfz35_5 := blk_frozen BK102.out 5;have hfz35_6 := blk_frozen BK102.out 6;have hfz35_7 := blk_frozen BK102.out 7;have hfz35_8 := blk_frozen BK102.out 8;have hfz35_9 := blk_frozen BK102.out 9;have hfz35_10 := blk_frozen BK102.out 10;have hfz35_11 := blk_frozen BK102.out 11))
        go_ret
        exact ⟨by first | rfl | (simp [errW_none, errW_some] <;> rfl) | (simp [*, errW_none, errW_some] <;> rfl), by repeat (first | (with_reducible first | exact HB.out | apply below_alloc | apply pw_below_drewN | apply below_drew1 | refine below_set ?_ GE101.out | refine below_set ?_ GE102.out) | exact HB.out)⟩
      ·rw [if_neg c9] at H
       have c9b0 : (a0_8 == a1_8) = false := beq_eq_false_iff_ne.mpr c9
       have c9b1 : (a0_8 != a1_8) = true := bne_iff_ne.mpr c9
       obtain rfl := Option.some.inj H
       go_enter Try.func52, Try.ntmps52
       go_wp2_with (first | ((with_reducible refine gate_dst (N := 2) rfl ?_);refine box_event ?hg (N := 2) ?hd (cs := #[.string a0_0, .int .i64 a0_1, .int .i64 a0_2, .int .i64 a0_3, .int .i64 a0_4, .int .i64 a0_5, .slice A0_6 l0_6.length c0_6, .int .i64 a0_7, .int .i64 a0_8, .int .i64 a0_9, .int .i64 a0_10, .int .i64 a0_11]) (t := 39) ?hr ?_;(case hd => rfl);(case hg => rfl);(case hr => first | (go_simp;done) | (go_simp;rfl));intro gb101 hg w36 hbox hb;have n0_ := Aside0.mk (below_step (by exact HB.out) hb);have n1_ := Aside0.mk (hbox);have n2_ := Aside0.mk ((by rw [hg];exact (below_size (by exact HB.out)) : w.heap.size ≤ gb101));have n3_ := Aside0.mk ((by rw [hg];exact (below_size (by exact HB.out)) : w.heap.size ≤ gb101));clear HB;have HB := n0_;have BK101 := n1_;have GW101 := n2_;have GE101 := n3_;clear n0_ n1_ n2_ n3_;clear hb hbox hg) | ((with_reducible refine gate_dst (N := 3) rfl ?_);refine box_event ?hg (N := 3) ?hd (cs := #[.string a1_0, .int .i64 a1_1, .int .i64 a1_2, .int .i64 a1_3, .int .i64 a1_4, .int .i64 a1_5, .slice A1_6 l1_6.length c1_6, .int .i64 a1_7, .int .i64 a1_8, .int .i64 a1_9, .int .i64 a1_10, .int .i64 a1_11]) (t := 39) ?hr ?_;(case hd => rfl);(case hg => rfl);(case hr => first | (go_simp;done) | (go_simp;rfl));intro gb102 hg w37 hbox hb;have n0_ := Aside0.mk (blk_below BK101.out hb);have n1_ := Aside0.mk (below_step (by exact HB.out) hb);have n2_ := Aside0.mk (hbox);have n3_ := Aside0.mk ((by rw [hg];exact (below_size (by exact HB.out)) : w.heap.size ≤ gb102));have n4_ := Aside0.mk ((by rw [hg];exact (below_size (by exact HB.out)) : w.heap.size ≤ gb102));have n5_ := Aside0.mk ((by rw [hg];exact Nat.ne_of_lt (blk_lt BK101.out) : gb101 ≠ gb102));have n6_ := Aside0.mk ((by rw [hg];exact Nat.ne_of_gt (blk_lt BK101.out) : gb102 ≠ gb101));clear BK101;clear HB;have BK101 := n0_;have HB := n1_;have BK102 := n2_;have GW102 := n3_;have GE102 := n4_;have NB101_102 := n5_;have NB102_101 := n6_;clear n0_ n1_ n2_ n3_ n4_ n5_ n6_;clear hb hbox hg;have hnb38 := NB101_102.out;have hnc38 := NB102_101.out;have hcz39_0 : w37.cell? ⟨gb101, 0, none⟩ = some (.string a0_0) := (blk_cell BK101.out 0).trans rfl;have hcz39_1 : w37.cell? ⟨gb101, 1, none⟩ = some (.int .i64 a0_1) := (blk_cell BK101.out 1).trans rfl;have hcz39_2 : w37.cell? ⟨gb101, 2, none⟩ = some (.int .i64 a0_2) := (blk_cell BK101.out 2).trans rfl;have hcz39_3 : w37.cell? ⟨gb101, 3, none⟩ = some (.int .i64 a0_3) := (blk_cell BK101.out 3).trans rfl;have hcz39_4 : w37.cell? ⟨gb101, 4, none⟩ = some (.int .i64 a0_4) := (blk_cell BK101.out 4).trans rfl;have hcz39_5 : w37.cell? ⟨gb101, 5, none⟩ = some (.int .i64 a0_5) := (blk_cell BK101.out 5).trans rfl;have hcz39_6 : w37.cell? ⟨gb101, 6, none⟩ = some (.slice A0_6 l0_6.length c0_6) := (blk_cell BK101.out 6).trans rfl;have hcz39_7 : w37.cell? ⟨gb101, 7, none⟩ = some (.int .i64 a0_7) := (blk_cell BK101.out 7).trans rfl;have hcz39_8 : w37.cell? ⟨gb101, 8, none⟩ = some (.int .i64 a0_8) := (blk_cell BK101.out 8).trans rfl;have hcz39_9 : w37.cell? ⟨gb101, 9, none⟩ = some (.int .i64 a0_9) := (blk_cell BK101.out 9).trans rfl;have hcz39_10 : w37.cell? ⟨gb101, 10, none⟩ = some (.int .i64 a0_10) := (blk_cell BK101.out 10).trans rfl;have hcz39_11 : w37.cell? ⟨gb101, 11, none⟩ = some (.int .i64 a0_11) := (blk_cell BK101.out 11).trans rfl;have hfz39_0 := blk_frozen BK101.out 0;have hfz39_1 := blk_frozen BK101.out 1;have hfz39_2 := blk_frozen BK101.out 2;have hfz39_3 := blk_frozen BK101.out 3;have hfz39_4 := blk_frozen BK101.out 4;have hfz39_5 := blk_frozen BK101.out 5;have hfz39_6 := blk_frozen BK101.out 6;have hfz39_7 := blk_frozen BK101.out 7;have hfz39_8 := blk_frozen BK101.out 8;have hfz39_9 := blk_frozen BK101.out 9;have hfz39_10 := blk_frozen BK101.out 10;have hfz39_11 := blk_frozen BK101.out 11;have hcz40_0 : w37.cell? ⟨gb102, 0, none⟩ = some (.string a1_0) := (blk_cell BK102.out 0).trans rfl;have hcz40_1 : w37.cell? ⟨gb102, 1, none⟩ = some (.int .i64 a1_1) := (blk_cell BK102.out 1).trans rfl;have hcz40_2 : w37.cell? ⟨gb102, 2, none⟩ = some (.int .i64 a1_2) := (blk_cell BK102.out 2).trans rfl;have hcz40_3 : w37.cell? ⟨gb102, 3, none⟩ = some (.int .i64 a1_3) := (blk_cell BK102.out 3).trans rfl;have hcz40_4 : w37.cell? ⟨gb102, 4, none⟩ = some (.int .i64 a1_4) := (blk_cell BK102.out 4).trans rfl;have hcz40_5 : w37.cell? ⟨gb102, 5, none⟩ = some (.int .i64 a1_5) := (blk_cell BK102.out 5).trans rfl;have hcz40_6 : w37.cell? ⟨gb102, 6, none⟩ = some (.slice A1_6 l1_6.length c1_6) := (blk_cell BK102.out 6).trans rfl;have hcz40_7 : w37.cell? ⟨gb102, 7, none⟩ = some (.int .i64 a1_7) := (blk_cell BK102.out 7).trans rfl;have hcz40_8 : w37.cell? ⟨gb102, 8, none⟩ = some (.int .i64 a1_8) := (blk_cell BK102.out 8).trans rfl;have hcz40_9 : w37.cell? ⟨gb102, 9, none⟩ = some (.int .i64 a1_9) := (blk_cell BK102.out 9).trans rfl;have hcz40_10 : w37.cell? ⟨gb102, 10, none⟩ = some (.int .i64 a1_10) := (blk_cell BK102.out 10).trans rfl;have hcz40_11 : w37.cell? ⟨gb102, 11, none⟩ = some (.int .i64 a1_11) := (blk_cell BK102.out 11).trans rfl;have hfz40_0 := blk_frozen BK102.out 0;have hfz40_1 := blk_frozen BK102.out 1;have hfz40_2 := blk_frozen BK102.out 2;have hfz40_3 := blk_frozen BK102.out 3;have hfz40_4 := blk_frozen BK102.out 4;have hfz40_5 := blk_frozen BK102.out 5;have hfz40_6 := blk_frozen BK102.out 6;have hfz40_7 := blk_frozen BK102.out 7;have hfz40_8 := blk_frozen BK102.out 8;have hfz40_9 := blk_frozen BK102.out 9;have hfz40_10 := blk_frozen BK102.out 10;have hfz40_11 := blk_frozen BK102.out 11) | (go_at_call 53;(with_reducible refine (impl_ExSame.calls k a0_3 a0_4 a0_5 _ _ l0_6 a1_3 a1_4 a1_5 _ _ l1_6 true _ ?side1 ?side2 ?side3 ?side4 A6.out).mono ?_);(case side1 => repeat (first | exact (Kd.C_below HR0_6.out HB.out) | (with_reducible refine Kd.C_alloc ?_ _) | (with_reducible refine Kd.C_drewN ?_ _) | (with_reducible refine Kd.C_drew ?_)));(case side2 => exact HC0_6.out);(case side3 => repeat (first | exact (Kd.C_below HR1_6.out HB.out) | (with_reducible refine Kd.C_alloc ?_ _) | (with_reducible refine Kd.C_drewN ?_ _) | (with_reducible refine Kd.C_drew ?_)));(case side4 => exact HC1_6.out);rintro e w41 ⟨rfl, hb⟩;have n0_ := Aside0.mk (blk_below BK101.out hb);have n1_ := Aside0.mk (blk_below BK102.out hb);have n2_ := Aside0.mk (below_step (by exact HB.out) hb);clear BK101;clear BK102;clear HB;have BK101 := n0_;have BK102 := n1_;have HB := n2_;clear n0_ n1_ n2_;(try clear hb);(try clear hb2);(try clear hk);(try clear hi);have hcz42_0 : w41.cell? ⟨gb101, 0, none⟩ = some (.string a0_0) := (blk_cell BK101.out 0).trans rfl;have hcz42_1 : w41.cell? ⟨gb101, 1, none⟩ = some (.int .i64 a0_1) := (blk_cell BK101.out 1).trans rfl;have hcz42_2 : w41.cell? ⟨gb101, 2, none⟩ = some (.int .i64 a0_2) := (blk_cell BK101.out 2).trans rfl;have hcz42_3 : w41.cell? ⟨gb101, 3, none⟩ = some (.int .i64 a0_3) := (blk_cell BK101.out 3).trans rfl;have hcz42_4 : w41.cell? ⟨gb101, 4, none⟩ = some (.int .i64 a0_4) := (blk_cell BK101.out 4).trans rfl;have hcz42_5 : w41.cell? ⟨gb101, 5, none⟩ = some (.int .i64 a0_5) := (blk_cell BK101.out 5).trans rfl;have hcz42_6 : w41.cell? ⟨gb101, 6, none⟩ = some (.slice A0_6 l0_6.length c0_6) := (blk_cell BK101.out 6).trans rfl;have hcz42_7 : w41.cell? ⟨gb101, 7, none⟩ = some (.int .i64 a0_7) := (blk_cell BK101.out 7).trans rfl;have hcz42_8 : w41.cell? ⟨gb101, 8, none⟩ = some (.int .i64 a0_8) := (blk_cell BK101.out 8).trans rfl;have hcz42_9 : w41.cell? ⟨gb101, 9, none⟩ = some (.int .i64 a0_9) := (blk_cell BK101.out 9).trans rfl;have hcz42_10 : w41.cell? ⟨gb101, 10, none⟩ = some (.int .i64 a0_10) := (blk_cell BK101.out 10).trans rfl;have hcz42_11 : w41.cell? ⟨gb101, 11, none⟩ = some (.int .i64 a0_11) := (blk_cell BK101.out 11).trans rfl;have hfz42_0 := blk_frozen BK101.out 0;have hfz42_1 := blk_frozen BK101.out 1;have hfz42_2 := blk_frozen BK101.out 2;have hfz42_3 := blk_frozen BK101.out 3;have hfz42_4 := blk_frozen BK101.out 4;have hfz42_5 := blk_frozen BK101.out 5;have hfz42_6 := blk_frozen BK101.out 6;have hfz42_7 := blk_frozen BK101.out 7;have hfz42_8 := blk_frozen BK101.out 8;have hfz42_9 := blk_frozen BK101.out 9;have hfz42_10 := blk_frozen BK101.out 10;have hfz42_11 := blk_frozen BK101.out 11;have hcz43_0 : w41.cell? ⟨gb102, 0, none⟩ = some (.string a1_0) := (blk_cell BK102.out 0).trans rfl;have hcz43_1 : w41.cell? ⟨gb102, 1, none⟩ = some (.int .i64 a1_1) := (blk_cell BK102.out 1).trans rfl;have hcz43_2 : w41.cell? ⟨gb102, 2, none⟩ = some (.int .i64 a1_2) := (blk_cell BK102.out 2).trans rfl;have hcz43_3 : w41.cell? ⟨gb102, 3, none⟩ = some (.int .i64 a1_3) := (blk_cell BK102.out 3).trans rfl;have hcz43_4 : w41.cell? ⟨gb102, 4, none⟩ = some (.int .i64 a1_4) := (blk_cell BK102.out 4).trans rfl;have hcz43_5 : w41.cell? ⟨gb102, 5, none⟩ = some (.int .i64 a1_5) := (blk_cell BK102.out 5).trans rfl;have hcz43_6 : w41.cell? ⟨gb102, 6, none⟩ = some (.slice A1_6 l1_6.length c1_6) := (blk_cell BK102.out 6).trans rfl;have hcz43_7 : w41.cell? ⟨gb102, 7, none⟩ = some (.int .i64 a1_7) := (blk_cell BK102.out 7).trans rfl;have hcz43_8 : w41.cell? ⟨gb102, 8, none⟩ = some (.int .i64 a1_8) := (blk_cell BK102.out 8).trans rfl;have hcz43_9 : w41.cell? ⟨gb102, 9, none⟩ = some (.int .i64 a1_9) := (blk_cell BK102.out 9).trans rfl;have hcz43_10 : w41.cell? ⟨gb102, 10, none⟩ = some (.int .i64 a1_10) := (blk_cell BK102.out 10).trans rfl;have hcz43_11 : w41.cell? ⟨gb102, 11, none⟩ = some (.int .i64 a1_11) := (blk_cell BK102.out 11).trans rfl;have hfz43_0 := blk_frozen BK102.out 0;have hfz43_1 := blk_frozen BK102.out 1;have hfz43_2 := blk_frozen BK102.out 2;have hfz43_3 := blk_frozen BK102.out 3;have hfz43_4 := blk_frozen BK102.out 4;have hfz43_5 := blk_frozen BK102.out 5;have hfz43_6 := blk_frozen BK102.out 6;have hfz43_7 := blk_frozen BK102.out 7;have hfz43_8 := blk_frozen BK102.out 8;have hfz43_9 := blk_frozen BK102.out 9;have hfz43_10 := blk_frozen BK102.out 10;have hfz43_11 := blk_frozen BK102.out 11))
       go_ret
       exact ⟨by first | rfl | (simp [errW_none, errW_some] <;> rfl) | (simp [*, errW_none, errW_some] <;> rfl), by repeat (first | (with_reducible first | exact HB.out | apply below_alloc | apply pw_below_drewN | apply below_drew1 | refine below_set ?_ GE101.out | refine below_set ?_ GE102.out) | exact HB.out)⟩
     ·rw [if_neg c8] at H
      have c8b0 : (a0_7 == a1_7) = false := beq_eq_false_iff_ne.mpr c8
      have c8b1 : (a0_7 != a1_7) = true := bne_iff_ne.mpr c8
      obtain rfl := Option.some.inj H
      go_enter Try.func52, Try.ntmps52
      go_wp2_with (first | ((with_reducible refine gate_dst (N := 2) rfl ?_);refine box_event ?hg (N := 2) ?hd (cs := #[.string a0_0, .int .i64 a0_1, .int .i64 a0_2, .int .i64 a0_3, .int .i64 a0_4, .int .i64 a0_5, .slice A0_6 l0_6.length c0_6, .int .i64 a0_7, .int .i64 a0_8, .int .i64 a0_9, .int .i64 a0_10, .int .i64 a0_11]) (t := 39) ?hr ?_;(case hd => rfl);(case hg => rfl);(case hr => first | (go_simp;done) | (go_simp;rfl));intro gb101 hg w44 hbox hb;have n0_ := Aside0.mk (below_step (by exact HB.out) hb);have n1_ := Aside0.mk (hbox);have n2_ := Aside0.mk ((by rw [hg];exact (below_size (by exact HB.out)) : w.heap.size ≤ gb101));have n3_ := Aside0.mk ((by rw [hg];exact (below_size (by exact HB.out)) : w.heap.size ≤ gb101));clear HB;have HB := n0_;have BK101 := n1_;have GW101 := n2_;have GE101 := n3_;clear n0_ n1_ n2_ n3_;clear hb hbox hg) | ((with_reducible refine gate_dst (N := 3) rfl ?_);refine box_event ?hg (N := 3) ?hd (cs := #[.string a1_0, .int .i64 a1_1, .int .i64 a1_2, .int .i64 a1_3, .int .i64 a1_4, .int .i64 a1_5, .slice A1_6 l1_6.length c1_6, .int .i64 a1_7, .int .i64 a1_8, .int .i64 a1_9, .int .i64 a1_10, .int .i64 a1_11]) (t := 39) ?hr ?_;(case hd => rfl);(case hg => rfl);(case hr => first | (go_simp;done) | (go_simp;rfl));intro gb102 hg w45 hbox hb;have n0_ := Aside0.mk (blk_below BK101.out hb);have n1_ := Aside0.mk (below_step (by exact HB.out) hb);have n2_ := Aside0.mk (hbox);have n3_ := Aside0.mk ((by rw [hg];exact (below_size (by exact HB.out)) : w.heap.size ≤ gb102));have n4_ := Aside0.mk ((by rw [hg];exact (below_size (by exact HB.out)) : w.heap.size ≤ gb102));have n5_ := Aside0.mk ((by rw [hg];exact Nat.ne_of_lt (blk_lt BK101.out) : gb101 ≠ gb102));have n6_ := Aside0.mk ((by rw [hg];exact Nat.ne_of_gt (blk_lt BK101.out) : gb102 ≠ gb101));clear BK101;clear HB;have BK101 := n0_;have HB := n1_;have BK102 := n2_;have GW102 := n3_;have GE102 := n4_;have NB101_102 := n5_;have NB102_101 := n6_;clear n0_ n1_ n2_ n3_ n4_ n5_ n6_;clear hb hbox hg;have hnb46 := NB101_102.out;have hnc46 := NB102_101.out;have hcz47_0 : w45.cell? ⟨gb101, 0, none⟩ = some (.string a0_0) := (blk_cell BK101.out 0).trans rfl;have hcz47_1 : w45.cell? ⟨gb101, 1, none⟩ = some (.int .i64 a0_1) := (blk_cell BK101.out 1).trans rfl;have hcz47_2 : w45.cell? ⟨gb101, 2, none⟩ = some (.int .i64 a0_2) := (blk_cell BK101.out 2).trans rfl;have hcz47_3 : w45.cell? ⟨gb101, 3, none⟩ = some (.int .i64 a0_3) := (blk_cell BK101.out 3).trans rfl;have hcz47_4 : w45.cell? ⟨gb101, 4, none⟩ = some (.int .i64 a0_4) := (blk_cell BK101.out 4).trans rfl;have hcz47_5 : w45.cell? ⟨gb101, 5, none⟩ = some (.int .i64 a0_5) := (blk_cell BK101.out 5).trans rfl;have hcz47_6 : w45.cell? ⟨gb101, 6, none⟩ = some (.slice A0_6 l0_6.length c0_6) := (blk_cell BK101.out 6).trans rfl;have hcz47_7 : w45.cell? ⟨gb101, 7, none⟩ = some (.int .i64 a0_7) := (blk_cell BK101.out 7).trans rfl;have hcz47_8 : w45.cell? ⟨gb101, 8, none⟩ = some (.int .i64 a0_8) := (blk_cell BK101.out 8).trans rfl;have hcz47_9 : w45.cell? ⟨gb101, 9, none⟩ = some (.int .i64 a0_9) := (blk_cell BK101.out 9).trans rfl;have hcz47_10 : w45.cell? ⟨gb101, 10, none⟩ = some (.int .i64 a0_10) := (blk_cell BK101.out 10).trans rfl;have hcz47_11 : w45.cell? ⟨gb101, 11, none⟩ = some (.int .i64 a0_11) := (blk_cell BK101.out 11).trans rfl;have hfz47_0 := blk_frozen BK101.out 0;have hfz47_1 := blk_frozen BK101.out 1;have hfz47_2 := blk_frozen BK101.out 2;have hfz47_3 := blk_frozen BK101.out 3;have hfz47_4 := blk_frozen BK101.out 4;have hfz47_5 := blk_frozen BK101.out 5;have hfz47_6 := blk_frozen BK101.out 6;have hfz47_7 := blk_frozen BK101.out 7;have hfz47_8 := blk_frozen BK101.out 8;have hfz47_9 := blk_frozen BK101.out 9;have hfz47_10 := blk_frozen BK101.out 10;have hfz47_11 := blk_frozen BK101.out 11;have hcz48_0 : w45.cell? ⟨gb102, 0, none⟩ = some (.string a1_0) := (blk_cell BK102.out 0).trans rfl;have hcz48_1 : w45.cell? ⟨gb102, 1, none⟩ = some (.int .i64 a1_1) := (blk_cell BK102.out 1).trans rfl;have hcz48_2 : w45.cell? ⟨gb102, 2, none⟩ = some (.int .i64 a1_2) := (blk_cell BK102.out 2).trans rfl;have hcz48_3 : w45.cell? ⟨gb102, 3, none⟩ = some (.int .i64 a1_3) := (blk_cell BK102.out 3).trans rfl;have hcz48_4 : w45.cell? ⟨gb102, 4, none⟩ = some (.int .i64 a1_4) := (blk_cell BK102.out 4).trans rfl;have hcz48_5 : w45.cell? ⟨gb102, 5, none⟩ = some (.int .i64 a1_5) := (blk_cell BK102.out 5).trans rfl;have hcz48_6 : w45.cell? ⟨gb102, 6, none⟩ = some (.slice A1_6 l1_6.length c1_6) := (blk_cell BK102.out 6).trans rfl;have hcz48_7 : w45.cell? ⟨gb102, 7, none⟩ = some (.int .i64 a1_7) := (blk_cell BK102.out 7).trans rfl;have hcz48_8 : w45.cell? ⟨gb102, 8, none⟩ = some (.int .i64 a1_8) := (blk_cell BK102.out 8).trans rfl;have hcz48_9 : w45.cell? ⟨gb102, 9, none⟩ = some (.int .i64 a1_9) := (blk_cell BK102.out 9).trans rfl;have hcz48_10 : w45.cell? ⟨gb102, 10, none⟩ = some (.int .i64 a1_10) := (blk_cell BK102.out 10).trans rfl;have hcz48_11 : w45.cell? ⟨gb102, 11, none⟩ = some (.int .i64 a1_11) := (blk_cell BK102.out 11).trans rfl;have hfz48_0 := blk_frozen BK102.out 0;have hfz48_1 := blk_frozen BK102.out 1;have hfz48_2 := blk_frozen BK102.out 2;have hfz48_3 := blk_frozen BK102.out 3;have hfz48_4 := blk_frozen BK102.out 4;have hfz48_5 := blk_frozen BK102.out 5;have hfz48_6 := blk_frozen BK102.out 6;have hfz48_7 := blk_frozen BK102.out 7;have hfz48_8 := blk_frozen BK102.out 8;have hfz48_9 := blk_frozen BK102.out 9;have hfz48_10 := blk_frozen BK102.out 10;have hfz48_11 := blk_frozen BK102.out 11) | (go_at_call 53;(with_reducible refine (impl_ExSame.calls k a0_3 a0_4 a0_5 _ _ l0_6 a1_3 a1_4 a1_5 _ _ l1_6 true _ ?side1 ?side2 ?side3 ?side4 A6.out).mono ?_);(case side1 => repeat (first | exact (Kd.C_below HR0_6.out HB.out) | (with_reducible refine Kd.C_alloc ?_ _) | (with_reducible refine Kd.C_drewN ?_ _) | (with_reducible refine Kd.C_drew ?_)));(case side2 => exact HC0_6.out);(case side3 => repeat (first | exact (Kd.C_below HR1_6.out HB.out) | (with_reducible refine Kd.C_alloc ?_ _) | (with_reducible refine Kd.C_drewN ?_ _) | (with_reducible refine Kd.C_drew ?_)));(case side4 => exact HC1_6.out);rintro e w49 ⟨rfl, hb⟩;have n0_ := Aside0.mk (blk_below BK101.out hb);have n1_ := Aside0.mk (blk_below BK102.out hb);have n2_ := Aside0.mk (below_step (by exact HB.out) hb);clear BK101;clear BK102;clear HB;have BK101 := n0_;have BK102 := n1_;have HB := n2_;clear n0_ n1_ n2_;(try clear hb);(try clear hb2);(try clear hk);(try clear hi);have hcz50_0 : w49.cell? ⟨gb101, 0, none⟩ = some (.string a0_0) := (blk_cell BK101.out 0).trans rfl;have hcz50_1 : w49.cell? ⟨gb101, 1, none⟩ = some (.int .i64 a0_1) := (blk_cell BK101.out 1).trans rfl;have hcz50_2 : w49.cell? ⟨gb101, 2, none⟩ = some (.int .i64 a0_2) := (blk_cell BK101.out 2).trans rfl;have hcz50_3 : w49.cell? ⟨gb101, 3, none⟩ = some (.int .i64 a0_3) := (blk_cell BK101.out 3).trans rfl;have hcz50_4 : w49.cell? ⟨gb101, 4, none⟩ = some (.int .i64 a0_4) := (blk_cell BK101.out 4).trans rfl;have hcz50_5 : w49.cell? ⟨gb101, 5, none⟩ = some (.int .i64 a0_5) := (blk_cell BK101.out 5).trans rfl;have hcz50_6 : w49.cell? ⟨gb101, 6, none⟩ = some (.slice A0_6 l0_6.length c0_6) := (blk_cell BK101.out 6).trans rfl;have hcz50_7 : w49.cell? ⟨gb101, 7, none⟩ = some (.int .i64 a0_7) := (blk_cell BK101.out 7).trans rfl;have hcz50_8 : w49.cell? ⟨gb101, 8, none⟩ = some (.int .i64 a0_8) := (blk_cell BK101.out 8).trans rfl;have hcz50_9 : w49.cell? ⟨gb101, 9, none⟩ = some (.int .i64 a0_9) := (blk_cell BK101.out 9).trans rfl;have hcz50_10 : w49.cell? ⟨gb101, 10, none⟩ = some (.int .i64 a0_10) := (blk_cell BK101.out 10).trans rfl;have hcz50_11 : w49.cell? ⟨gb101, 11, none⟩ = some (.int .i64 a0_11) := (blk_cell BK101.out 11).trans rfl;have hfz50_0 := blk_frozen BK101.out 0;have hfz50_1 := blk_frozen BK101.out 1;have hfz50_2 := blk_frozen BK101.out 2;have hfz50_3 := blk_frozen BK101.out 3;have hfz50_4 := blk_frozen BK101.out 4;have hfz50_5 := blk_frozen BK101.out 5;have hfz50_6 := blk_frozen BK101.out 6;have hfz50_7 := blk_frozen BK101.out 7;have hfz50_8 := blk_frozen BK101.out 8;have hfz50_9 := blk_frozen BK101.out 9;have hfz50_10 := blk_frozen BK101.out 10;have hfz50_11 := blk_frozen BK101.out 11;have hcz51_0 : w49.cell? ⟨gb102, 0, none⟩ = some (.string a1_0) := (blk_cell BK102.out 0).trans rfl;have hcz51_1 : w49.cell? ⟨gb102, 1, none⟩ = some (.int .i64 a1_1) := (blk_cell BK102.out 1).trans rfl;have hcz51_2 : w49.cell? ⟨gb102, 2, none⟩ = some (.int .i64 a1_2) := (blk_cell BK102.out 2).trans rfl;have hcz51_3 : w49.cell? ⟨gb102, 3, none⟩ = some (.int .i64 a1_3) := (blk_cell BK102.out 3).trans rfl;have hcz51_4 : w49.cell? ⟨gb102, 4, none⟩ = some (.int .i64 a1_4) := (blk_cell BK102.out 4).trans rfl;have hcz51_5 : w49.cell? ⟨gb102, 5, none⟩ = some (.int .i64 a1_5) := (blk_cell BK102.out 5).trans rfl;have hcz51_6 : w49.cell? ⟨gb102, 6, none⟩ = some (.slice A1_6 l1_6.length c1_6) := (blk_cell BK102.out 6).trans rfl;have hcz51_7 : w49.cell? ⟨gb102, 7, none⟩ = some (.int .i64 a1_7) := (blk_cell BK102.out 7).trans rfl;have hcz51_8 : w49.cell? ⟨gb102, 8, none⟩ = some (.int .i64 a1_8) := (blk_cell BK102.out 8).trans rfl;have hcz51_9 : w49.cell? ⟨gb102, 9, none⟩ = some (.int .i64 a1_9) := (blk_cell BK102.out 9).trans rfl;have hcz51_10 : w49.cell? ⟨gb102, 10, none⟩ = some (.int .i64 a1_10) := (blk_cell BK102.out 10).trans rfl;have hcz51_11 : w49.cell? ⟨gb102, 11, none⟩ = some (.int .i64 a1_11) := (blk_cell BK102.out 11).trans rfl;have hfz51_0 := blk_frozen BK102.out 0;have hfz51_1 := blk_frozen BK102.out 1;have hfz51_2 := blk_frozen BK102.out 2;have hfz51_3 := blk_frozen BK102.out 3;have hfz51_4 := blk_frozen BK102.out 4;have hfz51_5 := blk_frozen BK102.out 5;have hfz51_6 := blk_frozen BK102.out 6;have hfz51_7 := blk_frozen BK102.out 7;have hfz51_8 := blk_frozen BK102.out 8;have hfz51_9 := blk_frozen BK102.out 9;have hfz51_10 := blk_frozen BK102.out 10;have hfz51_11 := blk_frozen BK102.out 11))
      go_ret
      exact ⟨by first | rfl | (simp [errW_none, errW_some] <;> rfl) | (simp [*, errW_none, errW_some] <;> rfl), by repeat (first | (with_reducible first | exact HB.out | apply below_alloc | apply pw_below_drewN | apply below_drew1 | refine below_set ?_ GE101.out | refine below_set ?_ GE102.out) | exact HB.out)⟩
    ·replace c7 := Bool.eq_false_iff.mpr c7
     subst c7
     have H1 : (some false) = some r := by rw [if_neg (show ¬ (false = true) by decide)] at H;exact H
     clear H
     have H := H1
     clear H1
     obtain rfl := Option.some.inj H
     go_enter Try.func52, Try.ntmps52
     go_wp2_with (first | ((with_reducible refine gate_dst (N := 2) rfl ?_);refine box_event ?hg (N := 2) ?hd (cs := #[.string a0_0, .int .i64 a0_1, .int .i64 a0_2, .int .i64 a0_3, .int .i64 a0_4, .int .i64 a0_5, .slice A0_6 l0_6.length c0_6, .int .i64 a0_7, .int .i64 a0_8, .int .i64 a0_9, .int .i64 a0_10, .int .i64 a0_11]) (t := 39) ?hr ?_;(case hd => rfl);(case hg => rfl);(case hr => first | (go_simp;done) | (go_simp;rfl));intro gb101 hg w52 hbox hb;have n0_ := Aside0.mk (below_step (by exact HB.out) hb);have n1_ := Aside0.mk (hbox);have n2_ := Aside0.mk ((by rw [hg];exact (below_size (by exact HB.out)) : w.heap.size ≤ gb101));have n3_ := Aside0.mk ((by rw [hg];exact (below_size (by exact HB.out)) : w.heap.size ≤ gb101));clear HB;have HB := n0_;have BK101 := n1_;have GW101 := n2_;have GE101 := n3_;clear n0_ n1_ n2_ n3_;clear hb hbox hg) | ((with_reducible refine gate_dst (N := 3) rfl ?_);refine box_event ?hg (N := 3) ?hd (cs := #[.string a1_0, .int .i64 a1_1, .int .i64 a1_2, .int .i64 a1_3, .int .i64 a1_4, .int .i64 a1_5, .slice A1_6 l1_6.length c1_6, .int .i64 a1_7, .int .i64 a1_8, .int .i64 a1_9, .int .i64 a1_10, .int .i64 a1_11]) (t := 39) ?hr ?_;(case hd => rfl);(case hg => rfl);(case hr => first | (go_simp;done) | (go_simp;rfl));intro gb102 hg w53 hbox hb;have n0_ := Aside0.mk (blk_below BK101.out hb);have n1_ := Aside0.mk (below_step (by exact HB.out) hb);have n2_ := Aside0.mk (hbox);have n3_ := Aside0.mk ((by rw [hg];exact (below_size (by exact HB.out)) : w.heap.size ≤ gb102));have n4_ := Aside0.mk ((by rw [hg];exact (below_size (by exact HB.out)) : w.heap.size ≤ gb102));have n5_ := Aside0.mk ((by rw [hg];exact Nat.ne_of_lt (blk_lt BK101.out) : gb101 ≠ gb102));have n6_ := Aside0.mk ((by rw [hg];exact Nat.ne_of_gt (blk_lt BK101.out) : gb102 ≠ gb101));clear BK101;clear HB;have BK101 := n0_;have HB := n1_;have BK102 := n2_;have GW102 := n3_;have GE102 := n4_;have NB101_102 := n5_;have NB102_101 := n6_;clear n0_ n1_ n2_ n3_ n4_ n5_ n6_;clear hb hbox hg;have hnb54 := NB101_102.out;have hnc54 := NB102_101.out;have hcz55_0 : w53.cell? ⟨gb101, 0, none⟩ = some (.string a0_0) := (blk_cell BK101.out 0).trans rfl;have hcz55_1 : w53.cell? ⟨gb101, 1, none⟩ = some (.int .i64 a0_1) := (blk_cell BK101.out 1).trans rfl;have hcz55_2 : w53.cell? ⟨gb101, 2, none⟩ = some (.int .i64 a0_2) := (blk_cell BK101.out 2).trans rfl;have hcz55_3 : w53.cell? ⟨gb101, 3, none⟩ = some (.int .i64 a0_3) := (blk_cell BK101.out 3).trans rfl;have hcz55_4 : w53.cell? ⟨gb101, 4, none⟩ = some (.int .i64 a0_4) := (blk_cell BK101.out 4).trans rfl;have hcz55_5 : w53.cell? ⟨gb101, 5, none⟩ = some (.int .i64 a0_5) := (blk_cell BK101.out 5).trans rfl;have hcz55_6 : w53.cell? ⟨gb101, 6, none⟩ = some (.slice A0_6 l0_6.length c0_6) := (blk_cell BK101.out 6).trans rfl;have hcz55_7 : w53.cell? ⟨gb101, 7, none⟩ = some (.int .i64 a0_7) := (blk_cell BK101.out 7).trans rfl;have hcz55_8 : w53.cell? ⟨gb101, 8, none⟩ = some (.int .i64 a0_8) := (blk_cell BK101.out 8).trans rfl;have hcz55_9 : w53.cell? ⟨gb101, 9, none⟩ = some (.int .i64 a0_9) := (blk_cell BK101.out 9).trans rfl;have hcz55_10 : w53.cell? ⟨gb101, 10, none⟩ = some (.int .i64 a0_10) := (blk_cell BK101.out 10).trans rfl;have hcz55_11 : w53.cell? ⟨gb101, 11, none⟩ = some (.int .i64 a0_11) := (blk_cell BK101.out 11).trans rfl;have hfz55_0 := blk_frozen BK101.out 0;have hfz55_1 := blk_frozen BK101.out 1;have hfz55_2 := blk_frozen BK101.out 2;have hfz55_3 := blk_frozen BK101.out 3;have hfz55_4 := blk_frozen BK101.out 4;have hfz55_5 := blk_frozen BK101.out 5;have hfz55_6 := blk_frozen BK101.out 6;have hfz55_7 := blk_frozen BK101.out 7;have hfz55_8 := blk_frozen BK101.out 8;have hfz55_9 := blk_frozen BK101.out 9;have hfz55_10 := blk_frozen BK101.out 10;have hfz55_11 := blk_frozen BK101.out 11;have hcz56_0 : w53.cell? ⟨gb102, 0, none⟩ = some (.string a1_0) := (blk_cell BK102.out 0).trans rfl;have hcz56_1 : w53.cell? ⟨gb102, 1, none⟩ = some (.int .i64 a1_1) := (blk_cell BK102.out 1).trans rfl;have hcz56_2 : w53.cell? ⟨gb102, 2, none⟩ = some (.int .i64 a1_2) := (blk_cell BK102.out 2).trans rfl;have hcz56_3 : w53.cell? ⟨gb102, 3, none⟩ = some (.int .i64 a1_3) := (blk_cell BK102.out 3).trans rfl;have hcz56_4 : w53.cell? ⟨gb102, 4, none⟩ = some (.int .i64 a1_4) := (blk_cell BK102.out 4).trans rfl;have hcz56_5 : w53.cell? ⟨gb102, 5, none⟩ = some (.int .i64 a1_5) := (blk_cell BK102.out 5).trans rfl;have hcz56_6 : w53.cell? ⟨gb102, 6, none⟩ = some (.slice A1_6 l1_6.length c1_6) := (blk_cell BK102.out 6).trans rfl;have hcz56_7 : w53.cell? ⟨gb102, 7, none⟩ = some (.int .i64 a1_7) := (blk_cell BK102.out 7).trans rfl;have hcz56_8 : w53.cell? ⟨gb102, 8, none⟩ = some (.int .i64 a1_8) := (blk_cell BK102.out 8).trans rfl;have hcz56_9 : w53.cell? ⟨gb102, 9, none⟩ = some (.int .i64 a1_9) := (blk_cell BK102.out 9).trans rfl;have hcz56_10 : w53.cell? ⟨gb102, 10, none⟩ = some (.int .i64 a1_10) := (blk_cell BK102.out 10).trans rfl;have hcz56_11 : w53.cell? ⟨gb102, 11, none⟩ = some (.int .i64 a1_11) := (blk_cell BK102.out 11).trans rfl;have hfz56_0 := blk_frozen BK102.out 0;have hfz56_1 := blk_frozen BK102.out 1;have hfz56_2 := blk_frozen BK102.out 2;have hfz56_3 := blk_frozen BK102.out 3;have hfz56_4 := blk_frozen BK102.out 4;have hfz56_5 := blk_frozen BK102.out 5;have hfz56_6 := blk_frozen BK102.out 6;have hfz56_7 := blk_frozen BK102.out 7;have hfz56_8 := blk_frozen BK102.out 8;have hfz56_9 := blk_frozen BK102.out 9;have hfz56_10 := blk_frozen BK102.out 10;have hfz56_11 := blk_frozen BK102.out 11) | (go_at_call 53;(with_reducible refine (impl_ExSame.calls k a0_3 a0_4 a0_5 _ _ l0_6 a1_3 a1_4 a1_5 _ _ l1_6 false _ ?side1 ?side2 ?side3 ?side4 A6.out).mono ?_);(case side1 => repeat (first | exact (Kd.C_below HR0_6.out HB.out) | (with_reducible refine Kd.C_alloc ?_ _) | (with_reducible refine Kd.C_drewN ?_ _) | (with_reducible refine Kd.C_drew ?_)));(case side2 => exact HC0_6.out);(case side3 => repeat (first | exact (Kd.C_below HR1_6.out HB.out) | (with_reducible refine Kd.C_alloc ?_ _) | (with_reducible refine Kd.C_drewN ?_ _) | (with_reducible refine Kd.C_drew ?_)));(case side4 => exact HC1_6.out);rintro e w57 ⟨rfl, hb⟩;have n0_ := Aside0.mk (blk_below BK101.out hb);have n1_ := Aside0.mk (blk_below BK102.out hb);have n2_ := Aside0.mk (below_step (by exact HB.out) hb);clear BK101;clear BK102;clear HB;have BK101 := n0_;have BK102 := n1_;have HB := n2_;clear n0_ n1_ n2_;(try clear hb);(try clear hb2);(try clear hk);(try clear hi)))
     go_ret
     exact ⟨by first | rfl | (simp [errW_none, errW_some] <;> rfl) | (simp [*, errW_none, errW_some] <;> rfl), by repeat (first | (with_reducible first | exact HB.out | apply below_alloc | apply pw_below_drewN | apply below_drew1 | refine below_set ?_ GE101.out | refine below_set ?_ GE102.out) | exact HB.out)⟩
   ·rw [if_neg c5] at H
    have c5b0 : (a0_2 == a1_2) = false := beq_eq_false_iff_ne.mpr c5
    have c5b1 : (a0_2 != a1_2) = true := bne_iff_ne.mpr c5
    obtain rfl := Option.some.inj H
    go_enter Try.func52, Try.ntmps52
    go_wp2_with (first | ((with_reducible refine gate_dst (N := 2) rfl ?_);refine box_event ?hg (N := 2) ?hd (cs := #[.string a0_0, .int .i64 a0_1, .int .i64 a0_2, .int .i64 a0_3, .int .i64 a0_4, .int .i64 a0_5, .slice A0_6 l0_6.length c0_6, .int .i64 a0_7, .int .i64 a0_8, .int .i64 a0_9, .int .i64 a0_10, .int .i64 a0_11]) (t := 39) ?hr ?_;(case hd => rfl);(case hg => rfl);(case hr => first | (go_simp;done) | (go_simp;rfl));intro gb101 hg w58 hbox hb;have n0_ := Aside0.mk (below_step (by exact HB.out) hb);have n1_ := Aside0.mk (hbox);have n2_ := Aside0.mk ((by rw [hg];exact (below_size (by exact HB.out)) : w.heap.size ≤ gb101));have n3_ := Aside0.mk ((by rw [hg];exact (below_size (by exact HB.out)) : w.heap.size ≤ gb101));clear HB;have HB := n0_;have BK101 := n1_;have GW101 := n2_;have GE101 := n3_;clear n0_ n1_ n2_ n3_;clear hb hbox hg) | ((with_reducible refine gate_dst (N := 3) rfl ?_);refine box_event ?hg (N := 3) ?hd (cs := #[.string a1_0, .int .i64 a1_1, .int .i64 a1_2, .int .i64 a1_3, .int .i64 a1_4, .int .i64 a1_5, .slice A1_6 l1_6.length c1_6, .int .i64 a1_7, .int .i64 a1_8, .int .i64 a1_9, .int .i64 a1_10, .int .i64 a1_11]) (t := 39) ?hr ?_;(case hd => rfl);(case hg => rfl);(case hr => first | (go_simp;done) | (go_simp;rfl));intro gb102 hg w59 hbox hb;have n0_ := Aside0.mk (blk_below BK101.out hb);have n1_ := Aside0.mk (below_step (by exact HB.out) hb);have n2_ := Aside0.mk (hbox);have n3_ := Aside0.mk ((by rw [hg];exact (below_size (by exact HB.out)) : w.heap.size ≤ gb102));have n4_ := Aside0.mk ((by rw [hg];exact (below_size (by exact HB.out)) : w.heap.size ≤ gb102));have n5_ := Aside0.mk ((by rw [hg];exact Nat.ne_of_lt (blk_lt BK101.out) : gb101 ≠ gb102));have n6_ := Aside0.mk ((by rw [hg];exact Nat.ne_of_gt (blk_lt BK101.out) : gb102 ≠ gb101));clear BK101;clear HB;have BK101 := n0_;have HB := n1_;have BK102 := n2_;have GW102 := n3_;have GE102 := n4_;have NB101_102 := n5_;have NB102_101 := n6_;clear n0_ n1_ n2_ n3_ n4_ n5_ n6_;clear hb hbox hg;have hnb60 := NB101_102.out;have hnc60 := NB102_101.out;have hcz61_0 : w59.cell? ⟨gb101, 0, none⟩ = some (.string a0_0) := (blk_cell BK101.out 0).trans rfl;have hcz61_1 : w59.cell? ⟨gb101, 1, none⟩ = some (.int .i64 a0_1) := (blk_cell BK101.out 1).trans rfl;have hcz61_2 : w59.cell? ⟨gb101, 2, none⟩ = some (.int .i64 a0_2) := (blk_cell BK101.out 2).trans rfl;have hcz61_3 : w59.cell? ⟨gb101, 3, none⟩ = some (.int .i64 a0_3) := (blk_cell BK101.out 3).trans rfl;have hcz61_4 : w59.cell? ⟨gb101, 4, none⟩ = some (.int .i64 a0_4) := (blk_cell BK101.out 4).trans rfl;have hcz61_5 : w59.cell? ⟨gb101, 5, none⟩ = some (.int .i64 a0_5) := (blk_cell BK101.out 5).trans rfl;have hcz61_6 : w59.cell? ⟨gb101, 6, none⟩ = some (.slice A0_6 l0_6.length c0_6) := (blk_cell BK101.out 6).trans rfl;have hcz61_7 : w59.cell? ⟨gb101, 7, none⟩ = some (.int .i64 a0_7) := (blk_cell BK101.out 7).trans rfl;have hcz61_8 : w59.cell? ⟨gb101, 8, none⟩ = some (.int .i64 a0_8) := (blk_cell BK101.out 8).trans rfl;have hcz61_9 : w59.cell? ⟨gb101, 9, none⟩ = some (.int .i64 a0_9) := (blk_cell BK101.out 9).trans rfl;have hcz61_10 : w59.cell? ⟨gb101, 10, none⟩ = some (.int .i64 a0_10) := (blk_cell BK101.out 10).trans rfl;have hcz61_11 : w59.cell? ⟨gb101, 11, none⟩ = some (.int .i64 a0_11) := (blk_cell BK101.out 11).trans rfl;have hfz61_0 := blk_frozen BK101.out 0;have hfz61_1 := blk_frozen BK101.out 1;have hfz61_2 := blk_frozen BK101.out 2;have hfz61_3 := blk_frozen BK101.out 3;have hfz61_4 := blk_frozen BK101.out 4;have hfz61_5 := blk_frozen BK101.out 5;have hfz61_6 := blk_frozen BK101.out 6;have hfz61_7 := blk_frozen BK101.out 7;have hfz61_8 := blk_frozen BK101.out 8;have hfz61_9 := blk_frozen BK101.out 9;have hfz61_10 := blk_frozen BK101.out 10;have hfz61_11 := blk_frozen BK101.out 11;have hcz62_0 : w59.cell? ⟨gb102, 0, none⟩ = some (.string a1_0) := (blk_cell BK102.out 0).trans rfl;have hcz62_1 : w59.cell? ⟨gb102, 1, none⟩ = some (.int .i64 a1_1) := (blk_cell BK102.out 1).trans rfl;have hcz62_2 : w59.cell? ⟨gb102, 2, none⟩ = some (.int .i64 a1_2) := (blk_cell BK102.out 2).trans rfl;have hcz62_3 : w59.cell? ⟨gb102, 3, none⟩ = some (.int .i64 a1_3) := (blk_cell BK102.out 3).trans rfl;have hcz62_4 : w59.cell? ⟨gb102, 4, none⟩ = some (.int .i64 a1_4) := (blk_cell BK102.out 4).trans rfl;have hcz62_5 : w59.cell? ⟨gb102, 5, none⟩ = some (.int .i64 a1_5) := (blk_cell BK102.out 5).trans rfl;have hcz62_6 : w59.cell? ⟨gb102, 6, none⟩ = some (.slice A1_6 l1_6.length c1_6) := (blk_cell BK102.out 6).trans rfl;have hcz62_7 : w59.cell? ⟨gb102, 7, none⟩ = some (.int .i64 a1_7) := (blk_cell BK102.out 7).trans rfl;have hcz62_8 : w59.cell? ⟨gb102, 8, none⟩ = some (.int .i64 a1_8) := (blk_cell BK102.out 8).trans rfl;have hcz62_9 : w59.cell? ⟨gb102, 9, none⟩ = some (.int .i64 a1_9) := (blk_cell BK102.out 9).trans rfl;have hcz62_10 : w59.cell? ⟨gb102, 10, none⟩ = some (.int .i64 a1_10) := (blk_cell BK102.out 10).trans rfl;have hcz62_11 : w59.cell? ⟨gb102, 11, none⟩ = some (.int .i64 a1_11) := (blk_cell BK102.out 11).trans rfl;have hfz62_0 := blk_frozen BK102.out 0;have hfz62_1 := blk_frozen BK102.out 1;have hfz62_2 := blk_frozen BK102.out 2;have hfz62_3 := blk_frozen BK102.out 3;have hfz62_4 := blk_frozen BK102.out 4;have hfz62_5 := blk_frozen BK102.out 5;have hfz62_6 := blk_frozen BK102.out 6;have hfz62_7 := blk_frozen BK102.out 7;have hfz62_8 := blk_frozen BK102.out 8;have hfz62_9 := blk_frozen BK102.out 9;have hfz62_10 := blk_frozen BK102.out 10;have hfz62_11 := blk_frozen BK102.out 11))
    go_ret
    exact ⟨by first | rfl | (simp [errW_none, errW_some] <;> rfl) | (simp [*, errW_none, errW_some] <;> rfl), by repeat (first | (with_reducible first | exact HB.out | apply below_alloc | apply pw_below_drewN | apply below_drew1 | refine below_set ?_ GE101.out | refine below_set ?_ GE102.out) | exact HB.out)⟩
  ·rw [if_neg c4] at H
   have c4b0 : (a0_1 == a1_1) = false := beq_eq_false_iff_ne.mpr c4
   have c4b1 : (a0_1 != a1_1) = true := bne_iff_ne.mpr c4
   obtain rfl := Option.some.inj H
   go_enter Try.func52, Try.ntmps52
   go_wp2_with (first | ((with_reducible refine gate_dst (N := 2) rfl ?_);refine box_event ?hg (N := 2) ?hd (cs := #[.string a0_0, .int .i64 a0_1, .int .i64 a0_2, .int .i64 a0_3, .int .i64 a0_4, .int .i64 a0_5, .slice A0_6 l0_6.length c0_6, .int .i64 a0_7, .int .i64 a0_8, .int .i64 a0_9, .int .i64 a0_10, .int .i64 a0_11]) (t := 39) ?hr ?_;(case hd => rfl);(case hg => rfl);(case hr => first | (go_simp;done) | (go_simp;rfl));intro gb101 hg w63 hbox hb;have n0_ := Aside0.mk (below_step (by exact HB.out) hb);have n1_ := Aside0.mk (hbox);have n2_ := Aside0.mk ((by rw [hg];exact (below_size (by exact HB.out)) : w.heap.size ≤ gb101));have n3_ := Aside0.mk ((by rw [hg];exact (below_size (by exact HB.out)) : w.heap.size ≤ gb101));clear HB;have HB := n0_;have BK101 := n1_;have GW101 := n2_;have GE101 := n3_;clear n0_ n1_ n2_ n3_;clear hb hbox hg) | ((with_reducible refine gate_dst (N := 3) rfl ?_);refine box_event ?hg (N := 3) ?hd (cs := #[.string a1_0, .int .i64 a1_1, .int .i64 a1_2, .int .i64 a1_3, .int .i64 a1_4, .int .i64 a1_5, .slice A1_6 l1_6.length c1_6, .int .i64 a1_7, .int .i64 a1_8, .int .i64 a1_9, .int .i64 a1_10, .int .i64 a1_11]) (t := 39) ?hr ?_;(case hd => rfl);(case hg => rfl);(case hr => first | (go_simp;done) | (go_simp;rfl));intro gb102 hg w64 hbox hb;have n0_ := Aside0.mk (blk_below BK101.out hb);have n1_ := Aside0.mk (below_step (by exact HB.out) hb);have n2_ := Aside0.mk (hbox);have n3_ := Aside0.mk ((by rw [hg];exact (below_size (by exact HB.out)) : w.heap.size ≤ gb102));have n4_ := Aside0.mk ((by rw [hg];exact (below_size (by exact HB.out)) : w.heap.size ≤ gb102));have n5_ := Aside0.mk ((by rw [hg];exact Nat.ne_of_lt (blk_lt BK101.out) : gb101 ≠ gb102));have n6_ := Aside0.mk ((by rw [hg];exact Nat.ne_of_gt (blk_lt BK101.out) : gb102 ≠ gb101));clear BK101;clear HB;have BK101 := n0_;have HB := n1_;have BK102 := n2_;have GW102 := n3_;have GE102 := n4_;have NB101_102 := n5_;have NB102_101 := n6_;clear n0_ n1_ n2_ n3_ n4_ n5_ n6_;clear hb hbox hg;have hnb65 := NB101_102.out;have hnc65 := NB102_101.out;have hcz66_0 : w64.cell? ⟨gb101, 0, none⟩ = some (.string a0_0) := (blk_cell BK101.out 0).trans rfl;have hcz66_1 : w64.cell? ⟨gb101, 1, none⟩ = some (.int .i64 a0_1) := (blk_cell BK101.out 1).trans rfl;have hcz66_2 : w64.cell? ⟨gb101, 2, none⟩ = some (.int .i64 a0_2) := (blk_cell BK101.out 2).trans rfl;have hcz66_3 : w64.cell? ⟨gb101, 3, none⟩ = some (.int .i64 a0_3) := (blk_cell BK101.out 3).trans rfl;have hcz66_4 : w64.cell? ⟨gb101, 4, none⟩ = some (.int .i64 a0_4) := (blk_cell BK101.out 4).trans rfl;have hcz66_5 : w64.cell? ⟨gb101, 5, none⟩ = some (.int .i64 a0_5) := (blk_cell BK101.out 5).trans rfl;have hcz66_6 : w64.cell? ⟨gb101, 6, none⟩ = some (.slice A0_6 l0_6.length c0_6) := (blk_cell BK101.out 6).trans rfl;have hcz66_7 : w64.cell? ⟨gb101, 7, none⟩ = some (.int .i64 a0_7) := (blk_cell BK101.out 7).trans rfl;have hcz66_8 : w64.cell? ⟨gb101, 8, none⟩ = some (.int .i64 a0_8) := (blk_cell BK101.out 8).trans rfl;have hcz66_9 : w64.cell? ⟨gb101, 9, none⟩ = some (.int .i64 a0_9) := (blk_cell BK101.out 9).trans rfl;have hcz66_10 : w64.cell? ⟨gb101, 10, none⟩ = some (.int .i64 a0_10) := (blk_cell BK101.out 10).trans rfl;have hcz66_11 : w64.cell? ⟨gb101, 11, none⟩ = some (.int .i64 a0_11) := (blk_cell BK101.out 11).trans rfl;have hfz66_0 := blk_frozen BK101.out 0;have hfz66_1 := blk_frozen BK101.out 1;have hfz66_2 := blk_frozen BK101.out 2;have hfz66_3 := blk_frozen BK101.out 3;have hfz66_4 := blk_frozen BK101.out 4;have hfz66_5 := blk_frozen BK101.out 5;have hfz66_6 := blk_frozen BK101.out 6;have hfz66_7 := blk_frozen BK101.out 7;have hfz66_8 := blk_frozen BK101.out 8;have hfz66_9 := blk_frozen BK101.out 9;have hfz66_10 := blk_frozen BK101.out 10;have hfz66_11 := blk_frozen BK101.out 11;have hcz67_0 : w64.cell? ⟨gb102, 0, none⟩ = some (.string a1_0) := (blk_cell BK102.out 0).trans rfl;have hcz67_1 : w64.cell? ⟨gb102, 1, none⟩ = some (.int .i64 a1_1) := (blk_cell BK102.out 1).trans rfl;have hcz67_2 : w64.cell? ⟨gb102, 2, none⟩ = some (.int .i64 a1_2) := (blk_cell BK102.out 2).trans rfl;have hcz67_3 : w64.cell? ⟨gb102, 3, none⟩ = some (.int .i64 a1_3) := (blk_cell BK102.out 3).trans rfl;have hcz67_4 : w64.cell? ⟨gb102, 4, none⟩ = some (.int .i64 a1_4) := (blk_cell BK102.out 4).trans rfl;have hcz67_5 : w64.cell? ⟨gb102, 5, none⟩ = some (.int .i64 a1_5) := (blk_cell BK102.out 5).trans rfl;have hcz67_6 : w64.cell? ⟨gb102, 6, none⟩ = some (.slice A1_6 l1_6.length c1_6) := (blk_cell BK102.out 6).trans rfl;have hcz67_7 : w64.cell? ⟨gb102, 7, none⟩ = some (.int .i64 a1_7) := (blk_cell BK102.out 7).trans rfl;have hcz67_8 : w64.cell? ⟨gb102, 8, none⟩ = some (.int .i64 a1_8) := (blk_cell BK102.out 8).trans rfl;have hcz67_9 : w64.cell? ⟨gb102, 9, none⟩ = some (.int .i64 a1_9) := (blk_cell BK102.out 9).trans rfl;have hcz67_10 : w64.cell? ⟨gb102, 10, none⟩ = some (.int .i64 a1_10) := (blk_cell BK102.out 10).trans rfl;have hcz67_11 : w64.cell? ⟨gb102, 11, none⟩ = some (.int .i64 a1_11) := (blk_cell BK102.out 11).trans rfl;have hfz67_0 := blk_frozen BK102.out 0;have hfz67_1 := blk_frozen BK102.out 1;have hfz67_2 := blk_frozen BK102.out 2;have hfz67_3 := blk_frozen BK102.out 3;have hfz67_4 := blk_frozen BK102.out 4;have hfz67_5 := blk_frozen BK102.out 5;have hfz67_6 := blk_frozen BK102.out 6;have hfz67_7 := blk_frozen BK102.out 7;have hfz67_8 := blk_frozen BK102.out 8;have hfz67_9 := blk_frozen BK102.out 9;have hfz67_10 := blk_frozen BK102.out 10;have hfz67_11 := blk_frozen BK102.out 11))
   go_ret
   exact ⟨by first | rfl | (simp [errW_none, errW_some] <;> rfl) | (simp [*, errW_none, errW_some] <;> rfl), by repeat (first | (with_reducible first | exact HB.out | apply below_alloc | apply pw_below_drewN | apply below_drew1 | refine below_set ?_ GE101.out | refine below_set ?_ GE102.out) | exact HB.out)⟩
 ·rw [if_neg c3] at H
  have c3b0 : (a0_0.toList == a1_0.toList) = false := beq_eq_false_iff_ne.mpr c3
  have c3b1 : (a0_0.toList != a1_0.toList) = true := bne_iff_ne.mpr c3
  obtain rfl := Option.some.inj H
  go_enter Try.func52, Try.ntmps52
  go_wp2_with (first | ((with_reducible refine gate_dst (N := 2) rfl ?_);refine box_event ?hg (N := 2) ?hd (cs := #[.string a0_0, .int .i64 a0_1, .int .i64 a0_2, .int .i64 a0_3, .int .i64 a0_4, .int .i64 a0_5, .slice A0_6 l0_6.length c0_6, .int .i64 a0_7, .int .i64 a0_8, .int .i64 a0_9, .int .i64 a0_10, .int .i64 a0_11]) (t := 39) ?hr ?_;(case hd => rfl);(case hg => rfl);(case hr => first | (go_simp;done) | (go_simp;rfl));intro gb101 hg w68 hbox hb;have n0_ := Aside0.mk (below_step (by exact HB.out) hb);have n1_ := Aside0.mk (hbox);have n2_ := Aside0.mk ((by rw [hg];exact (below_size (by exact HB.out)) : w.heap.size ≤ gb101));have n3_ := Aside0.mk ((by rw [hg];exact (below_size (by exact HB.out)) : w.heap.size ≤ gb101));clear HB;have HB := n0_;have BK101 := n1_;have GW101 := n2_;have GE101 := n3_;clear n0_ n1_ n2_ n3_;clear hb hbox hg) | ((with_reducible refine gate_dst (N := 3) rfl ?_);refine box_event ?hg (N := 3) ?hd (cs := #[.string a1_0, .int .i64 a1_1, .int .i64 a1_2, .int .i64 a1_3, .int .i64 a1_4, .int .i64 a1_5, .slice A1_6 l1_6.length c1_6, .int .i64 a1_7, .int .i64 a1_8, .int .i64 a1_9, .int .i64 a1_10, .int .i64 a1_11]) (t := 39) ?hr ?_;(case hd => rfl);(case hg => rfl);(case hr => first | (go_simp;done) | (go_simp;rfl));intro gb102 hg w69 hbox hb;have n0_ := Aside0.mk (blk_below BK101.out hb);have n1_ := Aside0.mk (below_step (by exact HB.out) hb);have n2_ := Aside0.mk (hbox);have n3_ := Aside0.mk ((by rw [hg];exact (below_size (by exact HB.out)) : w.heap.size ≤ gb102));have n4_ := Aside0.mk ((by rw [hg];exact (below_size (by exact HB.out)) : w.heap.size ≤ gb102));have n5_ := Aside0.mk ((by rw [hg];exact Nat.ne_of_lt (blk_lt BK101.out) : gb101 ≠ gb102));have n6_ := Aside0.mk ((by rw [hg];exact Nat.ne_of_gt (blk_lt BK101.out) : gb102 ≠ gb101));clear BK101;clear HB;have BK101 := n0_;have HB := n1_;have BK102 := n2_;have GW102 := n3_;have GE102 := n4_;have NB101_102 := n5_;have NB102_101 := n6_;clear n0_ n1_ n2_ n3_ n4_ n5_ n6_;clear hb hbox hg;have hnb70 := NB101_102.out;have hnc70 := NB102_101.out;have hcz71_0 : w69.cell? ⟨gb101, 0, none⟩ = some (.string a0_0) := (blk_cell BK101.out 0).trans rfl;have hcz71_1 : w69.cell? ⟨gb101, 1, none⟩ = some (.int .i64 a0_1) := (blk_cell BK101.out 1).trans rfl;have hcz71_2 : w69.cell? ⟨gb101, 2, none⟩ = some (.int .i64 a0_2) := (blk_cell BK101.out 2).trans rfl;have hcz71_3 : w69.cell? ⟨gb101, 3, none⟩ = some (.int .i64 a0_3) := (blk_cell BK101.out 3).trans rfl;have hcz71_4 : w69.cell? ⟨gb101, 4, none⟩ = some (.int .i64 a0_4) := (blk_cell BK101.out 4).trans rfl;have hcz71_5 : w69.cell? ⟨gb101, 5, none⟩ = some (.int .i64 a0_5) := (blk_cell BK101.out 5).trans rfl;have hcz71_6 : w69.cell? ⟨gb101, 6, none⟩ = some (.slice A0_6 l0_6.length c0_6) := (blk_cell BK101.out 6).trans rfl;have hcz71_7 : w69.cell? ⟨gb101, 7, none⟩ = some (.int .i64 a0_7) := (blk_cell BK101.out 7).trans rfl;have hcz71_8 : w69.cell? ⟨gb101, 8, none⟩ = some (.int .i64 a0_8) := (blk_cell BK101.out 8).trans rfl;have hcz71_9 : w69.cell? ⟨gb101, 9, none⟩ = some (.int .i64 a0_9) := (blk_cell BK101.out 9).trans rfl;have hcz71_10 : w69.cell? ⟨gb101, 10, none⟩ = some (.int .i64 a0_10) := (blk_cell BK101.out 10).trans rfl;have hcz71_11 : w69.cell? ⟨gb101, 11, none⟩ = some (.int .i64 a0_11) := (blk_cell BK101.out 11).trans rfl;have hfz71_0 := blk_frozen BK101.out 0;have hfz71_1 := blk_frozen BK101.out 1;have hfz71_2 := blk_frozen BK101.out 2;have hfz71_3 := blk_frozen BK101.out 3;have hfz71_4 := blk_frozen BK101.out 4;have hfz71_5 := blk_frozen BK101.out 5;have hfz71_6 := blk_frozen BK101.out 6;have hfz71_7 := blk_frozen BK101.out 7;have hfz71_8 := blk_frozen BK101.out 8;have hfz71_9 := blk_frozen BK101.out 9;have hfz71_10 := blk_frozen BK101.out 10;have hfz71_11 := blk_frozen BK101.out 11;have hcz72_0 : w69.cell? ⟨gb102, 0, none⟩ = some (.string a1_0) := (blk_cell BK102.out 0).trans rfl;have hcz72_1 : w69.cell? ⟨gb102, 1, none⟩ = some (.int .i64 a1_1) := (blk_cell BK102.out 1).trans rfl;have hcz72_2 : w69.cell? ⟨gb102, 2, none⟩ = some (.int .i64 a1_2) := (blk_cell BK102.out 2).trans rfl;have hcz72_3 : w69.cell? ⟨gb102, 3, none⟩ = some (.int .i64 a1_3) := (blk_cell BK102.out 3).trans rfl;have hcz72_4 : w69.cell? ⟨gb102, 4, none⟩ = some (.int .i64 a1_4) := (blk_cell BK102.out 4).trans rfl;have hcz72_5 : w69.cell? ⟨gb102, 5, none⟩ = some (.int .i64 a1_5) := (blk_cell BK102.out 5).trans rfl;have hcz72_6 : w69.cell? ⟨gb102, 6, none⟩ = some (.slice A1_6 l1_6.length c1_6) := (blk_cell BK102.out 6).trans rfl;have hcz72_7 : w69.cell? ⟨gb102, 7, none⟩ = some (.int .i64 a1_7) := (blk_cell BK102.out 7).trans rfl;have hcz72_8 : w69.cell? ⟨gb102, 8, none⟩ = some (.int .i64 a1_8) := (blk_cell BK102.out 8).trans rfl;have hcz72_9 : w69.cell? ⟨gb102, 9, none⟩ = some (.int .i64 a1_9) := (blk_cell BK102.out 9).trans rfl;have hcz72_10 : w69.cell? ⟨gb102, 10, none⟩ = some (.int .i64 a1_10) := (blk_cell BK102.out 10).trans rfl;have hcz72_11 : w69.cell? ⟨gb102, 11, none⟩ = some (.int .i64 a1_11) := (blk_cell BK102.out 11).trans rfl;have hfz72_0 := blk_frozen BK102.out 0;have hfz72_1 := blk_frozen BK102.out 1;have hfz72_2 := blk_frozen BK102.out 2;have hfz72_3 := blk_frozen BK102.out 3;have hfz72_4 := blk_frozen BK102.out 4;have hfz72_5 := blk_frozen BK102.out 5;have hfz72_6 := blk_frozen BK102.out 6;have hfz72_7 := blk_frozen BK102.out 7;have hfz72_8 := blk_frozen BK102.out 8;have hfz72_9 := blk_frozen BK102.out 9;have hfz72_10 := blk_frozen BK102.out 10;have hfz72_11 := blk_frozen BK102.out 11))
  go_ret
  exact ⟨by first | rfl | (simp [errW_none, errW_some] <;> rfl) | (simp [*, errW_none, errW_some] <;> rfl), by repeat (first | (with_reducible first | exact HB.out | apply below_alloc | apply pw_below_drewN | apply below_drew1 | refine below_set ?_ GE101.out | refine below_set ?_ GE102.out) | exact HB.out)⟩

end Go.Proofs.Ytdljhokealbnnaa.M
namespace Go.Proofs.Ytdljhokealbnnaa.M
set_option linter.unusedVariables false
set_option linter.unusedSimpArgs false
open Go.RowKit Go.Proofs.YtdljhokealbnnaaW.PrintWords Go.Proofs.YtdljhokealbnnaaW.PrintLast

def allR (x : S32) : Nat := x.f0.size + allX x.f3
def cvR (x : S32) : S39 := ⟨x.f0, x.f1, x.f2, cvX x.f3, x.f4, x.f5, x.f6, x.f7, x.f8⟩
theorem szRule_ev (x : S32) (h : good32 x) (a : Int) (h0 : 0 ≤ a) (h1 : a ≤ 1048576) : Ev (fun k => laws_szRule.f k x.f0 x.f1 x.f2 x.f3.f0 x.f3.f1 x.f3.f2 x.f3.f3 x.f4 x.f5 x.f6 x.f7 x.f8 a) (leftOf a (allR x)) := by
  unfold laws_szRule.f allR
  exact left_own (f := fun t k => (laws_szEx.f k x.f3.f0 x.f3.f1 x.f3.f2 x.f3.f3 t).bind fun t => if t < 0 then some (-1) else some t) h0 h1 (maxLen_le h.1) (fun hm => left_last (by omega) (szEx_ev x.f3 h.2.2.2.1 _ (by omega) (by omega)))
theorem toRule_ev (x : S32) (h : allR x ≤ 1048576) : Ev (fun k => laws_toRule.f k x.f0 x.f1 x.f2 x.f3.f0 x.f3.f1 x.f3.f2 x.f3.f3 x.f4 x.f5 x.f6 x.f7 x.f8) (x.f0, x.f1, x.f2, (cvX x.f3).f0, (cvX x.f3).f1, (cvX x.f3).f2, (cvX x.f3).f3, x.f4, x.f5, x.f6, x.f7, x.f8) := by
  unfold laws_toRule.f
  unfold allR at h
  exact Ev.bindS (toEx_ev x.f3 (by omega)) rfl
theorem eqRule_ev (x : S32) (h : allR x ≤ 1048576) : Ev (fun k => laws_eqRule.f k x.f0 x.f1 x.f2 (cvX x.f3).f0 (cvX x.f3).f1 (cvX x.f3).f2 (cvX x.f3).f3 x.f4 x.f5 x.f6 x.f7 x.f8 x.f0 x.f1 x.f2 (cvX x.f3).f0 (cvX x.f3).f1 (cvX x.f3).f2 (cvX x.f3).f3 x.f4 x.f5 x.f6 x.f7 x.f8) true := by
  unfold laws_eqRule.f
  unfold allR at h
  have e := eqEx_ev (cvX x.f3) (by rw [allY_cv]; omega)
  exact Ev.pos rfl (Ev.pos rfl (Ev.pos rfl (Ev.bind e (Ev.pos rfl (Ev.pos rfl (Ev.pos rfl (Ev.pos rfl (Ev.pos rfl (Ev.pos rfl (Ev.now _))))))))))
theorem eta_I (x : S37) : (⟨x.f0, x.f1, x.f2, x.f3⟩ : S37) = x := by cases x; rfl
def allQ (x : S39) : Nat := allY x.f3
theorem allQ_cv (x : S32) : allQ (cvR x) ≤ allR x := by
  show allY (cvX x.f3) ≤ x.f0.size + allX x.f3
  rw [allY_cv]
  omega
theorem sameRule_ev (a b : S39) (h : allQ a ≤ 1048576) : ∃ v, Ev (fun k => spec_l8Same.f k a.f0 a.f1 a.f2 a.f3.f0 a.f3.f1 a.f3.f2 a.f3.f3 a.f4 a.f5 a.f6 a.f7 a.f8 b.f0 b.f1 b.f2 b.f3.f0 b.f3.f1 b.f3.f2 b.f3.f3 b.f4 b.f5 b.f6 b.f7 b.f8) v ∧ Ev (fun k => impl_RulesSame_1.f k a.f0 a.f1 a.f2 a.f3.f0 a.f3.f1 a.f3.f2 a.f3.f3 a.f4 a.f5 a.f6 a.f7 a.f8 b.f0 b.f1 b.f2 b.f3.f0 b.f3.f1 b.f3.f2 b.f3.f3 b.f4 b.f5 b.f6 b.f7 b.f8) v := by
  obtain ⟨v, h1, h2⟩ := same_ev a.f3 h b.f3
  unfold spec_l8Same.f impl_RulesSame_1.f
  by_cases c0 : a.f0.toList = b.f0.toList
  · by_cases c1 : a.f1 = b.f1
    · by_cases c2 : a.f2 = b.f2
      · have both : ∀ r : Option Bool, (∃ u, r = some u) → ∃ u, Ev (fun k => (spec_ExSame.f k a.f3.f0 a.f3.f1 a.f3.f2 a.f3.f3 b.f3.f0 b.f3.f1 b.f3.f2 b.f3.f3).bind fun t => if t = true then r else some false) u ∧ Ev (fun k => (impl_ExSame.f k a.f3.f0 a.f3.f1 a.f3.f2 a.f3.f3 b.f3.f0 b.f3.f1 b.f3.f2 b.f3.f3).bind fun t => if t = true then r else some false) u := by
          rintro r ⟨u, rfl⟩
          cases v with
          | true => exact ⟨u, Ev.bindS h1 rfl, Ev.bindS h2 rfl⟩
          | false => exact ⟨false, Ev.bindS h1 rfl, Ev.bindS h2 rfl⟩
        obtain ⟨u, h3, h4⟩ := both (if a.f4 = b.f4 then (if a.f5 = b.f5 then (if a.f6 = b.f6 then (if a.f7 = b.f7 then (some (a.f8 == b.f8)) else (some false)) else (some false)) else (some false)) else (some false)) (by (repeat' split) <;> exact ⟨_, rfl⟩)
        exact ⟨u, Ev.pos c0 (Ev.pos c1 (Ev.pos c2 h3)), Ev.pos c0 (Ev.pos c1 (Ev.pos c2 h4))⟩
      · exact ⟨false, Ev.pos c0 (Ev.pos c1 (Ev.neg c2 (Ev.now _))), Ev.pos c0 (Ev.pos c1 (Ev.neg c2 (Ev.now _)))⟩
    · exact ⟨false, Ev.pos c0 (Ev.neg c1 (Ev.now _)), Ev.pos c0 (Ev.neg c1 (Ev.now _))⟩
  · exact ⟨false, Ev.neg c0 (Ev.now _), Ev.neg c0 (Ev.now _)⟩
end Go.Proofs.Ytdljhokealbnnaa.M
namespace Go.Proofs.Ytdljhokealbnnaa.M
set_option linter.unusedVariables false
set_option linter.unusedSimpArgs false
open Go.RowKit Go.Proofs.YtdljhokealbnnaaW.PrintWords Go.Proofs.YtdljhokealbnnaaW.PrintLast

mutual
def manyY : S37 → Nat
  | ⟨_, _, _, l⟩ => 1 + manysY l
def manysY : List S37 → Nat
  | [] => 0
  | x :: xs => manyY x + manysY xs
end
mutual
def deepY : S37 → Nat
  | ⟨_, _, _, l⟩ => 1 + deepsY l
def deepsY : List S37 → Nat
  | [] => 0
  | x :: xs => max (deepY x) (deepsY xs)
end
def kidsOf (a : Int) : Int := if a = 1 then 0 else if a = 7 then 1 else if a = 2 ∨ a = 3 ∨ a = 4 then 2 else if a = 5 ∨ a = 6 then 3 else -1
def okN (a b c : Int) (n : Nat) : Bool := decide (kidsOf a = n) && (if a = 1 then decide (0 ≤ b ∧ b ≤ 4) else decide (b = 0)) && (if a = 7 then decide (1 ≤ c ∧ c ≤ 20) else decide (c = 0))
mutual
def fmY : S37 → Bool
  | ⟨a, b, c, l⟩ => okN a b c l.length && fmsY l
def fmsY : List S37 → Bool
  | [] => true
  | x :: xs => fmY x && fmsY xs
end
theorem manyY_is (x : S37) : manyY x = 1 + manysY x.f3 := by cases x; simp [manyY]
theorem manysY_nil : manysY [] = 0 := by simp [manysY]
theorem manysY_cons (x : S37) (l : List S37) : manysY (x :: l) = manyY x + manysY l := by simp [manysY]
theorem deepY_is (x : S37) : deepY x = 1 + deepsY x.f3 := by cases x; simp [deepY]
theorem deepsY_nil : deepsY [] = 0 := by simp [deepsY]
theorem deepsY_cons (x : S37) (l : List S37) : deepsY (x :: l) = max (deepY x) (deepsY l) := by simp [deepsY]
theorem fmY_is (x : S37) : fmY x = (okN x.f0 x.f1 x.f2 x.f3.length && fmsY x.f3) := by cases x; simp [fmY]
theorem fmsY_nil : fmsY [] = true := by simp [fmsY]
theorem fmsY_cons (x : S37) (l : List S37) : fmsY (x :: l) = (fmY x && fmsY l) := by simp [fmsY]
theorem manysY_all (l : List S37) (h : ∀ x ∈ l, manyY x = 1 + allY x) : manysY l = l.length + kidsY l := by
  induction l with
  | nil => simp [manysY_nil, kidsY_nil]
  | cons x l ih => rw [manysY_cons, kidsY_cons, h x (by simp), ih (fun y hy => h y (by simp [hy]))]; simp; omega
theorem manyY_all : ∀ x : S37, manyY x = 1 + allY x := by
  refine indI (fun x ih => ?_)
  rw [manyY_is, allY_is, manysY_all _ ih]
theorem deepsY_le (l : List S37) (h : ∀ x ∈ l, deepY x ≤ manyY x) : deepsY l ≤ manysY l := by
  induction l with
  | nil => simp [deepsY_nil, manysY_nil]
  | cons x l ih =>
    have h1 := h x (by simp)
    have h2 := ih (fun y hy => h y (by simp [hy]))
    rw [manysY_cons, deepsY_cons]
    omega
theorem deepY_le : ∀ x : S37, deepY x ≤ manyY x := by
  refine indI (fun x ih => ?_)
  have := deepsY_le _ ih
  rw [manyY_is, deepY_is]
  omega
theorem deepsY_le' (l : List S37) : deepsY l ≤ manysY l := deepsY_le l (fun x _ => deepY_le x)
theorem manysY_drop (l : List S37) (n : Nat) : manysY (l.drop n) ≤ manysY l := by
  induction l generalizing n with
  | nil => simp
  | cons x l ih =>
    cases n with
    | zero => simp
    | succ n => rw [List.drop_succ_cons, manysY_cons]; have := ih n; omega

def SizeOk (x : S37) : Prop := Ev (fun k => impl_Ex_size.f k x.f0 x.f1 x.f2 x.f3) ((manyY x : Int), (deepY x : Int))
theorem size_l0_ev (l : List S37) (hl : l.length ≤ 1048576) (hm : manysY l ≤ 1048577) (hs : ∀ x ∈ l, SizeOk x) : ∀ (d n m p : Nat), n + d = l.length → 1 ≤ m → 1 ≤ p → p ≤ 1048579 → m + manysY (l.drop n) ≤ 1048579 → Ev (fun k => impl_Ex_size.l0 k (m : Int) (p : Int) l (l.length : Int) (n : Int)) (((m + manysY (l.drop n) : Nat) : Int), ((max p (1 + deepsY (l.drop n)) : Nat) : Int)) := by
  intro d
  induction d with
  | zero =>
    intro n m p hn h0 h1 h2 h3
    rw [List.drop_of_length_le (by omega), manysY_nil, deepsY_nil]
    refine Ev.last (fun k => by simp only [impl_Ex_size.l0]; rw [if_neg (by omega)]; rw [Nat.max_eq_left (by omega)]; rfl)
  | succ d ih =>
    intro n m p hn h0 h1 h2 h3
    have hx : SizeOk l[n] := hs _ (List.getElem_mem _)
    have hd := List.drop_eq_getElem_cons (l := l) (i := n) (by omega)
    rw [hd, manysY_cons] at h3
    rw [hd, manysY_cons, deepsY_cons]
    have hp := deepY_le l[n]
    have e1 : wrap64 ((m : Int) + (manyY l[n] : Int)) = ((m + manyY l[n] : Nat) : Int) := by rw [w_small (by omega) (by omega)]; omega
    have e2 : mx (p : Int) (wrap64 ((deepY l[n] : Int) + 1)) = ((max p (1 + deepY l[n]) : Nat) : Int) := by rw [w_small (by omega) (by omega)]; unfold mx; omega
    refine Ev.step (fun k => by simp only [impl_Ex_size.l0]; rw [if_pos (by omega), if_pos (by omega), if_pos (by omega), rdI l n (by omega), w_succ (by omega)]) ?_
    refine Ev.bind hx ?_
    simp only [e1, e2]
    refine Ev.val (ih (n + 1) (m + manyY l[n]) (max p (1 + deepY l[n])) (by omega) (by omega) (by omega) (by omega) (by omega)) ?_
    refine Prod.ext ?_ ?_
    · show ((_ : Nat) : Int) = ((_ : Nat) : Int)
      congr 1
      omega
    · show ((_ : Nat) : Int) = ((_ : Nat) : Int)
      congr 1
      omega
theorem size_ev : ∀ x : S37, allY x ≤ 1048576 → SizeOk x := by
  refine indI (fun x ih g => ?_)
  have hk : ∀ y ∈ x.f3, SizeOk y := fun y hy => ih y hy (by have := allY_mem hy; omega)
  have hl : x.f3.length ≤ 1048576 := by have := allY_len (x := x); omega
  have hm : manysY x.f3 ≤ 1048577 := by have h1 := manyY_all x; have h2 := manyY_is x; omega
  unfold SizeOk
  refine Ev.step (fun k => by simp only [impl_Ex_size.f]; rfl) ?_
  refine Ev.val (size_l0_ev x.f3 hl hm hk x.f3.length 0 1 1 (by omega) (by omega) (by omega) (by omega) (by rw [List.drop_zero]; omega)) ?_
  rw [List.drop_zero, manyY_is, deepY_is]
  refine Prod.ext rfl ?_
  show ((_ : Nat) : Int) = ((_ : Nat) : Int)
  congr 1
  omega

def ManyOk (x : S37) : Prop := ∀ d : Nat, d ≤ 100 → deepY x ≤ d + 1 → Ev (fun k => spec_l2Many.f k x.f0 x.f1 x.f2 x.f3 (d : Int)) (manyY x : Int)
theorem many_l0_ev (l : List S37) (hl : l.length ≤ 1048576) (hs : ∀ x ∈ l, ManyOk x) (a b c : Int) (e : Nat) (he : e ≤ 100) : ∀ (d n m : Nat), n + d = l.length → deepsY (l.drop n) ≤ e → m + manysY (l.drop n) ≤ 1048579 → Ev (fun k => spec_l2Many.l0 k (e : Int) (m : Int) (n : Int) a b c l) ((m + manysY (l.drop n) : Nat) : Int) := by
  intro d
  induction d with
  | zero =>
    intro n m hn h1 h3
    rw [List.drop_of_length_le (by omega), manysY_nil]
    refine Ev.last (fun k => by simp only [spec_l2Many.l0]; rw [if_neg (by omega)]; rfl)
  | succ d ih =>
    intro n m hn h1 h3
    have hx : ManyOk l[n] := hs _ (List.getElem_mem _)
    have hd := List.drop_eq_getElem_cons (l := l) (i := n) (by omega)
    rw [hd, manysY_cons] at h3
    rw [hd, deepsY_cons] at h1
    rw [hd, manysY_cons]
    have hp : 1 ≤ deepY l[n] := by rw [deepY_is]; omega
    have e0 : wrap64 ((e : Int) - 1) = ((e - 1 : Nat) : Int) := by rw [w_small (by omega) (by omega)]; omega
    have e1 : wrap64 ((m : Int) + (manyY l[n] : Int)) = ((m + manyY l[n] : Nat) : Int) := by rw [w_small (by omega) (by omega)]; omega
    refine Ev.step (fun k => by simp only [spec_l2Many.l0]; rw [if_pos (by omega), if_pos (by omega), if_pos (by omega), rdI l n (by omega), w_succ (by omega), e0]) ?_
    refine Ev.bind (hx (e - 1) (by omega) (by omega)) ?_
    simp only [e1]
    have h5 : deepsY (l.drop (n + 1)) ≤ e := by omega
    have h6 : m + manyY l[n] + manysY (l.drop (n + 1)) ≤ 1048579 := by rw [Nat.add_assoc]; exact h3
    have h4 := ih (n + 1) (m + manyY l[n]) (by omega) h5 h6
    rw [Nat.add_assoc] at h4
    exact h4
theorem many_ev : ∀ x : S37, allY x ≤ 1048576 → ManyOk x := by
  refine indI (fun x ih g e he hd => ?_)
  have hk : ∀ y ∈ x.f3, ManyOk y := fun y hy => ih y hy (by have := allY_mem hy; omega)
  have hl : x.f3.length ≤ 1048576 := by have := allY_len (x := x); omega
  have hm : manysY x.f3 ≤ 1048577 := by have h1 := manyY_all x; have h2 := manyY_is x; omega
  rw [deepY_is] at hd
  refine Ev.step (fun k => by simp only [spec_l2Many.f]; rfl) ?_
  refine Ev.val (many_l0_ev x.f3 hl hk x.f0 x.f1 x.f2 e he x.f3.length 0 1 (by omega) (by rw [List.drop_zero]; omega) (by rw [List.drop_zero]; omega)) ?_
  rw [List.drop_zero, manyY_is]

theorem l2Kids_ev (a : Int) : Ev (fun k => spec_l2Kids.f k a) (kidsOf a) := by
  unfold spec_l2Kids.f kidsOf
  by_cases h1 : a = 1
  · exact Ev.pos h1 (Ev.val (Ev.now _) (by rw [if_pos h1]))
  refine Ev.neg h1 ?_
  rw [if_neg h1]
  by_cases h7 : a = 7
  · exact Ev.pos h7 (Ev.val (Ev.now _) (by rw [if_pos h7]))
  refine Ev.neg h7 ?_
  rw [if_neg h7]
  have yes : a = 2 ∨ a = 3 ∨ a = 4 → Ev (fun k => spec_l2Kids.j0 k a true) (if a = 2 ∨ a = 3 ∨ a = 4 then 2 else if a = 5 ∨ a = 6 then 3 else -1) := fun h => Ev.last (fun k => by simp only [spec_l2Kids.j0]; rw [if_pos trivial, if_pos h])
  by_cases h2 : a = 2
  · refine Ev.pos h2 ?_
    rw [show (a == 2) = true by simp [h2]]
    exact yes (by omega)
  refine Ev.neg h2 ?_
  by_cases h3 : a = 3
  · refine Ev.pos h3 ?_
    rw [show (a == 3) = true by simp [h3]]
    exact yes (by omega)
  refine Ev.neg h3 ?_
  by_cases h4 : a = 4
  · rw [show (a == 4) = true by simp [h4]]
    exact yes (by omega)
  rw [show (a == 4) = false by simp [h4]]
  rw [if_neg (by omega)]
  by_cases h5 : a = 5
  · exact Ev.last (fun k => by simp only [spec_l2Kids.j0]; rw [if_neg (by decide), if_pos h5, if_pos (by omega)])
  by_cases h6 : a = 6
  · exact Ev.last (fun k => by simp only [spec_l2Kids.j0]; rw [if_neg (by decide), if_neg h5, if_pos h6, if_pos (by omega)])
  · exact Ev.last (fun k => by simp only [spec_l2Kids.j0]; rw [if_neg (by decide), if_neg h5, if_neg h6, if_neg (by omega)])

def FormOk (x : S37) : Prop := ∀ d : Nat, d ≤ 100 → Ev (fun k => spec_l2Form.f k x.f0 x.f1 x.f2 x.f3 (d : Int)) (fmY x && decide (deepY x ≤ d))
theorem form_l0_ev (l : List S37) (hl : l.length ≤ 1048576) (hs : ∀ x ∈ l, FormOk x) (a b c : Int) (e : Nat) (he : e < 100) : ∀ (d n : Nat), n + d = l.length → Ev (fun k => spec_l2Form.l0 k ((e + 1 : Nat) : Int) (n : Int) a b c l) (fmsY (l.drop n) && decide (deepsY (l.drop n) ≤ e)) := by
  intro d
  induction d with
  | zero =>
    intro n hn
    rw [List.drop_of_length_le (by omega), fmsY_nil, deepsY_nil]
    exact Ev.last (fun k => by simp only [spec_l2Form.l0]; rw [if_neg (by omega)]; simp)
  | succ d ih =>
    intro n hn
    have hx : FormOk l[n] := hs _ (List.getElem_mem _)
    have hd := List.drop_eq_getElem_cons (l := l) (i := n) (by omega)
    rw [hd, fmsY_cons, deepsY_cons]
    have e0 : wrap64 (((e + 1 : Nat) : Int) - 1) = (e : Int) := by rw [w_small (by omega) (by omega)]; omega
    refine Ev.step (fun k => by simp only [spec_l2Form.l0]; rw [if_pos (by omega), if_pos (by omega), rdI l n (by omega), w_succ (by omega), e0]) ?_
    refine Ev.bind (hx e (by omega)) ?_
    by_cases h : (fmY l[n] && decide (deepY l[n] ≤ e)) = true
    · refine Ev.pos h (Ev.val (ih (n + 1) (by omega)) ?_)
      simp only [Bool.and_eq_true, decide_eq_true_eq] at h
      rw [h.1, Bool.true_and]
      have : (deepsY (l.drop (n + 1)) ≤ e) ↔ (max (deepY l[n]) (deepsY (l.drop (n + 1))) ≤ e) := by omega
      simp only [this]
    · refine Ev.neg h (Ev.val (Ev.now false) ?_)
      by_cases hf : fmY l[n] = true
      · have : ¬ (max (deepY l[n]) (deepsY (l.drop (n + 1))) ≤ e) := by
          simp [hf] at h
          omega
        simp [this]
      · simp [hf]
theorem form_ev : ∀ x : S37, allY x ≤ 1048576 → FormOk x := by
  refine indI (fun x ih g d hd => ?_)
  have hk : ∀ y ∈ x.f3, FormOk y := fun y hy => ih y hy (by have := allY_mem hy; omega)
  have hl : x.f3.length ≤ 1048576 := by have := allY_len (x := x); omega
  rw [fmY_is, deepY_is]
  have bad : ∀ v : Bool, v = false → Ev (fun k => spec_l2Form.j0 k (d : Int) true x.f0 x.f1 x.f2 x.f3) v := fun v hv => Ev.last (fun k => by simp only [spec_l2Form.j0]; rw [if_pos trivial, hv])
  have bad1 : ∀ v : Bool, v = false → Ev (fun k => spec_l2Form.j1 k (d : Int) true x.f0 x.f1 x.f2 x.f3) v := fun v hv => Ev.last (fun k => by simp only [spec_l2Form.j1]; rw [if_pos trivial, hv])
  by_cases hd1 : (d : Int) < 1
  · refine Ev.step (fun k => by simp only [spec_l2Form.f]; rw [if_pos hd1]) (bad _ ?_)
    have : ¬ (1 + deepsY x.f3 ≤ d) := by omega
    simp [this]
  obtain ⟨e, rfl⟩ : ∃ e, d = e + 1 := ⟨d - 1, by omega⟩
  refine Ev.step (fun k => by simp only [spec_l2Form.f]; rw [if_neg hd1]) ?_
  refine Ev.bind (l2Kids_ev x.f0) ?_
  by_cases hn : kidsOf x.f0 = (x.f3.length : Int)
  · refine Ev.pos hn ?_
    have rest : Ev (fun k => spec_l2Form.j0 k ((e + 1 : Nat) : Int) false x.f0 x.f1 x.f2 x.f3) ((if x.f0 = 7 then decide (1 ≤ x.f2 ∧ x.f2 ≤ 20) else decide (x.f2 = 0)) && (fmsY x.f3 && decide (deepsY x.f3 ≤ e))) := by
      have loop : Ev (fun k => spec_l2Form.j1 k ((e + 1 : Nat) : Int) false x.f0 x.f1 x.f2 x.f3) (fmsY x.f3 && decide (deepsY x.f3 ≤ e)) := by
        refine Ev.step (fun k => by simp only [spec_l2Form.j1]; rw [if_neg (by decide)]) ?_
        exact form_l0_ev x.f3 hl hk x.f0 x.f1 x.f2 e (by omega) x.f3.length 0 (by omega)
      by_cases h7 : x.f0 = 7
      · rw [if_pos h7]
        by_cases c1 : x.f2 < 1
        · refine Ev.step (fun k => by simp only [spec_l2Form.j0]; rw [if_neg (by decide), if_pos h7, if_pos c1]) (bad1 _ ?_)
          have : ¬ (1 ≤ x.f2 ∧ x.f2 ≤ 20) := by omega
          simp [this]
        · by_cases c2 : x.f2 > 20
          · refine Ev.step (fun k => by simp only [spec_l2Form.j0]; rw [if_neg (by decide), if_pos h7, if_neg c1, if_pos c2]) (bad1 _ ?_)
            have : ¬ (1 ≤ x.f2 ∧ x.f2 ≤ 20) := by omega
            simp [this]
          · refine Ev.step (fun k => by simp only [spec_l2Form.j0]; rw [if_neg (by decide), if_pos h7, if_neg c1, if_neg c2]) (Ev.val loop ?_)
            have : (1 ≤ x.f2 ∧ x.f2 ≤ 20) := by omega
            simp [this]
      · rw [if_neg h7]
        by_cases c0 : x.f2 = 0
        · refine Ev.step (fun k => by simp only [spec_l2Form.j0]; rw [if_neg (by decide), if_neg h7, show (x.f2 != 0) = false by simp [c0]]) (Ev.val loop ?_)
          simp [c0]
        · refine Ev.step (fun k => by simp only [spec_l2Form.j0]; rw [if_neg (by decide), if_neg h7, show (x.f2 != 0) = true by simp [c0]]) (bad1 _ ?_)
          simp [c0]
    have hdd : (1 + deepsY x.f3 ≤ e + 1) ↔ (deepsY x.f3 ≤ e) := by omega
    simp only [hdd, okN, hn, decide_true, Bool.true_and]
    by_cases b0 : x.f1 < 0
    · refine Ev.pos b0 (bad _ ?_)
      have h1 : ¬ (0 ≤ x.f1 ∧ x.f1 ≤ 4) := by omega
      have h2 : ¬ (x.f1 = 0) := by omega
      simp [h1, h2]
    refine Ev.neg b0 ?_
    by_cases b5 : x.f1 ≥ 5
    · refine Ev.pos b5 (bad _ ?_)
      have h1 : ¬ (0 ≤ x.f1 ∧ x.f1 ≤ 4) := by omega
      have h2 : ¬ (x.f1 = 0) := by omega
      simp [h1, h2]
    refine Ev.neg b5 ?_
    by_cases a1 : x.f0 = 1
    · refine Ev.pos a1 (Ev.val rest ?_)
      rw [if_pos a1]
      have h1 : (0 ≤ x.f1 ∧ x.f1 ≤ 4) := by omega
      simp [h1, Bool.and_assoc]
    · refine Ev.neg a1 ?_
      rw [if_neg a1]
      by_cases hb : x.f1 = 0
      · rw [show (x.f1 != 0) = false by simp [hb]]
        refine Ev.val rest ?_
        simp [hb, Bool.and_assoc]
      · rw [show (x.f1 != 0) = true by simp [hb]]
        exact bad _ (by simp [hb])
  · refine Ev.neg hn (bad _ ?_)
    simp [okN, hn]

theorem in_is (a b c : Int) : impl_in.f a b c = some (decide (b ≤ a ∧ a ≤ c)) := by
  unfold impl_in.f
  by_cases h : b ≤ a
  · rw [if_pos h]; simp [h]
  · rw [if_neg h]; simp [h]
theorem kids_is (a : Int) (h1 : 1 ≤ a) (h7 : a ≤ 7) : impl_kids.f a = some (kidsOf a) := by
  have : a = 1 ∨ a = 2 ∨ a = 3 ∨ a = 4 ∨ a = 5 ∨ a = 6 ∨ a = 7 := by omega
  rcases this with rfl | rfl | rfl | rfl | rfl | rfl | rfl <;> rfl
theorem kidsOf_out {a : Int} (h : ¬ (1 ≤ a ∧ a ≤ 7)) : kidsOf a = -1 := by
  unfold kidsOf
  rw [if_neg (by omega), if_neg (by omega), if_neg (by omega), if_neg (by omega)]
def FmOk (x : S37) : Prop := Ev (fun k => impl_Ex_formed.f k x.f0 x.f1 x.f2 x.f3) (fmY x)
theorem fm_l0_ev (l : List S37) (hl : l.length ≤ 1048576) (hs : ∀ x ∈ l, FmOk x) : ∀ (d n : Nat), n + d = l.length → ∃ r : Int, Ev (fun k => impl_Ex_159.l0 k l (l.length : Int) (n : Int)) r ∧ (decide (r ≥ 0) = !fmsY (l.drop n)) := by
  intro d
  induction d with
  | zero =>
    intro n hn
    rw [List.drop_of_length_le (by omega), fmsY_nil]
    exact ⟨-1, Ev.last (fun k => by simp only [impl_Ex_159.l0]; rw [if_neg (by omega)]), by decide⟩
  | succ d ih =>
    intro n hn
    have hx : FmOk l[n] := hs _ (List.getElem_mem _)
    have hd := List.drop_eq_getElem_cons (l := l) (i := n) (by omega)
    rw [hd, fmsY_cons]
    have h1 : Ev (fun k => impl_Ex_formed_1.f k l[n].f0 l[n].f1 l[n].f2 l[n].f3) (!fmY l[n]) := Ev.step (fun k => by simp only [impl_Ex_formed_1.f]; rfl) (Ev.bindS hx rfl)
    cases hf : fmY l[n] with
    | true =>
      obtain ⟨r, hr, hv⟩ := ih (n + 1) (by omega)
      refine ⟨r, ?_, by rw [hv, Bool.true_and]⟩
      refine Ev.step (fun k => by simp only [impl_Ex_159.l0]; rw [if_pos (by omega), if_pos (by omega), if_pos (by omega), rdI l n (by omega), w_succ (by omega)]) ?_
      exact Ev.bind h1 (Ev.neg (by rw [hf]; decide) hr)
    | false =>
      refine ⟨(n : Int), ?_, by simp⟩
      refine Ev.step (fun k => by simp only [impl_Ex_159.l0]; rw [if_pos (by omega), if_pos (by omega), if_pos (by omega), rdI l n (by omega), w_succ (by omega)]) ?_
      exact Ev.bind h1 (Ev.pos (by rw [hf]; decide) (Ev.now _))
theorem formed_ev : ∀ x : S37, allY x ≤ 1048576 → FmOk x := by
  refine indI (fun x ih g => ?_)
  have hk : ∀ y ∈ x.f3, FmOk y := fun y hy => ih y hy (by have := allY_mem hy; omega)
  have hl : x.f3.length ≤ 1048576 := by have := allY_len (x := x); omega
  have hc : Ev (fun k => impl_Ex_130.f k x.f3) (!fmsY x.f3) := by
    obtain ⟨r, hr, hv⟩ := fm_l0_ev x.f3 hl hk x.f3.length 0 (by omega)
    rw [List.drop_zero] at hv
    refine Ev.step (fun k => by simp only [impl_Ex_130.f]; rfl) ?_
    refine Ev.bindS (Ev.step (fun k => by simp only [impl_Ex_159.f]; rfl) hr) ?_
    rw [hv]
  have bad : ∀ v : Bool, v = false → Ev (fun k => impl_Ex_formed.j0 k true x.f0 x.f1 x.f2 x.f3) v := fun v hv => Ev.last (fun k => by simp only [impl_Ex_formed.j0]; rw [if_pos trivial, hv])
  have bad1 : ∀ v : Bool, v = false → Ev (fun k => impl_Ex_formed.j1 k true x.f0 x.f1 x.f2 x.f3) v := fun v hv => Ev.last (fun k => by simp only [impl_Ex_formed.j1]; rw [if_pos trivial, hv])
  have last : Ev (fun k => impl_Ex_formed.j1 k false x.f0 x.f1 x.f2 x.f3) ((if x.f0 = 7 then decide (1 ≤ x.f2 ∧ x.f2 ≤ 20) else decide (x.f2 = 0)) && fmsY x.f3) := by
    by_cases h7 : x.f0 = 7
    · rw [if_pos h7]
      refine Ev.step (fun k => by simp only [impl_Ex_formed.j1]; rw [if_neg (by decide), if_pos h7, in_is, Option.bind_some]) ?_
      by_cases hc7 : 1 ≤ x.f2 ∧ x.f2 ≤ 20
      · refine Ev.pos (by simp [hc7]) (Ev.bindS hc ?_)
        simp [hc7]
      · refine Ev.neg (by simp; omega) (Ev.val (Ev.now false) ?_)
        simp [hc7]
    · rw [if_neg h7]
      by_cases hc0 : x.f2 = 0
      · refine Ev.step (fun k => by simp only [impl_Ex_formed.j1]; rw [if_neg (by decide), if_neg h7, if_pos hc0]) (Ev.bindS hc ?_)
        simp [hc0]
      · refine Ev.last (fun k => by simp only [impl_Ex_formed.j1]; rw [if_neg (by decide), if_neg h7, if_neg hc0]; simp [hc0])
  unfold FmOk
  rw [fmY_is]
  refine Ev.step (fun k => by simp only [impl_Ex_formed.f, impl_isKind.f]; rw [in_is, Option.bind_some, Option.bind_some]) ?_
  by_cases hkd : 1 ≤ x.f0 ∧ x.f0 ≤ 7
  · refine Ev.pos (by simp [hkd]) ?_
    refine Ev.bind (Ev.one (fun _ => kids_is x.f0 hkd.1 hkd.2)) ?_
    by_cases hn : kidsOf x.f0 = (x.f3.length : Int)
    · rw [show ((x.f3.length : Int) != kidsOf x.f0) = false by simp [hn]]
      by_cases a1 : x.f0 = 1
      · refine Ev.step (fun k => by simp only [impl_Ex_formed.j0, impl_isSym.f]; rw [if_neg (by decide), if_pos a1, in_is, Option.bind_some, Option.bind_some]) ?_
        by_cases hb : 0 ≤ x.f1 ∧ x.f1 ≤ 4
        · refine Ev.pos (by simp [hb]) (Ev.val last ?_)
          simp only [okN, hn, decide_true, Bool.true_and]
          rw [if_pos a1]
          simp [hb]
        · refine Ev.neg (by simp; omega) (bad1 _ ?_)
          simp only [okN, hn, decide_true, Bool.true_and]
          rw [if_pos a1]
          simp [hb]
      · by_cases hb : x.f1 = 0
        · refine Ev.step (fun k => by simp only [impl_Ex_formed.j0]; rw [if_neg (by decide), if_neg a1, show (x.f1 != 0) = false by simp [hb]]) (Ev.val last ?_)
          simp only [okN, hn, decide_true, Bool.true_and]
          rw [if_neg a1]
          simp [hb]
        · refine Ev.step (fun k => by simp only [impl_Ex_formed.j0]; rw [if_neg (by decide), if_neg a1, show (x.f1 != 0) = true by simp [hb]]) (bad1 _ ?_)
          simp only [okN, hn, decide_true, Bool.true_and]
          rw [if_neg a1]
          simp [hb]
    · rw [show ((x.f3.length : Int) != kidsOf x.f0) = true by simp; omega]
      exact bad _ (by simp [okN, hn])
  · refine Ev.neg (by simp; omega) (bad _ ?_)
    have hn : ¬ (kidsOf x.f0 = (x.f3.length : Int)) := by rw [kidsOf_out hkd]; omega
    simp [okN, hn]
end Go.Proofs.Ytdljhokealbnnaa.M
namespace Go.Proofs.Ytdljhokealbnnaa.M
set_option linter.unusedVariables false
set_option linter.unusedSimpArgs false
open Go.RowKit Go.Proofs.YtdljhokealbnnaaW.PrintWords Go.Proofs.YtdljhokealbnnaaW.PrintLast

def okX (x : S37) : Bool := fmY x && decide (deepY x ≤ 5) && decide (manyY x ≤ 12)
theorem form5 (x : S37) (h : allY x ≤ 1048576) : Ev (fun k => spec_l2Form.f k x.f0 x.f1 x.f2 x.f3 5) (fmY x && decide (deepY x ≤ 5)) := form_ev x h 5 (by omega)
theorem many5 (x : S37) (h : allY x ≤ 1048576) (hd : deepY x ≤ 5) : Ev (fun k => spec_l2Many.f k x.f0 x.f1 x.f2 x.f3 5) (manyY x : Int) := many_ev x h 5 (by omega) (by omega)
theorem spec_ExOk_ev (x : S37) (h : allY x ≤ 1048576) : Ev (fun k => spec_ExOk.f k x.f0 x.f1 x.f2 x.f3) (okX x) := by
  unfold spec_ExOk.f okX
  refine Ev.bind (form5 x h) ?_
  by_cases hf : (fmY x && decide (deepY x ≤ 5)) = true
  · have hd : deepY x ≤ 5 := by simp at hf; exact hf.2
    refine Ev.pos hf (Ev.bindS (many5 x h hd) ?_)
    rw [hf, Bool.true_and]
    have : ((manyY x : Int) ≤ 12) ↔ (manyY x ≤ 12) := by omega
    simp only [this]
  · refine Ev.neg hf (Ev.val (Ev.now _) ?_)
    simp only [Bool.not_eq_true] at hf
    rw [hf]
    rfl
theorem impl_ExOk_ev (x : S37) (h : allY x ≤ 1048576) : Ev (fun k => impl_ExOk.f k x.f0 x.f1 x.f2 x.f3) (okX x) := by
  unfold impl_ExOk.f okX
  refine Ev.bind (size_ev x h) ?_
  by_cases hm : manyY x ≤ 12
  · refine Ev.pos (show ((manyY x : Nat) : Int) ≤ 12 by omega) ?_
    by_cases hd : deepY x ≤ 5
    · refine Ev.pos (show ((deepY x : Nat) : Int) ≤ 5 by omega) (Ev.bindS (formed_ev x h) ?_)
      simp [hm, hd]
    · refine Ev.neg (show ¬ (((deepY x : Nat) : Int) ≤ 5) by omega) (Ev.val (Ev.now _) ?_)
      simp [hd]
  · refine Ev.neg (show ¬ (((manyY x : Nat) : Int) ≤ 12) by omega) (Ev.val (Ev.now _) ?_)
    simp [hm]
end Go.Proofs.Ytdljhokealbnnaa.M
namespace Go.Proofs.Ytdljhokealbnnaa.M
set_option linter.unusedVariables false
set_option linter.unusedSimpArgs false
open Go.RowKit Go.Proofs.YtdljhokealbnnaaW.PrintWords Go.Proofs.YtdljhokealbnnaaW.PrintLast

theorem name_l0_ev (s : ByteArray) (hl : s.size ≤ 1048576) : ∀ d n : Nat, n + d = s.size → ∃ v, Ev (fun k => spec_l8Word.l0 k s (n : Int)) v ∧ Ev (fun k => impl_isName.l0 k s (s.size : Int) (n : Int)) v := by
  intro d
  induction d with
  | zero =>
    intro n hn
    refine ⟨decide (1 ≤ (s.size : Int) ∧ (s.size : Int) ≤ 6), Ev.last (fun k => ?_), Ev.last (fun k => ?_)⟩
    · simp only [spec_l8Word.l0]
      rw [if_neg (by omega)]
      by_cases h : (s.size : Int) > 0
      · rw [if_pos h]
        congr 1
        rw [decide_eq_decide]
        omega
      · rw [if_neg h]
        congr 1
        symm
        rw [decide_eq_false_iff_not]
        omega
    · simp only [impl_isName.l0]
      rw [if_neg (by omega), in_is, Option.bind_some]
  | succ d ih =>
    intro n hn
    obtain ⟨v, h1, h2⟩ := ih (n + 1) (by omega)
    by_cases c1 : bt s (n : Int) < 97
    · exact ⟨false, Ev.last (fun k => by simp only [spec_l8Word.l0]; rw [if_pos (by omega), if_pos (by omega), if_pos c1]), Ev.last (fun k => by simp only [impl_isName.l0]; rw [if_pos (by omega), if_pos (by omega), if_pos (by omega), if_pos c1])⟩
    · by_cases c2 : bt s (n : Int) > 122
      · exact ⟨false, Ev.last (fun k => by simp only [spec_l8Word.l0]; rw [if_pos (by omega), if_pos (by omega), if_neg c1, if_pos c2]), Ev.last (fun k => by simp only [impl_isName.l0]; rw [if_pos (by omega), if_pos (by omega), if_pos (by omega), if_neg c1, if_pos c2])⟩
      · exact ⟨v, Ev.step (fun k => by simp only [spec_l8Word.l0]; rw [if_pos (by omega), if_pos (by omega), if_neg c1, if_neg c2, w_succ (by omega)]) h1, Ev.step (fun k => by simp only [impl_isName.l0]; rw [if_pos (by omega), if_pos (by omega), if_pos (by omega), if_neg c1, if_neg c2, w_succ (by omega)]) h2⟩
theorem name_ev (s : ByteArray) (hl : s.size ≤ 1048576) : ∃ v, Ev (fun k => spec_l8Word.f k s) v ∧ Ev (fun k => impl_isName.f k s) v := by
  unfold spec_l8Word.f impl_isName.f
  exact name_l0_ev s hl s.size 0 (by omega)
def tailR (low high key add raise : Int) : Bool := decide (0 ≤ low ∧ low ≤ high ∧ high ≤ 100 ∧ 0 ≤ key ∧ key ≤ 3 ∧ -9 ≤ add ∧ add ≤ 9 ∧ -1 ≤ raise ∧ raise ≤ 4)
theorem tail_spec (low high key add raise : Int) : (if low ≥ 0 then (if low ≤ high then (if high ≤ 100 then (if key ≥ 0 then (if key < 4 then (if add ≥ (-9) then (if add ≤ 9 then (if raise ≥ (-1) then (some (decide (raise < 5))) else (some false)) else (some false)) else (some false)) else (some false)) else (some false)) else (some false)) else (some false)) else (some false)) = some (tailR low high key add raise) := by
  unfold tailR
  repeat' split
  all_goals first
    | (congr 1; rw [decide_eq_decide]; omega)
    | (congr 1; symm; rw [decide_eq_false_iff_not]; omega)
theorem tail_impl (low high key add raise : Int) : ((impl_in.f low 0 high).bind fun t106 => (if t106 = true then (if high ≤ 100 then ((impl_in.f key 0 3).bind fun t107 => (if t107 = true then ((impl_in.f add (-9) 9).bind fun t108 => (if t108 = true then ((impl_in.f raise (-1) 4).bind fun t109 => (some t109)) else (some false))) else (some false))) else (some false)) else (some false))) = some (tailR low high key add raise) := by
  unfold tailR
  simp only [in_is, Option.bind_some, decide_eq_true_eq]
  repeat' split
  all_goals first
    | (congr 1; rw [decide_eq_decide]; omega)
    | (congr 1; symm; rw [decide_eq_false_iff_not]; omega)
theorem ruleOk_ev (r : S39) (hs : r.f0.size ≤ 1048576) (hx : allY r.f3 ≤ 1048576) : ∃ v, Ev (fun k => spec_RuleOk.f k r.f0 r.f1 r.f2 r.f3.f0 r.f3.f1 r.f3.f2 r.f3.f3 r.f4 r.f5 r.f6 r.f7 r.f8) v ∧ Ev (fun k => impl_RuleOk.f k r.f0 r.f1 r.f2 r.f3.f0 r.f3.f1 r.f3.f2 r.f3.f3 r.f4 r.f5 r.f6 r.f7 r.f8) v := by
  obtain ⟨v, h1, h2⟩ := name_ev r.f0 hs
  have e1 := spec_ExOk_ev r.f3 hx
  have e2 := impl_ExOk_ev r.f3 hx
  unfold spec_RuleOk.f impl_RuleOk.f spec_l4Mode.f impl_isMode.f
  simp only [tail_spec, tail_impl]
  cases v with
  | false => exact ⟨false, Ev.bind h1 (Ev.neg (by decide) (Ev.now _)), Ev.bind h2 (Ev.neg (by decide) (Ev.now _))⟩
  | true =>
    by_cases c1 : 0 ≤ r.f1 ∧ r.f1 ≤ 9
    · by_cases c2 : 0 ≤ r.f2 ∧ r.f2 ≤ 4
      · cases ho : okX r.f3 with
        | true =>
          rw [ho] at e1 e2
          refine ⟨tailR r.f4 r.f5 r.f6 r.f7 r.f8, ?_, ?_⟩
          · refine Ev.bind h1 (Ev.pos rfl (Ev.pos (by omega) (Ev.pos (by omega) ?_)))
            rw [if_pos (by omega)]
            refine Ev.bind (Ev.now _) ?_
            exact Ev.pos (by simp; omega) (Ev.bind e1 (Ev.pos rfl (Ev.now _)))
          · refine Ev.bind h2 (Ev.pos rfl ?_)
            simp only [in_is, Option.bind_some]
            exact Ev.pos (by simp; omega) (Ev.pos (by simp; omega) (Ev.bind e2 (Ev.pos rfl (Ev.now _))))
        | false =>
          rw [ho] at e1 e2
          refine ⟨false, ?_, ?_⟩
          · refine Ev.bind h1 (Ev.pos rfl (Ev.pos (by omega) (Ev.pos (by omega) ?_)))
            rw [if_pos (by omega)]
            refine Ev.bind (Ev.now _) ?_
            exact Ev.pos (by simp; omega) (Ev.bind e1 (Ev.neg (by decide) (Ev.now _)))
          · refine Ev.bind h2 (Ev.pos rfl ?_)
            simp only [in_is, Option.bind_some]
            exact Ev.pos (by simp; omega) (Ev.pos (by simp; omega) (Ev.bind e2 (Ev.neg (by decide) (Ev.now _))))
      · refine ⟨false, ?_, ?_⟩
        · refine Ev.bind h1 (Ev.pos rfl (Ev.pos (by omega) (Ev.pos (by omega) ?_)))
          by_cases c3 : r.f2 ≥ 0
          · rw [if_pos c3]
            refine Ev.bind (Ev.now _) ?_
            exact Ev.neg (by simp; omega) (Ev.now _)
          · rw [if_neg c3]
            refine Ev.bind (Ev.now _) ?_
            exact Ev.neg (by decide) (Ev.now _)
        · refine Ev.bind h2 (Ev.pos rfl ?_)
          simp only [in_is, Option.bind_some]
          exact Ev.pos (by simp; omega) (Ev.neg (by simp; omega) (Ev.now _))
    · refine ⟨false, ?_, ?_⟩
      · refine Ev.bind h1 (Ev.pos rfl ?_)
        by_cases c3 : r.f1 ≥ 0
        · exact Ev.pos c3 (Ev.neg (by omega) (Ev.now _))
        · exact Ev.neg c3 (Ev.now _)
      · refine Ev.bind h2 (Ev.pos rfl ?_)
        simp only [in_is, Option.bind_some]
        exact Ev.neg (by simp; omega) (Ev.now _)
theorem FnExactRuleOk_pure (x : S32) (h : good32 x) : ∃ k, laws_FnExactRuleOk.f k x.f0 x.f1 x.f2 x.f3.f0 x.f3.f1 x.f3.f2 x.f3.f3 x.f4 x.f5 x.f6 x.f7 x.f8 = some true := by
  refine Ev.rounds (g := fun k => laws_FnExactRuleOk.f k x.f0 x.f1 x.f2 x.f3.f0 x.f3.f1 x.f3.f2 x.f3.f3 x.f4 x.f5 x.f6 x.f7 x.f8) ?_
  unfold laws_FnExactRuleOk.f
  refine Ev.bind (szRule_ev x h 1048576 (by omega) (by omega)) ?_
  by_cases hs : ((allR x : Nat) : Int) ≤ 1048576
  · rw [leftOf_pos hs]
    refine Ev.neg (by omega) ?_
    have tx := toRule_ev x (by omega)
    have hr : x.f0.size + allX x.f3 ≤ 1048576 := by unfold allR at hs; omega
    obtain ⟨v, hv, hw⟩ := ruleOk_ev (cvR x) (show x.f0.size ≤ 1048576 by omega) (by show allY (cvX x.f3) ≤ 1048576; rw [allY_cv]; omega)
    refine Ev.bind tx (Ev.bind hv (Ev.bind tx (Ev.bind hw (Ev.neg (by simp) ?_))))
    exact Ev.bind tx (Ev.bindS (eqRule_ev x (by omega)) rfl)
  · rw [leftOf_neg hs]
    exact Ev.pos (by omega) (Ev.now _)
end Go.Proofs.Ytdljhokealbnnaa.M
