/- What the claim's law leans on: the program's functions, what they compute, and the law over plain values; no condition is asked. (Part 2 of 2.) -/
import Derived.Test.YtbcdfbiggjfmlaaCLawsFnExactExSame1
import Derived.Test.YtbcdfbiggjfmlaaWWords
import Derived.Test.YtbcdfbiggjfmlaaWLast
namespace Go.Proofs.Ytbcdfbiggjfmlaa.M
open Go.RowKit Go.Proofs.YtbcdfbiggjfmlaaW.PrintWords Go.Proofs.YtbcdfbiggjfmlaaW.PrintLast Go.Proofs.YtbcdfbiggjfmlaaW.PrintMore
attribute [local go_sem] max2_int min2_int max_two min_two max_three min_three max_four min_four
set_option linter.unusedVariables false
set_option linter.unusedSimpArgs false

def laws_FnExactExSame.f (k : Nat) (a0_0 : Int) (a0_1 : Int) (a0_2 : Int) (l0_3 : List (S24)) (a1_0 : Int) (a1_1 : Int) (a1_2 : Int) (l1_3 : List (S24)) : Option (Bool) := (laws_szEx.f k a0_0 a0_1 a0_2 l0_3 1048576).bind fun t103 => (if t103 < 0 then (some true) else ((laws_szEx.f k a1_0 a1_1 a1_2 l1_3 t103).bind fun t104 => (if t104 < 0 then (some true) else ((laws_toEx.f k a0_0 a0_1 a0_2 l0_3).bind fun bt105 => ((laws_toEx.f k a1_0 a1_1 a1_2 l1_3).bind fun bt111 => ((spec_ExSame.f k bt105.1 bt105.2.1 bt105.2.2.1 bt105.2.2.2 bt111.1 bt111.2.1 bt111.2.2.1 bt111.2.2.2).bind fun t117 => ((laws_toEx.f k a0_0 a0_1 a0_2 l0_3).bind fun bt118 => ((laws_toEx.f k a1_0 a1_1 a1_2 l1_3).bind fun bt125 => ((impl_ExSame.f k bt118.1 bt118.2.1 bt118.2.2.1 bt118.2.2.2 bt125.1 bt125.2.1 bt125.2.2.1 bt125.2.2.2).bind fun t132 => (if (t132 != t117) = true then (some false) else ((laws_toEx.f k a0_0 a0_1 a0_2 l0_3).bind fun bt133 => ((laws_eqEx.f k bt118.1 bt118.2.1 bt118.2.2.1 bt118.2.2.2 bt133.1 bt133.2.1 bt133.2.2.1 bt133.2.2.2).bind fun t139 => (if t139 = true then ((laws_toEx.f k a1_0 a1_1 a1_2 l1_3).bind fun bt140 => ((laws_eqEx.f k bt125.1 bt125.2.1 bt125.2.2.1 bt125.2.2.2 bt140.1 bt140.2.1 bt140.2.2.1 bt140.2.2.2).bind fun t146 => (if t146 = true then (some true) else (some false)))) else (some false))))))))))))))
theorem laws_FnExactExSame.mono : ∀ a0 a1 a2 a3 a4 a5 a6 a7 k, LeO (laws_FnExactExSame.f k a0 a1 a2 a3 a4 a5 a6 a7) (laws_FnExactExSame.f (k + 1) a0 a1 a2 a3 a4 a5 a6 a7) := by
 intro a0 a1 a2 a3 a4 a5 a6 a7 k
 unfold laws_FnExactExSame.f
 repeat' first
   | (with_reducible exact impl_ExSame.mono _ _ _ _ _ _ _ _ _)
   | (with_reducible exact laws_eqEx.mono _ _ _ _ _ _ _ _ _)
   | (with_reducible exact laws_szEx.mono _ _ _ _ _ _)
   | (with_reducible exact laws_toEx.mono _ _ _ _ _)
   | (with_reducible exact spec_ExSame.mono _ _ _ _ _ _ _ _ _)
   | (with_reducible exact LeO.refl _)
   | (with_reducible exact LeO.none _)
   | (with_reducible refine LeO.ite ?_ ?_)
   | (with_reducible refine LeO.bind ?_ (fun _ => ?_))
   | exact impl_ExSame.mono _ _ _ _ _ _ _ _ _
   | exact laws_eqEx.mono _ _ _ _ _ _ _ _ _
   | exact laws_szEx.mono _ _ _ _ _ _
   | exact laws_toEx.mono _ _ _ _ _
   | exact spec_ExSame.mono _ _ _ _ _ _ _ _ _
   | exact LeO.none _
   | refine LeO.ite ?_ ?_
   | refine LeO.bind ?_ (fun _ => ?_)
set_option maxHeartbeats 8000000 in
set_option maxRecDepth 100000 in
theorem laws_FnExactExSame.calls (k : Nat) (a0_0 : Int) (a0_1 : Int) (a0_2 : Int) (A0_3 : Option Addr) (c0_3 : Nat) (l0_3 : List (S24)) (a1_0 : Int) (a1_1 : Int) (a1_2 : Int) (A1_3 : Option Addr) (c1_3 : Nat) (l1_3 : List (S24)) (r : Bool) (w : World) (hr0_3 : Kd.C k24 w A0_3 l0_3.length l0_3) (hc0_3 : l0_3.length ≤ c0_3) (hr1_3 : Kd.C k24 w A1_3 l1_3.length l1_3) (hc1_3 : l1_3.length ≤ c1_3) (h : laws_FnExactExSame.f k a0_0 a0_1 a0_2 l0_3 a1_0 a1_1 a1_2 l1_3 = some r) :
  Calls Try.prog 3 #[.agg #[.int .i64 a0_0, .int .i64 a0_1, .int .i64 a0_2, .slice A0_3 l0_3.length c0_3], .agg #[.int .i64 a1_0, .int .i64 a1_1, .int .i64 a1_2, .slice A1_3 l1_3.length c1_3]] w fun e w' => e = .returned (.bool r) ∧ Below w.heap.size w w' := by
 have hu24 := Try.underlying24
 have hu29 := Try.underlying29
 have HR0_3 := Aside0.mk hr0_3
 have HC0_3 := Aside0.mk hc0_3
 clear hr0_3 hc0_3
 have HR1_3 := Aside0.mk hr1_3
 have HC1_3 := Aside0.mk hc1_3
 clear hr1_3 hc1_3
 have HB := Aside0.mk (Below.refl w.heap.size w)
 have H : ((laws_szEx.f k a0_0 a0_1 a0_2 l0_3 1048576).bind fun t103 => (if t103 < 0 then (some true) else ((laws_szEx.f k a1_0 a1_1 a1_2 l1_3 t103).bind fun t104 => (if t104 < 0 then (some true) else ((laws_toEx.f k a0_0 a0_1 a0_2 l0_3).bind fun bt105 => ((laws_toEx.f k a1_0 a1_1 a1_2 l1_3).bind fun bt111 => ((spec_ExSame.f k bt105.1 bt105.2.1 bt105.2.2.1 bt105.2.2.2 bt111.1 bt111.2.1 bt111.2.2.1 bt111.2.2.2).bind fun t117 => ((laws_toEx.f k a0_0 a0_1 a0_2 l0_3).bind fun bt118 => ((laws_toEx.f k a1_0 a1_1 a1_2 l1_3).bind fun bt125 => ((impl_ExSame.f k bt118.1 bt118.2.1 bt118.2.2.1 bt118.2.2.2 bt125.1 bt125.2.1 bt125.2.2.1 bt125.2.2.2).bind fun t132 => (if (t132 != t117) = true then (some false) else ((laws_toEx.f k a0_0 a0_1 a0_2 l0_3).bind fun bt133 => ((laws_eqEx.f k bt118.1 bt118.2.1 bt118.2.2.1 bt118.2.2.2 bt133.1 bt133.2.1 bt133.2.2.1 bt133.2.2.2).bind fun t139 => (if t139 = true then ((laws_toEx.f k a1_0 a1_1 a1_2 l1_3).bind fun bt140 => ((laws_eqEx.f k bt125.1 bt125.2.1 bt125.2.2.1 bt125.2.2.2 bt140.1 bt140.2.1 bt140.2.2.1 bt140.2.2.2).bind fun t146 => (if t146 = true then (some true) else (some false)))) else (some false))))))))))))))) = some r := h
 clear h
 replace H := Option.bind_eq_some_iff.mp H
 obtain ⟨t103, A30, H⟩ := H
 replace H : (if t103 < 0 then (some true) else ((laws_szEx.f k a1_0 a1_1 a1_2 l1_3 t103).bind fun t104 => (if t104 < 0 then (some true) else ((laws_toEx.f k a0_0 a0_1 a0_2 l0_3).bind fun bt105 => ((laws_toEx.f k a1_0 a1_1 a1_2 l1_3).bind fun bt111 => ((spec_ExSame.f k bt105.1 bt105.2.1 bt105.2.2.1 bt105.2.2.2 bt111.1 bt111.2.1 bt111.2.2.1 bt111.2.2.2).bind fun t117 => ((laws_toEx.f k a0_0 a0_1 a0_2 l0_3).bind fun bt118 => ((laws_toEx.f k a1_0 a1_1 a1_2 l1_3).bind fun bt125 => ((impl_ExSame.f k bt118.1 bt118.2.1 bt118.2.2.1 bt118.2.2.2 bt125.1 bt125.2.1 bt125.2.2.1 bt125.2.2.2).bind fun t132 => (if (t132 != t117) = true then (some false) else ((laws_toEx.f k a0_0 a0_1 a0_2 l0_3).bind fun bt133 => ((laws_eqEx.f k bt118.1 bt118.2.1 bt118.2.2.1 bt118.2.2.2 bt133.1 bt133.2.1 bt133.2.2.1 bt133.2.2.2).bind fun t139 => (if t139 = true then ((laws_toEx.f k a1_0 a1_1 a1_2 l1_3).bind fun bt140 => ((laws_eqEx.f k bt125.1 bt125.2.1 bt125.2.2.1 bt125.2.2.2 bt140.1 bt140.2.1 bt140.2.2.1 bt140.2.2.2).bind fun t146 => (if t146 = true then (some true) else (some false)))) else (some false)))))))))))))) = some r := H
 have A3 := Aside0.mk A30
 clear A30
 by_cases c4 : t103 < 0
 ·rw [if_pos c4] at H
  have c4b0 : decide (t103 < 0) = true := decide_eq_true c4
  clear c4
  obtain rfl := Option.some.inj H
  go_enter Try.func3, Try.ntmps3
  go_wp2_with (first | ((with_reducible refine gate_dst (N := 2) rfl ?_);refine box_event ?hg (N := 2) ?hd (cs := #[.int .i64 a0_0, .int .i64 a0_1, .int .i64 a0_2, .slice A0_3 l0_3.length c0_3]) (t := 24) ?hr ?_;(case hd => rfl);(case hg => rfl);(case hr => first | (go_simp;done) | (go_simp;rfl));intro gb101 hg w5 hbox hb;have n0_ := Aside0.mk (below_step (by exact HB.out) hb);have n1_ := Aside0.mk (hbox);have n2_ := Aside0.mk ((by rw [hg];exact (below_size (by exact HB.out)) : w.heap.size ≤ gb101));have n3_ := Aside0.mk ((by rw [hg];exact (below_size (by exact HB.out)) : w.heap.size ≤ gb101));clear HB;have HB := n0_;have BK101 := n1_;have GW101 := n2_;have GE101 := n3_;clear n0_ n1_ n2_ n3_;clear hb hbox hg) | ((with_reducible refine gate_dst (N := 3) rfl ?_);refine box_event ?hg (N := 3) ?hd (cs := #[.int .i64 a1_0, .int .i64 a1_1, .int .i64 a1_2, .slice A1_3 l1_3.length c1_3]) (t := 24) ?hr ?_;(case hd => rfl);(case hg => rfl);(case hr => first | (go_simp;done) | (go_simp;rfl));intro gb102 hg w6 hbox hb;have n0_ := Aside0.mk (blk_below BK101.out hb);have n1_ := Aside0.mk (below_step (by exact HB.out) hb);have n2_ := Aside0.mk (hbox);have n3_ := Aside0.mk ((by rw [hg];exact (below_size (by exact HB.out)) : w.heap.size ≤ gb102));have n4_ := Aside0.mk ((by rw [hg];exact (below_size (by exact HB.out)) : w.heap.size ≤ gb102));have n5_ := Aside0.mk ((by rw [hg];exact Nat.ne_of_lt (blk_lt BK101.out) : gb101 ≠ gb102));have n6_ := Aside0.mk ((by rw [hg];exact Nat.ne_of_gt (blk_lt BK101.out) : gb102 ≠ gb101));clear BK101;clear HB;have BK101 := n0_;have HB := n1_;have BK102 := n2_;have GW102 := n3_;have GE102 := n4_;have NB101_102 := n5_;have NB102_101 := n6_;clear n0_ n1_ n2_ n3_ n4_ n5_ n6_;clear hb hbox hg;have hnb7 := NB101_102.out;have hnc7 := NB102_101.out;have hcz8_0 : w6.cell? ⟨gb101, 0, none⟩ = some (.int .i64 a0_0) := (blk_cell BK101.out 0).trans rfl;have hcz8_1 : w6.cell? ⟨gb101, 1, none⟩ = some (.int .i64 a0_1) := (blk_cell BK101.out 1).trans rfl;have hcz8_2 : w6.cell? ⟨gb101, 2, none⟩ = some (.int .i64 a0_2) := (blk_cell BK101.out 2).trans rfl;have hcz8_3 : w6.cell? ⟨gb101, 3, none⟩ = some (.slice A0_3 l0_3.length c0_3) := (blk_cell BK101.out 3).trans rfl;have hfz8_0 := blk_frozen BK101.out 0;have hfz8_1 := blk_frozen BK101.out 1;have hfz8_2 := blk_frozen BK101.out 2;have hfz8_3 := blk_frozen BK101.out 3) | ((with_reducible refine gate_callee (f := 8) rfl ?_);refine goesL_ (some 12) rfl rfl Try.func8 (by kernel_rfl) rfl #[.agg #[.int .i64 a0_0, .int .i64 a0_1, .int .i64 a0_2, .slice A0_3 l0_3.length c0_3], .int .i64 1048576] rfl (by (try simp only [List.map_toArray, List.map_cons, List.map_nil]);first | done | rfl | (simp only [List.length_drop, List.length_take];rfl)) ?_;(with_reducible refine (laws_szEx.calls k a0_0 a0_1 a0_2 _ _ l0_3 1048576 t103 _ ?side1 ?side2 A3.out).mono ?_);(case side1 => repeat (first | exact (Kd.C_below HR0_3.out HB.out) | (with_reducible refine Kd.C_alloc ?_ _) | (with_reducible refine Kd.C_drewN ?_ _) | (with_reducible refine Kd.C_drew ?_)));(case side2 => exact HC0_3.out);rintro e w9 ⟨rfl, hb⟩;refine ⟨_, rfl, ?_⟩;have n0_ := Aside0.mk (blk_below BK101.out hb);have n1_ := Aside0.mk (blk_below BK102.out hb);have n2_ := Aside0.mk (below_step (by exact HB.out) hb);clear BK101;clear BK102;clear HB;have BK101 := n0_;have BK102 := n1_;have HB := n2_;clear n0_ n1_ n2_;(try clear hb);(try clear hb2);(try clear hk);(try clear hi)))
  go_ret
  exact ⟨by first | rfl | (simp [errW_none, errW_some] <;> rfl) | (simp [*, errW_none, errW_some] <;> rfl), by repeat (first | (with_reducible first | exact HB.out | apply below_alloc | apply pw_below_drewN | apply below_drew1 | refine below_set ?_ GE101.out | refine below_set ?_ GE102.out) | exact HB.out)⟩
 ·rw [if_neg c4] at H
  have c4b0 : decide (t103 < 0) = false := decide_eq_false c4
  clear c4
  replace H := Option.bind_eq_some_iff.mp H
  obtain ⟨t104, A100, H⟩ := H
  replace H : (if t104 < 0 then (some true) else ((laws_toEx.f k a0_0 a0_1 a0_2 l0_3).bind fun bt105 => ((laws_toEx.f k a1_0 a1_1 a1_2 l1_3).bind fun bt111 => ((spec_ExSame.f k bt105.1 bt105.2.1 bt105.2.2.1 bt105.2.2.2 bt111.1 bt111.2.1 bt111.2.2.1 bt111.2.2.2).bind fun t117 => ((laws_toEx.f k a0_0 a0_1 a0_2 l0_3).bind fun bt118 => ((laws_toEx.f k a1_0 a1_1 a1_2 l1_3).bind fun bt125 => ((impl_ExSame.f k bt118.1 bt118.2.1 bt118.2.2.1 bt118.2.2.2 bt125.1 bt125.2.1 bt125.2.2.1 bt125.2.2.2).bind fun t132 => (if (t132 != t117) = true then (some false) else ((laws_toEx.f k a0_0 a0_1 a0_2 l0_3).bind fun bt133 => ((laws_eqEx.f k bt118.1 bt118.2.1 bt118.2.2.1 bt118.2.2.2 bt133.1 bt133.2.1 bt133.2.2.1 bt133.2.2.2).bind fun t139 => (if t139 = true then ((laws_toEx.f k a1_0 a1_1 a1_2 l1_3).bind fun bt140 => ((laws_eqEx.f k bt125.1 bt125.2.1 bt125.2.2.1 bt125.2.2.2 bt140.1 bt140.2.1 bt140.2.2.1 bt140.2.2.2).bind fun t146 => (if t146 = true then (some true) else (some false)))) else (some false)))))))))))) = some r := H
  have A10 := Aside0.mk A100
  clear A100
  by_cases c11 : t104 < 0
  ·rw [if_pos c11] at H
   have c11b0 : decide (t104 < 0) = true := decide_eq_true c11
   clear c11
   obtain rfl := Option.some.inj H
   go_enter Try.func3, Try.ntmps3
   go_wp2_with (first | ((with_reducible refine gate_dst (N := 2) rfl ?_);refine box_event ?hg (N := 2) ?hd (cs := #[.int .i64 a0_0, .int .i64 a0_1, .int .i64 a0_2, .slice A0_3 l0_3.length c0_3]) (t := 24) ?hr ?_;(case hd => rfl);(case hg => rfl);(case hr => first | (go_simp;done) | (go_simp;rfl));intro gb101 hg w12 hbox hb;have n0_ := Aside0.mk (below_step (by exact HB.out) hb);have n1_ := Aside0.mk (hbox);have n2_ := Aside0.mk ((by rw [hg];exact (below_size (by exact HB.out)) : w.heap.size ≤ gb101));have n3_ := Aside0.mk ((by rw [hg];exact (below_size (by exact HB.out)) : w.heap.size ≤ gb101));clear HB;have HB := n0_;have BK101 := n1_;have GW101 := n2_;have GE101 := n3_;clear n0_ n1_ n2_ n3_;clear hb hbox hg) | ((with_reducible refine gate_dst (N := 3) rfl ?_);refine box_event ?hg (N := 3) ?hd (cs := #[.int .i64 a1_0, .int .i64 a1_1, .int .i64 a1_2, .slice A1_3 l1_3.length c1_3]) (t := 24) ?hr ?_;(case hd => rfl);(case hg => rfl);(case hr => first | (go_simp;done) | (go_simp;rfl));intro gb102 hg w13 hbox hb;have n0_ := Aside0.mk (blk_below BK101.out hb);have n1_ := Aside0.mk (below_step (by exact HB.out) hb);have n2_ := Aside0.mk (hbox);have n3_ := Aside0.mk ((by rw [hg];exact (below_size (by exact HB.out)) : w.heap.size ≤ gb102));have n4_ := Aside0.mk ((by rw [hg];exact (below_size (by exact HB.out)) : w.heap.size ≤ gb102));have n5_ := Aside0.mk ((by rw [hg];exact Nat.ne_of_lt (blk_lt BK101.out) : gb101 ≠ gb102));have n6_ := Aside0.mk ((by rw [hg];exact Nat.ne_of_gt (blk_lt BK101.out) : gb102 ≠ gb101));clear BK101;clear HB;have BK101 := n0_;have HB := n1_;have BK102 := n2_;have GW102 := n3_;have GE102 := n4_;have NB101_102 := n5_;have NB102_101 := n6_;clear n0_ n1_ n2_ n3_ n4_ n5_ n6_;clear hb hbox hg;have hnb14 := NB101_102.out;have hnc14 := NB102_101.out;have hcz15_0 : w13.cell? ⟨gb101, 0, none⟩ = some (.int .i64 a0_0) := (blk_cell BK101.out 0).trans rfl;have hcz15_1 : w13.cell? ⟨gb101, 1, none⟩ = some (.int .i64 a0_1) := (blk_cell BK101.out 1).trans rfl;have hcz15_2 : w13.cell? ⟨gb101, 2, none⟩ = some (.int .i64 a0_2) := (blk_cell BK101.out 2).trans rfl;have hcz15_3 : w13.cell? ⟨gb101, 3, none⟩ = some (.slice A0_3 l0_3.length c0_3) := (blk_cell BK101.out 3).trans rfl;have hfz15_0 := blk_frozen BK101.out 0;have hfz15_1 := blk_frozen BK101.out 1;have hfz15_2 := blk_frozen BK101.out 2;have hfz15_3 := blk_frozen BK101.out 3) | ((with_reducible refine gate_callee (f := 8) rfl ?_);refine goesL_ (some 12) rfl rfl Try.func8 (by kernel_rfl) rfl #[.agg #[.int .i64 a0_0, .int .i64 a0_1, .int .i64 a0_2, .slice A0_3 l0_3.length c0_3], .int .i64 1048576] rfl (by (try simp only [List.map_toArray, List.map_cons, List.map_nil]);first | done | rfl | (simp only [List.length_drop, List.length_take];rfl)) ?_;(with_reducible refine (laws_szEx.calls k a0_0 a0_1 a0_2 _ _ l0_3 1048576 t103 _ ?side1 ?side2 A3.out).mono ?_);(case side1 => repeat (first | exact (Kd.C_below HR0_3.out HB.out) | (with_reducible refine Kd.C_alloc ?_ _) | (with_reducible refine Kd.C_drewN ?_ _) | (with_reducible refine Kd.C_drew ?_)));(case side2 => exact HC0_3.out);rintro e w16 ⟨rfl, hb⟩;refine ⟨_, rfl, ?_⟩;have n0_ := Aside0.mk (blk_below BK101.out hb);have n1_ := Aside0.mk (blk_below BK102.out hb);have n2_ := Aside0.mk (below_step (by exact HB.out) hb);clear BK101;clear BK102;clear HB;have BK101 := n0_;have BK102 := n1_;have HB := n2_;clear n0_ n1_ n2_;(try clear hb);(try clear hb2);(try clear hk);(try clear hi);have hcz17_0 : w16.cell? ⟨gb102, 0, none⟩ = some (.int .i64 a1_0) := (blk_cell BK102.out 0).trans rfl;have hcz17_1 : w16.cell? ⟨gb102, 1, none⟩ = some (.int .i64 a1_1) := (blk_cell BK102.out 1).trans rfl;have hcz17_2 : w16.cell? ⟨gb102, 2, none⟩ = some (.int .i64 a1_2) := (blk_cell BK102.out 2).trans rfl;have hcz17_3 : w16.cell? ⟨gb102, 3, none⟩ = some (.slice A1_3 l1_3.length c1_3) := (blk_cell BK102.out 3).trans rfl;have hfz17_0 := blk_frozen BK102.out 0;have hfz17_1 := blk_frozen BK102.out 1;have hfz17_2 := blk_frozen BK102.out 2;have hfz17_3 := blk_frozen BK102.out 3) | ((with_reducible refine gate_callee (f := 8) rfl ?_);refine goesL_ (some 17) rfl rfl Try.func8 (by kernel_rfl) rfl #[.agg #[.int .i64 a1_0, .int .i64 a1_1, .int .i64 a1_2, .slice A1_3 l1_3.length c1_3], .int .i64 t103] rfl (by (try simp only [List.map_toArray, List.map_cons, List.map_nil]);first | done | rfl | (simp only [List.length_drop, List.length_take];rfl)) ?_;(with_reducible refine (laws_szEx.calls k a1_0 a1_1 a1_2 _ _ l1_3 t103 t104 _ ?side1 ?side2 A10.out).mono ?_);(case side1 => repeat (first | exact (Kd.C_below HR1_3.out HB.out) | (with_reducible refine Kd.C_alloc ?_ _) | (with_reducible refine Kd.C_drewN ?_ _) | (with_reducible refine Kd.C_drew ?_)));(case side2 => exact HC1_3.out);rintro e w18 ⟨rfl, hb⟩;refine ⟨_, rfl, ?_⟩;have n0_ := Aside0.mk (blk_below BK101.out hb);have n1_ := Aside0.mk (blk_below BK102.out hb);have n2_ := Aside0.mk (below_step (by exact HB.out) hb);clear BK101;clear BK102;clear HB;have BK101 := n0_;have BK102 := n1_;have HB := n2_;clear n0_ n1_ n2_;(try clear hb);(try clear hb2);(try clear hk);(try clear hi)))
   go_ret
   exact ⟨by first | rfl | (simp [errW_none, errW_some] <;> rfl) | (simp [*, errW_none, errW_some] <;> rfl), by repeat (first | (with_reducible first | exact HB.out | apply below_alloc | apply pw_below_drewN | apply below_drew1 | refine below_set ?_ GE101.out | refine below_set ?_ GE102.out) | exact HB.out)⟩
  ·rw [if_neg c11] at H
   have c11b0 : decide (t104 < 0) = false := decide_eq_false c11
   clear c11
   replace H := Option.bind_eq_some_iff.mp H
   obtain ⟨⟨t105, t106, t107, t108⟩, A190, H⟩ := H
   replace H : ((laws_toEx.f k a1_0 a1_1 a1_2 l1_3).bind fun bt111 => ((spec_ExSame.f k t105 t106 t107 t108 bt111.1 bt111.2.1 bt111.2.2.1 bt111.2.2.2).bind fun t117 => ((laws_toEx.f k a0_0 a0_1 a0_2 l0_3).bind fun bt118 => ((laws_toEx.f k a1_0 a1_1 a1_2 l1_3).bind fun bt125 => ((impl_ExSame.f k bt118.1 bt118.2.1 bt118.2.2.1 bt118.2.2.2 bt125.1 bt125.2.1 bt125.2.2.1 bt125.2.2.2).bind fun t132 => (if (t132 != t117) = true then (some false) else ((laws_toEx.f k a0_0 a0_1 a0_2 l0_3).bind fun bt133 => ((laws_eqEx.f k bt118.1 bt118.2.1 bt118.2.2.1 bt118.2.2.2 bt133.1 bt133.2.1 bt133.2.2.1 bt133.2.2.2).bind fun t139 => (if t139 = true then ((laws_toEx.f k a1_0 a1_1 a1_2 l1_3).bind fun bt140 => ((laws_eqEx.f k bt125.1 bt125.2.1 bt125.2.2.1 bt125.2.2.2 bt140.1 bt140.2.1 bt140.2.2.1 bt140.2.2.2).bind fun t146 => (if t146 = true then (some true) else (some false)))) else (some false)))))))))) = some r := H
   have A19 := Aside0.mk A190
   clear A190
   replace H := Option.bind_eq_some_iff.mp H
   obtain ⟨⟨t111, t112, t113, t114⟩, A200, H⟩ := H
   replace H : ((spec_ExSame.f k t105 t106 t107 t108 t111 t112 t113 t114).bind fun t117 => ((laws_toEx.f k a0_0 a0_1 a0_2 l0_3).bind fun bt118 => ((laws_toEx.f k a1_0 a1_1 a1_2 l1_3).bind fun bt125 => ((impl_ExSame.f k bt118.1 bt118.2.1 bt118.2.2.1 bt118.2.2.2 bt125.1 bt125.2.1 bt125.2.2.1 bt125.2.2.2).bind fun t132 => (if (t132 != t117) = true then (some false) else ((laws_toEx.f k a0_0 a0_1 a0_2 l0_3).bind fun bt133 => ((laws_eqEx.f k bt118.1 bt118.2.1 bt118.2.2.1 bt118.2.2.2 bt133.1 bt133.2.1 bt133.2.2.1 bt133.2.2.2).bind fun t139 => (if t139 = true then ((laws_toEx.f k a1_0 a1_1 a1_2 l1_3).bind fun bt140 => ((laws_eqEx.f k bt125.1 bt125.2.1 bt125.2.2.1 bt125.2.2.2 bt140.1 bt140.2.1 bt140.2.2.1 bt140.2.2.2).bind fun t146 => (if t146 = true then (some true) else (some false)))) else (some false))))))))) = some r := H
   have A20 := Aside0.mk A200
   clear A200
   replace H := Option.bind_eq_some_iff.mp H
   obtain ⟨t117, A210, H⟩ := H
   replace H : ((laws_toEx.f k a0_0 a0_1 a0_2 l0_3).bind fun bt118 => ((laws_toEx.f k a1_0 a1_1 a1_2 l1_3).bind fun bt125 => ((impl_ExSame.f k bt118.1 bt118.2.1 bt118.2.2.1 bt118.2.2.2 bt125.1 bt125.2.1 bt125.2.2.1 bt125.2.2.2).bind fun t132 => (if (t132 != t117) = true then (some false) else ((laws_toEx.f k a0_0 a0_1 a0_2 l0_3).bind fun bt133 => ((laws_eqEx.f k bt118.1 bt118.2.1 bt118.2.2.1 bt118.2.2.2 bt133.1 bt133.2.1 bt133.2.2.1 bt133.2.2.2).bind fun t139 => (if t139 = true then ((laws_toEx.f k a1_0 a1_1 a1_2 l1_3).bind fun bt140 => ((laws_eqEx.f k bt125.1 bt125.2.1 bt125.2.2.1 bt125.2.2.2 bt140.1 bt140.2.1 bt140.2.2.1 bt140.2.2.2).bind fun t146 => (if t146 = true then (some true) else (some false)))) else (some false)))))))) = some r := H
   have A21 := Aside0.mk A210
   clear A210
   replace H := Option.bind_eq_some_iff.mp H
   obtain ⟨⟨t118, t119, t120, t121⟩, A220, H⟩ := H
   replace H : ((laws_toEx.f k a1_0 a1_1 a1_2 l1_3).bind fun bt125 => ((impl_ExSame.f k t118 t119 t120 t121 bt125.1 bt125.2.1 bt125.2.2.1 bt125.2.2.2).bind fun t132 => (if (t132 != t117) = true then (some false) else ((laws_toEx.f k a0_0 a0_1 a0_2 l0_3).bind fun bt133 => ((laws_eqEx.f k t118 t119 t120 t121 bt133.1 bt133.2.1 bt133.2.2.1 bt133.2.2.2).bind fun t139 => (if t139 = true then ((laws_toEx.f k a1_0 a1_1 a1_2 l1_3).bind fun bt140 => ((laws_eqEx.f k bt125.1 bt125.2.1 bt125.2.2.1 bt125.2.2.2 bt140.1 bt140.2.1 bt140.2.2.1 bt140.2.2.2).bind fun t146 => (if t146 = true then (some true) else (some false)))) else (some false))))))) = some r := H
   have A22 := Aside0.mk A220
   clear A220
   replace H := Option.bind_eq_some_iff.mp H
   obtain ⟨⟨t125, t126, t127, t128⟩, A230, H⟩ := H
   replace H : ((impl_ExSame.f k t118 t119 t120 t121 t125 t126 t127 t128).bind fun t132 => (if (t132 != t117) = true then (some false) else ((laws_toEx.f k a0_0 a0_1 a0_2 l0_3).bind fun bt133 => ((laws_eqEx.f k t118 t119 t120 t121 bt133.1 bt133.2.1 bt133.2.2.1 bt133.2.2.2).bind fun t139 => (if t139 = true then ((laws_toEx.f k a1_0 a1_1 a1_2 l1_3).bind fun bt140 => ((laws_eqEx.f k t125 t126 t127 t128 bt140.1 bt140.2.1 bt140.2.2.1 bt140.2.2.2).bind fun t146 => (if t146 = true then (some true) else (some false)))) else (some false)))))) = some r := H
   have A23 := Aside0.mk A230
   clear A230
   replace H := Option.bind_eq_some_iff.mp H
   obtain ⟨t132, A240, H⟩ := H
   replace H : (if (t132 != t117) = true then (some false) else ((laws_toEx.f k a0_0 a0_1 a0_2 l0_3).bind fun bt133 => ((laws_eqEx.f k t118 t119 t120 t121 bt133.1 bt133.2.1 bt133.2.2.1 bt133.2.2.2).bind fun t139 => (if t139 = true then ((laws_toEx.f k a1_0 a1_1 a1_2 l1_3).bind fun bt140 => ((laws_eqEx.f k t125 t126 t127 t128 bt140.1 bt140.2.1 bt140.2.2.1 bt140.2.2.2).bind fun t146 => (if t146 = true then (some true) else (some false)))) else (some false))))) = some r := H
   have A24 := Aside0.mk A240
   clear A240
   by_cases c25 : (t132 != t117) = true
   ·rw [if_pos c25] at H
    have c25b0 : (t132 != t117) = true := c25
    (try (have c25b1 : decide (t132 = t117) = false := by simpa using c25))
    (try (have c25b2 : (t132 == t117) = false := by simpa using c25))
    (try (have c25b3 : ¬ (t132 = t117) := by simpa using c25))
    clear c25
    obtain rfl := Option.some.inj H
    go_enter Try.func3, Try.ntmps3
    try go_wp2_with (first | ((with_reducible refine gate_dst (N := 2) rfl ?_);refine box_event ?hg (N := 2) ?hd (cs := #[.int .i64 a0_0, .int .i64 a0_1, .int .i64 a0_2, .slice A0_3 l0_3.length c0_3]) (t := 24) ?hr ?_;(case hd => rfl);(case hg => rfl);(case hr => first | (go_simp;done) | (go_simp;rfl));intro gb101 hg w26 hbox hb;have n0_ := Aside0.mk (below_step (by exact HB.out) hb);have n1_ := Aside0.mk (hbox);have n2_ := Aside0.mk ((by rw [hg];exact (below_size (by exact HB.out)) : w.heap.size ≤ gb101));have n3_ := Aside0.mk ((by rw [hg];exact (below_size (by exact HB.out)) : w.heap.size ≤ gb101));clear HB;have HB := n0_;have BK101 := n1_;have GW101 := n2_;have GE101 := n3_;clear n0_ n1_ n2_ n3_;clear hb hbox hg) | ((with_reducible refine gate_dst (N := 3) rfl ?_);refine box_event ?hg (N := 3) ?hd (cs := #[.int .i64 a1_0, .int .i64 a1_1, .int .i64 a1_2, .slice A1_3 l1_3.length c1_3]) (t := 24) ?hr ?_;(case hd => rfl);(case hg => rfl);(case hr => first | (go_simp;done) | (go_simp;rfl));intro gb102 hg w27 hbox hb;have n0_ := Aside0.mk (blk_below BK101.out hb);have n1_ := Aside0.mk (below_step (by exact HB.out) hb);have n2_ := Aside0.mk (hbox);have n3_ := Aside0.mk ((by rw [hg];exact (below_size (by exact HB.out)) : w.heap.size ≤ gb102));have n4_ := Aside0.mk ((by rw [hg];exact (below_size (by exact HB.out)) : w.heap.size ≤ gb102));have n5_ := Aside0.mk ((by rw [hg];exact Nat.ne_of_lt (blk_lt BK101.out) : gb101 ≠ gb102));have n6_ := Aside0.mk ((by rw [hg];exact Nat.ne_of_gt (blk_lt BK101.out) : gb102 ≠ gb101));clear BK101;clear HB;have BK101 := n0_;have HB := n1_;have BK102 := n2_;have GW102 := n3_;have GE102 := n4_;have NB101_102 := n5_;have NB102_101 := n6_;clear n0_ n1_ n2_ n3_ n4_ n5_ n6_;clear hb hbox hg;have hnb28 := NB101_102.out;have hnc28 := NB102_101.out;have hcz29_0 : w27.cell? ⟨gb101, 0, none⟩ = some (.int .i64 a0_0) := (blk_cell BK101.out 0).trans rfl;have hcz29_1 : w27.cell? ⟨gb101, 1, none⟩ = some (.int .i64 a0_1) := (blk_cell BK101.out 1).trans rfl;have hcz29_2 : w27.cell? ⟨gb101, 2, none⟩ = some (.int .i64 a0_2) := (blk_cell BK101.out 2).trans rfl;have hcz29_3 : w27.cell? ⟨gb101, 3, none⟩ = some (.slice A0_3 l0_3.length c0_3) := (blk_cell BK101.out 3).trans rfl;have hfz29_0 := blk_frozen BK101.out 0;have hfz29_1 := blk_frozen BK101.out 1;have hfz29_2 := blk_frozen BK101.out 2;have hfz29_3 := blk_frozen BK101.out 3) | ((with_reducible refine gate_callee (f := 8) rfl ?_);refine goesL_ (some 12) rfl rfl Try.func8 (by kernel_rfl) rfl #[.agg #[.int .i64 a0_0, .int .i64 a0_1, .int .i64 a0_2, .slice A0_3 l0_3.length c0_3], .int .i64 1048576] rfl (by (try simp only [List.map_toArray, List.map_cons, List.map_nil]);first | done | rfl | (simp only [List.length_drop, List.length_take];rfl)) ?_;(with_reducible refine (laws_szEx.calls k a0_0 a0_1 a0_2 _ _ l0_3 1048576 t103 _ ?side1 ?side2 A3.out).mono ?_);(case side1 => repeat (first | exact (Kd.C_below HR0_3.out HB.out) | (with_reducible refine Kd.C_alloc ?_ _) | (with_reducible refine Kd.C_drewN ?_ _) | (with_reducible refine Kd.C_drew ?_)));(case side2 => exact HC0_3.out);rintro e w30 ⟨rfl, hb⟩;refine ⟨_, rfl, ?_⟩;have n0_ := Aside0.mk (blk_below BK101.out hb);have n1_ := Aside0.mk (blk_below BK102.out hb);have n2_ := Aside0.mk (below_step (by exact HB.out) hb);clear BK101;clear BK102;clear HB;have BK101 := n0_;have BK102 := n1_;have HB := n2_;clear n0_ n1_ n2_;(try clear hb);(try clear hb2);(try clear hk);(try clear hi);have hcz31_0 : w30.cell? ⟨gb102, 0, none⟩ = some (.int .i64 a1_0) := (blk_cell BK102.out 0).trans rfl;have hcz31_1 : w30.cell? ⟨gb102, 1, none⟩ = some (.int .i64 a1_1) := (blk_cell BK102.out 1).trans rfl;have hcz31_2 : w30.cell? ⟨gb102, 2, none⟩ = some (.int .i64 a1_2) := (blk_cell BK102.out 2).trans rfl;have hcz31_3 : w30.cell? ⟨gb102, 3, none⟩ = some (.slice A1_3 l1_3.length c1_3) := (blk_cell BK102.out 3).trans rfl;have hfz31_0 := blk_frozen BK102.out 0;have hfz31_1 := blk_frozen BK102.out 1;have hfz31_2 := blk_frozen BK102.out 2;have hfz31_3 := blk_frozen BK102.out 3) | ((with_reducible refine gate_callee (f := 8) rfl ?_);refine goesL_ (some 17) rfl rfl Try.func8 (by kernel_rfl) rfl #[.agg #[.int .i64 a1_0, .int .i64 a1_1, .int .i64 a1_2, .slice A1_3 l1_3.length c1_3], .int .i64 t103] rfl (by (try simp only [List.map_toArray, List.map_cons, List.map_nil]);first | done | rfl | (simp only [List.length_drop, List.length_take];rfl)) ?_;(with_reducible refine (laws_szEx.calls k a1_0 a1_1 a1_2 _ _ l1_3 t103 t104 _ ?side1 ?side2 A10.out).mono ?_);(case side1 => repeat (first | exact (Kd.C_below HR1_3.out HB.out) | (with_reducible refine Kd.C_alloc ?_ _) | (with_reducible refine Kd.C_drewN ?_ _) | (with_reducible refine Kd.C_drew ?_)));(case side2 => exact HC1_3.out);rintro e w32 ⟨rfl, hb⟩;refine ⟨_, rfl, ?_⟩;have n0_ := Aside0.mk (blk_below BK101.out hb);have n1_ := Aside0.mk (blk_below BK102.out hb);have n2_ := Aside0.mk (below_step (by exact HB.out) hb);clear BK101;clear BK102;clear HB;have BK101 := n0_;have BK102 := n1_;have HB := n2_;clear n0_ n1_ n2_;(try clear hb);(try clear hb2);(try clear hk);(try clear hi)))
    have n0_ := Aside0.mk (blk_drew BK101.out)
    have n1_ := Aside0.mk (blk_drew BK102.out)
    have n2_ := Aside0.mk (below_drew1 HB.out)
    clear BK101
    clear BK102
    clear HB
    have BK101 := n0_
    have BK102 := n1_
    have HB := n2_
    clear n0_ n1_ n2_
    refine start_ (n := 6) (S := fun w' => w'.cell? ⟨gb101, 0, none⟩ = some (.int .i64 a0_0) ∧ w'.cell? ⟨gb101, 1, none⟩ = some (.int .i64 a0_1) ∧ w'.cell? ⟨gb101, 2, none⟩ = some (.int .i64 a0_2) ∧ w'.cell? ⟨gb101, 3, none⟩ = some (.slice A0_3 l0_3.length c0_3) ∧ w'.cell? ⟨gb102, 0, none⟩ = some (.int .i64 a1_0) ∧ w'.cell? ⟨gb102, 1, none⟩ = some (.int .i64 a1_1) ∧ w'.cell? ⟨gb102, 2, none⟩ = some (.int .i64 a1_2) ∧ w'.cell? ⟨gb102, 3, none⟩ = some (.slice A1_3 l1_3.length c1_3)) (ds := []) #[false, false, false, false, false, false] (by kernel_rfl) rfl rfl ⟨(blk_cell BK101.out 0).trans rfl, (blk_cell BK101.out 1).trans rfl, (blk_cell BK101.out 2).trans rfl, (blk_cell BK101.out 3).trans rfl, (blk_cell BK102.out 0).trans rfl, (blk_cell BK102.out 1).trans rfl, (blk_cell BK102.out 2).trans rfl, (blk_cell BK102.out 3).trans rfl⟩ (fun hHeld => ?_)
    generalize w32.drew = w33 at BK101 BK102 HB hHeld ⊢
    refine take_ (i := 0) (N := some 20) (v := ?_) (a' := ?_) #[true, false, false, false, false, false] rfl rfl (by kernel_rfl) (fun _ _ _ h => h) (Or.inl ⟨by rfl, ?_⟩) hHeld ?_ ?_
    rotate_left
    ·rintro w' ⟨s0, s1, s2, s3, s4, s5, s6, s7⟩
     go_simp
     with_reducible rfl
    rotate_left
    ·simp only [Act.put, List.setIfInBounds_toArray, List.set_cons_zero, List.set_cons_succ, i64_w, i32_w]
     rfl
    refine take_ (i := 2) (N := some 22) (v := ?_) (a' := ?_) #[true, false, true, false, false, false] rfl rfl (by kernel_rfl) (fun _ _ _ h => h) (Or.inl ⟨by rfl, ?_⟩) hHeld ?_ ?_
    rotate_left
    ·rintro w' ⟨s0, s1, s2, s3, s4, s5, s6, s7⟩
     go_simp
     with_reducible rfl
    rotate_left
    ·simp only [Act.put, List.setIfInBounds_toArray, List.set_cons_zero, List.set_cons_succ, i64_w, i32_w]
     rfl
    refine one_ (i := 1) (N := some 21) #[true, true, true, false, false, false] rfl rfl (by kernel_rfl) (by decide) (fun K hK => ?_)
    refine goes_ Try.func10 (by kernel_rfl) rfl #[.agg #[.int .i64 a0_0, .int .i64 a0_1, .int .i64 a0_2, .slice A0_3 l0_3.length c0_3]] (by rfl) rfl rfl (by (try simp only [List.map_toArray, List.map_cons, List.map_nil]);first | done | rfl | (simp only [List.length_drop, List.length_take];rfl)) ?_
    with_reducible refine (laws_toEx.calls k a0_0 a0_1 a0_2 _ _ l0_3 t105 t106 t107 t108 _ ?side1 ?side2 A19.out).mono ?_
    (case side1 => repeat (first | exact (Kd.C_below HR0_3.out HB.out) | (with_reducible refine Kd.C_alloc ?_ _) | (with_reducible refine Kd.C_drewN ?_ _) | (with_reducible refine Kd.C_drew ?_)))
    (case side2 => exact HC0_3.out)
    rintro e w34 ⟨v109, rfl, ho0, hb⟩
    refine ⟨_, rfl, ?_⟩
    have n0_ := Aside0.mk (Kd.R_lower ho0 (below_size (by exact HB.out)))
    have n1_ := Aside0.mk (blk_below BK101.out hb)
    have n2_ := Aside0.mk (blk_below BK102.out hb)
    have n3_ := Aside0.mk (below_step (by exact HB.out) hb)
    clear BK101
    clear BK102
    clear HB
    have HO110 := n0_
    have BK101 := n1_
    have BK102 := n2_
    have HB := n3_
    clear n0_ n1_ n2_ n3_
    (try clear hb)
    (try clear hb2)
    (try clear hk)
    (try clear hi)
    (try clear ho0)
    refine hK.out _ _ ⟨(blk_cell BK101.out 0).trans rfl, (blk_cell BK101.out 1).trans rfl, (blk_cell BK101.out 2).trans rfl, (blk_cell BK101.out 3).trans rfl, (blk_cell BK102.out 0).trans rfl, (blk_cell BK102.out 1).trans rfl, (blk_cell BK102.out 2).trans rfl, (blk_cell BK102.out 3).trans rfl⟩ (fun hHeld => ?_)
    clear hK K
    refine norm_ (a' := ?_) ?_ ?_
    rotate_left
    ·show Act.put _ (some 21) _ = _
     simp only [Act.put, List.setIfInBounds_toArray, List.set_cons_zero, List.set_cons_succ, i64_w, i32_w]
     rfl
    refine one_ (i := 3) (N := some 23) #[true, true, true, true, false, false] rfl rfl (by kernel_rfl) (by decide) (fun K hK => ?_)
    refine goes_ Try.func10 (by kernel_rfl) rfl #[.agg #[.int .i64 a1_0, .int .i64 a1_1, .int .i64 a1_2, .slice A1_3 l1_3.length c1_3]] (by rfl) rfl rfl (by (try simp only [List.map_toArray, List.map_cons, List.map_nil]);first | done | rfl | (simp only [List.length_drop, List.length_take];rfl)) ?_
    with_reducible refine (laws_toEx.calls k a1_0 a1_1 a1_2 _ _ l1_3 t111 t112 t113 t114 _ ?side1 ?side2 A20.out).mono ?_
    (case side1 => repeat (first | exact (Kd.C_below HR1_3.out HB.out) | (with_reducible refine Kd.C_alloc ?_ _) | (with_reducible refine Kd.C_drewN ?_ _) | (with_reducible refine Kd.C_drew ?_)))
    (case side2 => exact HC1_3.out)
    rintro e w35 ⟨v115, rfl, ho0, hb⟩
    refine ⟨_, rfl, ?_⟩
    have n0_ := Aside0.mk (Kd.R_elder' (by (with_reducible repeat (first | apply Kd.R_alloc | apply Kd.R_drewN | apply Kd.R_drew));exact HO110.out) (Kd.R_base ho0) hb)
    have n1_ := Aside0.mk (Kd.R_lower (Kd.R_new' ho0 (Kd.R_lt (by (with_reducible repeat (first | apply Kd.R_alloc | apply Kd.R_drewN | apply Kd.R_drew));exact HO110.out))) (below_size (by exact HB.out)))
    have n2_ := Aside0.mk (blk_below BK101.out hb)
    have n3_ := Aside0.mk (blk_below BK102.out hb)
    have n4_ := Aside0.mk (below_step (by exact HB.out) hb)
    clear HO110
    clear BK101
    clear BK102
    clear HB
    have HO110 := n0_
    have HO116 := n1_
    have BK101 := n2_
    have BK102 := n3_
    have HB := n4_
    clear n0_ n1_ n2_ n3_ n4_
    (try clear hb)
    (try clear hb2)
    (try clear hk)
    (try clear hi)
    (try clear ho0)
    obtain ⟨Ao36, co36, eo36⟩ := Kd.R_slice HO110.out
    (first | subst eo36 | (injection eo36 with f1_ f2_ f3_;have f4_ := f1_.symm;have f5_ := f3_.symm;clear f1_ f2_ f3_;subst f4_;subst f5_))
    obtain ⟨Ao37, co37, eo37⟩ := Kd.R_slice HO116.out
    (first | subst eo37 | (injection eo37 with f1_ f2_ f3_;have f4_ := f1_.symm;have f5_ := f3_.symm;clear f1_ f2_ f3_;subst f4_;subst f5_))
    refine hK.out _ _ ⟨(blk_cell BK101.out 0).trans rfl, (blk_cell BK101.out 1).trans rfl, (blk_cell BK101.out 2).trans rfl, (blk_cell BK101.out 3).trans rfl, (blk_cell BK102.out 0).trans rfl, (blk_cell BK102.out 1).trans rfl, (blk_cell BK102.out 2).trans rfl, (blk_cell BK102.out 3).trans rfl⟩ (fun hHeld => ?_)
    clear hK K
    refine norm_ (a' := ?_) ?_ ?_
    rotate_left
    ·show Act.put _ (some 23) _ = _
     simp only [Act.put, List.setIfInBounds_toArray, List.set_cons_zero, List.set_cons_succ, i64_w, i32_w]
     rfl
    refine one_ (i := 4) (N := some 24) #[true, true, true, true, true, false] rfl rfl (by kernel_rfl) (by decide) (fun K hK => ?_)
    refine goes_ Try.func9 (by kernel_rfl) rfl #[.agg #[.int .i64 t105, .int .i64 t106, .int .i64 t107, .slice Ao36 t108.length co36], .agg #[.int .i64 t111, .int .i64 t112, .int .i64 t113, .slice Ao37 t114.length co37]] (by rfl) rfl rfl (by (try simp only [List.map_toArray, List.map_cons, List.map_nil]);first | done | rfl | (simp only [List.length_drop, List.length_take];rfl)) ?_
    with_reducible refine (spec_ExSame.calls k t105 t106 t107 _ _ t108 t111 t112 t113 _ _ t114 t117 _ ?side1 ?side2 ?side3 ?side4 A21.out).mono ?_
    (case side1 => repeat (first | exact (Kd.R_reads' HO110.out).2.2 | (with_reducible refine Kd.C_alloc ?_ _) | (with_reducible refine Kd.C_drewN ?_ _) | (with_reducible refine Kd.C_drew ?_)))
    (case side2 => exact (Kd.R_reads' HO110.out).2.1)
    (case side3 => repeat (first | exact (Kd.R_reads' HO116.out).2.2 | (with_reducible refine Kd.C_alloc ?_ _) | (with_reducible refine Kd.C_drewN ?_ _) | (with_reducible refine Kd.C_drew ?_)))
    (case side4 => exact (Kd.R_reads' HO116.out).2.1)
    rintro e w38 ⟨rfl, hb⟩
    refine ⟨_, rfl, ?_⟩
    have n0_ := Aside0.mk (Kd.R_below (by (with_reducible repeat (first | apply Kd.R_alloc | apply Kd.R_drewN | apply Kd.R_drew));exact HO110.out) hb)
    have n1_ := Aside0.mk (Kd.R_below (by (with_reducible repeat (first | apply Kd.R_alloc | apply Kd.R_drewN | apply Kd.R_drew));exact HO116.out) hb)
    have n2_ := Aside0.mk (blk_below BK101.out hb)
    have n3_ := Aside0.mk (blk_below BK102.out hb)
    have n4_ := Aside0.mk (below_step (by exact HB.out) hb)
    clear HO110
    clear HO116
    clear BK101
    clear BK102
    clear HB
    have HO110 := n0_
    have HO116 := n1_
    have BK101 := n2_
    have BK102 := n3_
    have HB := n4_
    clear n0_ n1_ n2_ n3_ n4_
    (try clear hb)
    (try clear hb2)
    (try clear hk)
    (try clear hi)
    refine hK.out _ _ ⟨(blk_cell BK101.out 0).trans rfl, (blk_cell BK101.out 1).trans rfl, (blk_cell BK101.out 2).trans rfl, (blk_cell BK101.out 3).trans rfl, (blk_cell BK102.out 0).trans rfl, (blk_cell BK102.out 1).trans rfl, (blk_cell BK102.out 2).trans rfl, (blk_cell BK102.out 3).trans rfl⟩ (fun hHeld => ?_)
    clear hK K
    refine norm_ (a' := ?_) ?_ ?_
    rotate_left
    ·show Act.put _ (some 24) _ = _
     simp only [Act.put, List.setIfInBounds_toArray, List.set_cons_zero, List.set_cons_succ, i64_w, i32_w]
     rfl
    refine pure_ (i := 5) (N := some 6) (v := ?_) (a' := ?_) #[true, true, true, true, true, true] rfl rfl (by kernel_rfl) (fun _ _ _ h => h) (Or.inl ⟨by rfl, ?_⟩) ?_ ?_
    rotate_left
    ·intro w'
     go_simp
     with_reducible rfl
    rotate_left
    ·simp only [Act.put, List.setIfInBounds_toArray, List.set_cons_zero, List.set_cons_succ, i64_w, i32_w]
     rfl
    refine done_ (by kernel_rfl) ?_
    have hcz39_0 : w38.cell? ⟨gb101, 0, none⟩ = some (.int .i64 a0_0) := (blk_cell BK101.out 0).trans rfl
    have hcz39_1 : w38.cell? ⟨gb101, 1, none⟩ = some (.int .i64 a0_1) := (blk_cell BK101.out 1).trans rfl
    have hcz39_2 : w38.cell? ⟨gb101, 2, none⟩ = some (.int .i64 a0_2) := (blk_cell BK101.out 2).trans rfl
    have hcz39_3 : w38.cell? ⟨gb101, 3, none⟩ = some (.slice A0_3 l0_3.length c0_3) := (blk_cell BK101.out 3).trans rfl
    have hfz39_0 := blk_frozen BK101.out 0
    have hfz39_1 := blk_frozen BK101.out 1
    have hfz39_2 := blk_frozen BK101.out 2
    have hfz39_3 := blk_frozen BK101.out 3
    try go_wp2_with (first | ((with_reducible refine gate_callee (f := 10) rfl ?_);refine goesL_ (some 26) rfl rfl Try.func10 (by kernel_rfl) rfl #[.agg #[.int .i64 a0_0, .int .i64 a0_1, .int .i64 a0_2, .slice A0_3 l0_3.length c0_3]] rfl (by (try simp only [List.map_toArray, List.map_cons, List.map_nil]);first | done | rfl | (simp only [List.length_drop, List.length_take];rfl)) ?_;(with_reducible refine (laws_toEx.calls k a0_0 a0_1 a0_2 _ _ l0_3 t118 t119 t120 t121 _ ?side1 ?side2 A22.out).mono ?_);(case side1 => repeat (first | exact (Kd.C_below HR0_3.out HB.out) | (with_reducible refine Kd.C_alloc ?_ _) | (with_reducible refine Kd.C_drewN ?_ _) | (with_reducible refine Kd.C_drew ?_)));(case side2 => exact HC0_3.out);rintro e w40 ⟨v122, rfl, ho0, hb⟩;refine ⟨_, rfl, ?_⟩;have n0_ := Aside0.mk (Kd.R_elder' (by (with_reducible repeat (first | apply Kd.R_alloc | apply Kd.R_drewN | apply Kd.R_drew));exact HO110.out) (Kd.R_base ho0) hb);have n1_ := Aside0.mk (Kd.R_elder' (by (with_reducible repeat (first | apply Kd.R_alloc | apply Kd.R_drewN | apply Kd.R_drew));exact HO116.out) (Kd.R_base ho0) hb);have n2_ := Aside0.mk (Kd.R_lower (Kd.R_new' (Kd.R_new' ho0 (Kd.R_lt (by (with_reducible repeat (first | apply Kd.R_alloc | apply Kd.R_drewN | apply Kd.R_drew));exact HO110.out))) (Kd.R_lt (by (with_reducible repeat (first | apply Kd.R_alloc | apply Kd.R_drewN | apply Kd.R_drew));exact HO116.out))) (below_size (by repeat (first | (with_reducible first | exact HB.out | apply below_alloc | apply pw_below_drewN | apply below_drew1 | refine below_set ?_ GE101.out | refine below_set ?_ GE102.out) | exact HB.out))));have n3_ := Aside0.mk (blk_below BK101.out hb);have n4_ := Aside0.mk (blk_below BK102.out hb);have n5_ := Aside0.mk (below_step (by repeat (first | (with_reducible first | exact HB.out | apply below_alloc | apply pw_below_drewN | apply below_drew1 | refine below_set ?_ GE101.out | refine below_set ?_ GE102.out) | exact HB.out)) hb);clear HO110;clear HO116;clear BK101;clear BK102;clear HB;have HO110 := n0_;have HO116 := n1_;have HO123 := n2_;have BK101 := n3_;have BK102 := n4_;have HB := n5_;clear n0_ n1_ n2_ n3_ n4_ n5_;(try clear hb);(try clear hb2);(try clear hk);(try clear hi);(try clear ho0)) | ((with_reducible refine gate_dst (N := 7) rfl ?_);refine box_event ?hg (N := 7) ?hd (cs := #[.int .i64 0, .int .i64 0, .int .i64 0, .slice none 0 0]) (t := 29) ?hr ?_;(case hd => rfl);(case hg => rfl);(case hr => first | (go_simp;done) | (go_simp;rfl));intro gb124 hg w41 hbox hb;have n0_ := Aside0.mk (Kd.R_below (Kd.R_elderB (by (with_reducible repeat (first | apply Kd.R_alloc | apply Kd.R_drewN | apply Kd.R_drew));exact HO110.out) gb124 (Nat.le_of_eq hg.symm)) hb);have n1_ := Aside0.mk (Kd.R_below (Kd.R_elderB (by (with_reducible repeat (first | apply Kd.R_alloc | apply Kd.R_drewN | apply Kd.R_drew));exact HO116.out) gb124 (Nat.le_of_eq hg.symm)) hb);have n2_ := Aside0.mk (Kd.R_below (Kd.R_elderB (by (with_reducible repeat (first | apply Kd.R_alloc | apply Kd.R_drewN | apply Kd.R_drew));exact HO123.out) gb124 (Nat.le_of_eq hg.symm)) hb);have n3_ := Aside0.mk (blk_below BK101.out hb);have n4_ := Aside0.mk (blk_below BK102.out hb);have n5_ := Aside0.mk (below_step (by repeat (first | (with_reducible first | exact HB.out | apply below_alloc | apply pw_below_drewN | apply below_drew1 | refine below_set ?_ GE101.out | refine below_set ?_ GE102.out) | exact HB.out)) hb);have n6_ := Aside0.mk (hbox);have n7_ := Aside0.mk ((by rw [hg];exact (below_size (by repeat (first | (with_reducible first | exact HB.out | apply below_alloc | apply pw_below_drewN | apply below_drew1 | refine below_set ?_ GE101.out | refine below_set ?_ GE102.out) | exact HB.out))) : w.heap.size ≤ gb124));have n8_ := Aside0.mk ((by rw [hg];exact (below_size (by repeat (first | (with_reducible first | exact HB.out | apply below_alloc | apply pw_below_drewN | apply below_drew1 | refine below_set ?_ GE101.out | refine below_set ?_ GE102.out) | exact HB.out))) : w.heap.size ≤ gb124));have n9_ := Aside0.mk ((by rw [hg];exact Nat.ne_of_lt (blk_lt BK101.out) : gb101 ≠ gb124));have n10_ := Aside0.mk ((by rw [hg];exact Nat.ne_of_gt (blk_lt BK101.out) : gb124 ≠ gb101));have n11_ := Aside0.mk ((by rw [hg];exact Nat.ne_of_lt (blk_lt BK102.out) : gb102 ≠ gb124));have n12_ := Aside0.mk ((by rw [hg];exact Nat.ne_of_gt (blk_lt BK102.out) : gb124 ≠ gb102));clear HO110;clear HO116;clear HO123;clear BK101;clear BK102;clear HB;have HO110 := n0_;have HO116 := n1_;have HO123 := n2_;have BK101 := n3_;have BK102 := n4_;have HB := n5_;have BK124 := n6_;have GW124 := n7_;have GE124 := n8_;have NB101_124 := n9_;have NB124_101 := n10_;have NB102_124 := n11_;have NB124_102 := n12_;clear n0_ n1_ n2_ n3_ n4_ n5_ n6_ n7_ n8_ n9_ n10_ n11_ n12_;clear hb hbox hg;have hnb42 := NB124_101.out;have hnc42 := NB101_124.out;have hnb43 := NB124_102.out;have hnc43 := NB102_124.out;have hcz44_0 : w41.cell? ⟨gb124, 0, none⟩ = some (.int .i64 0) := (blk_cell BK124.out 0).trans rfl;have hcz44_1 : w41.cell? ⟨gb124, 1, none⟩ = some (.int .i64 0) := (blk_cell BK124.out 1).trans rfl;have hcz44_2 : w41.cell? ⟨gb124, 2, none⟩ = some (.int .i64 0) := (blk_cell BK124.out 2).trans rfl;have hcz44_3 : w41.cell? ⟨gb124, 3, none⟩ = some (.slice none 0 0) := (blk_cell BK124.out 3).trans rfl;have hfz44_0 := blk_frozen BK124.out 0;have hfz44_1 := blk_frozen BK124.out 1;have hfz44_2 := blk_frozen BK124.out 2;have hfz44_3 := blk_frozen BK124.out 3;obtain ⟨Ao45, co45, eo45⟩ := Kd.R_slice HO123.out;subst eo45;have hcz46_0 : w41.cell? ⟨gb102, 0, none⟩ = some (.int .i64 a1_0) := (blk_cell BK102.out 0).trans rfl;have hcz46_1 : w41.cell? ⟨gb102, 1, none⟩ = some (.int .i64 a1_1) := (blk_cell BK102.out 1).trans rfl;have hcz46_2 : w41.cell? ⟨gb102, 2, none⟩ = some (.int .i64 a1_2) := (blk_cell BK102.out 2).trans rfl;have hcz46_3 : w41.cell? ⟨gb102, 3, none⟩ = some (.slice A1_3 l1_3.length c1_3) := (blk_cell BK102.out 3).trans rfl;have hfz46_0 := blk_frozen BK102.out 0;have hfz46_1 := blk_frozen BK102.out 1;have hfz46_2 := blk_frozen BK102.out 2;have hfz46_3 := blk_frozen BK102.out 3) | ((with_reducible refine gate_callee (f := 10) rfl ?_);refine goesL_ (some 28) rfl rfl Try.func10 (by kernel_rfl) rfl #[.agg #[.int .i64 a1_0, .int .i64 a1_1, .int .i64 a1_2, .slice A1_3 l1_3.length c1_3]] rfl (by (try simp only [List.map_toArray, List.map_cons, List.map_nil]);first | done | rfl | (simp only [List.length_drop, List.length_take];rfl)) ?_;(with_reducible refine (laws_toEx.calls k a1_0 a1_1 a1_2 _ _ l1_3 t125 t126 t127 t128 _ ?side1 ?side2 A23.out).mono ?_);(case side1 => exact Kd.C_below HR1_3.out (by repeat (first | (with_reducible first | exact HB.out | apply below_alloc | apply pw_below_drewN | apply below_drew1 | refine below_set ?_ GE101.out | refine below_set ?_ GE102.out | refine below_set ?_ GE124.out) | exact HB.out)));(case side2 => exact HC1_3.out);rintro e w47 ⟨v129, rfl, ho0, hb⟩;refine ⟨_, rfl, ?_⟩;have n0_ := Aside0.mk (Kd.R_elder' (by (with_reducible repeat (first | apply Kd.R_alloc | apply Kd.R_drewN | apply Kd.R_drew));exact (Kd.R_mono (Kd.R_far (p := ⟨gb124, 3, none⟩) (Kd.R_far (p := ⟨gb124, 2, none⟩) (Kd.R_far (p := ⟨gb124, 1, none⟩) (Kd.R_far (p := ⟨gb124, 0, none⟩) (Kd.R_mono HO110.out (fun k_ hk => (⟨hk, hk.2⟩ : _ ∧ k_ ≠ gb124))) (fun _ hk => hk.2) (.int .i64 t118)) (fun _ hk => hk.2) (.int .i64 t119)) (fun _ hk => hk.2) (.int .i64 t120)) (fun _ hk => hk.2) (.slice Ao45 t121.length co45)) (fun _ h_ => h_.1))) (Kd.R_base ho0) hb);have n1_ := Aside0.mk (Kd.R_elder' (by (with_reducible repeat (first | apply Kd.R_alloc | apply Kd.R_drewN | apply Kd.R_drew));exact (Kd.R_mono (Kd.R_far (p := ⟨gb124, 3, none⟩) (Kd.R_far (p := ⟨gb124, 2, none⟩) (Kd.R_far (p := ⟨gb124, 1, none⟩) (Kd.R_far (p := ⟨gb124, 0, none⟩) (Kd.R_mono HO116.out (fun k_ hk => (⟨hk, hk.2⟩ : _ ∧ k_ ≠ gb124))) (fun _ hk => hk.2) (.int .i64 t118)) (fun _ hk => hk.2) (.int .i64 t119)) (fun _ hk => hk.2) (.int .i64 t120)) (fun _ hk => hk.2) (.slice Ao45 t121.length co45)) (fun _ h_ => h_.1))) (Kd.R_base ho0) hb);have n2_ := Aside0.mk (Kd.R_elder' (by (with_reducible repeat (first | apply Kd.R_alloc | apply Kd.R_drewN | apply Kd.R_drew));exact (Kd.R_mono (Kd.R_far (p := ⟨gb124, 3, none⟩) (Kd.R_far (p := ⟨gb124, 2, none⟩) (Kd.R_far (p := ⟨gb124, 1, none⟩) (Kd.R_far (p := ⟨gb124, 0, none⟩) (Kd.R_mono HO123.out (fun k_ hk => (⟨hk, hk.2⟩ : _ ∧ k_ ≠ gb124))) (fun _ hk => hk.2) (.int .i64 t118)) (fun _ hk => hk.2) (.int .i64 t119)) (fun _ hk => hk.2) (.int .i64 t120)) (fun _ hk => hk.2) (.slice Ao45 t121.length co45)) (fun _ h_ => h_.1))) (Kd.R_base ho0) hb);have n3_ := Aside0.mk (Kd.R_lower (Kd.R_newB (Kd.R_new' (Kd.R_new' (Kd.R_new' ho0 (Kd.R_lt (by (with_reducible repeat (first | apply Kd.R_alloc | apply Kd.R_drewN | apply Kd.R_drew));exact (Kd.R_mono (Kd.R_far (p := ⟨gb124, 3, none⟩) (Kd.R_far (p := ⟨gb124, 2, none⟩) (Kd.R_far (p := ⟨gb124, 1, none⟩) (Kd.R_far (p := ⟨gb124, 0, none⟩) (Kd.R_mono HO110.out (fun k_ hk => (⟨hk, hk.2⟩ : _ ∧ k_ ≠ gb124))) (fun _ hk => hk.2) (.int .i64 t118)) (fun _ hk => hk.2) (.int .i64 t119)) (fun _ hk => hk.2) (.int .i64 t120)) (fun _ hk => hk.2) (.slice Ao45 t121.length co45)) (fun _ h_ => h_.1))))) (Kd.R_lt (by (with_reducible repeat (first | apply Kd.R_alloc | apply Kd.R_drewN | apply Kd.R_drew));exact (Kd.R_mono (Kd.R_far (p := ⟨gb124, 3, none⟩) (Kd.R_far (p := ⟨gb124, 2, none⟩) (Kd.R_far (p := ⟨gb124, 1, none⟩) (Kd.R_far (p := ⟨gb124, 0, none⟩) (Kd.R_mono HO116.out (fun k_ hk => (⟨hk, hk.2⟩ : _ ∧ k_ ≠ gb124))) (fun _ hk => hk.2) (.int .i64 t118)) (fun _ hk => hk.2) (.int .i64 t119)) (fun _ hk => hk.2) (.int .i64 t120)) (fun _ hk => hk.2) (.slice Ao45 t121.length co45)) (fun _ h_ => h_.1))))) (Kd.R_lt (by (with_reducible repeat (first | apply Kd.R_alloc | apply Kd.R_drewN | apply Kd.R_drew));exact (Kd.R_mono (Kd.R_far (p := ⟨gb124, 3, none⟩) (Kd.R_far (p := ⟨gb124, 2, none⟩) (Kd.R_far (p := ⟨gb124, 1, none⟩) (Kd.R_far (p := ⟨gb124, 0, none⟩) (Kd.R_mono HO123.out (fun k_ hk => (⟨hk, hk.2⟩ : _ ∧ k_ ≠ gb124))) (fun _ hk => hk.2) (.int .i64 t118)) (fun _ hk => hk.2) (.int .i64 t119)) (fun _ hk => hk.2) (.int .i64 t120)) (fun _ hk => hk.2) (.slice Ao45 t121.length co45)) (fun _ h_ => h_.1))))) (g := gb124) (o := .cells #[.int .i64 t118, .int .i64 t119, .int .i64 t120, .slice Ao45 t121.length co45] 29 (0, 0)) (by (with_reducible repeat (first | refine blk_drewN ?_ _ | refine blk_drew ?_ | refine blk_alloc ?_ _));refine blk_put (cs := #[.int .i64 t118, .int .i64 t119, .int .i64 t120, .slice none 0 0]) ?_ 3 _ rfl;(with_reducible repeat (first | refine blk_drewN ?_ _ | refine blk_drew ?_ | refine blk_alloc ?_ _));refine blk_put (cs := #[.int .i64 t118, .int .i64 t119, .int .i64 0, .slice none 0 0]) ?_ 2 _ rfl;(with_reducible repeat (first | refine blk_drewN ?_ _ | refine blk_drew ?_ | refine blk_alloc ?_ _));refine blk_put (cs := #[.int .i64 t118, .int .i64 0, .int .i64 0, .slice none 0 0]) ?_ 1 _ rfl;(with_reducible repeat (first | refine blk_drewN ?_ _ | refine blk_drew ?_ | refine blk_alloc ?_ _));refine blk_put (cs := #[.int .i64 0, .int .i64 0, .int .i64 0, .slice none 0 0]) ?_ 0 _ rfl;(with_reducible repeat (first | refine blk_drewN ?_ _ | refine blk_drew ?_ | refine blk_alloc ?_ _));exact BK124.out)) (below_size (by repeat (first | (with_reducible first | exact HB.out | apply below_alloc | apply pw_below_drewN | apply below_drew1 | refine below_set ?_ GE101.out | refine below_set ?_ GE102.out | refine below_set ?_ GE124.out) | exact HB.out))));have n4_ := Aside0.mk (blk_below (g := gb101) (o := .cells #[.int .i64 a0_0, .int .i64 a0_1, .int .i64 a0_2, .slice A0_3 l0_3.length c0_3] 24 (0, 0)) (by (with_reducible repeat (first | refine blk_drewN ?_ _ | refine blk_drew ?_ | refine blk_alloc ?_ _));refine blk_far ?_ NB101_124.out _;(with_reducible repeat (first | refine blk_drewN ?_ _ | refine blk_drew ?_ | refine blk_alloc ?_ _));refine blk_far ?_ NB101_124.out _;(with_reducible repeat (first | refine blk_drewN ?_ _ | refine blk_drew ?_ | refine blk_alloc ?_ _));refine blk_far ?_ NB101_124.out _;(with_reducible repeat (first | refine blk_drewN ?_ _ | refine blk_drew ?_ | refine blk_alloc ?_ _));refine blk_far ?_ NB101_124.out _;(with_reducible repeat (first | refine blk_drewN ?_ _ | refine blk_drew ?_ | refine blk_alloc ?_ _));exact BK101.out) hb);have n5_ := Aside0.mk (blk_below (g := gb102) (o := .cells #[.int .i64 a1_0, .int .i64 a1_1, .int .i64 a1_2, .slice A1_3 l1_3.length c1_3] 24 (0, 0)) (by (with_reducible repeat (first | refine blk_drewN ?_ _ | refine blk_drew ?_ | refine blk_alloc ?_ _));refine blk_far ?_ NB102_124.out _;(with_reducible repeat (first | refine blk_drewN ?_ _ | refine blk_drew ?_ | refine blk_alloc ?_ _));refine blk_far ?_ NB102_124.out _;(with_reducible repeat (first | refine blk_drewN ?_ _ | refine blk_drew ?_ | refine blk_alloc ?_ _));refine blk_far ?_ NB102_124.out _;(with_reducible repeat (first | refine blk_drewN ?_ _ | refine blk_drew ?_ | refine blk_alloc ?_ _));refine blk_far ?_ NB102_124.out _;(with_reducible repeat (first | refine blk_drewN ?_ _ | refine blk_drew ?_ | refine blk_alloc ?_ _));exact BK102.out) hb);have n6_ := Aside0.mk (blk_below (g := gb124) (o := .cells #[.int .i64 t118, .int .i64 t119, .int .i64 t120, .slice Ao45 t121.length co45] 29 (0, 0)) (by (with_reducible repeat (first | refine blk_drewN ?_ _ | refine blk_drew ?_ | refine blk_alloc ?_ _));refine blk_put (cs := #[.int .i64 t118, .int .i64 t119, .int .i64 t120, .slice none 0 0]) ?_ 3 _ rfl;(with_reducible repeat (first | refine blk_drewN ?_ _ | refine blk_drew ?_ | refine blk_alloc ?_ _));refine blk_put (cs := #[.int .i64 t118, .int .i64 t119, .int .i64 0, .slice none 0 0]) ?_ 2 _ rfl;(with_reducible repeat (first | refine blk_drewN ?_ _ | refine blk_drew ?_ | refine blk_alloc ?_ _));refine blk_put (cs := #[.int .i64 t118, .int .i64 0, .int .i64 0, .slice none 0 0]) ?_ 1 _ rfl;(with_reducible repeat (first | refine blk_drewN ?_ _ | refine blk_drew ?_ | refine blk_alloc ?_ _));refine blk_put (cs := #[.int .i64 0, .int .i64 0, .int .i64 0, .slice none 0 0]) ?_ 0 _ rfl;(with_reducible repeat (first | refine blk_drewN ?_ _ | refine blk_drew ?_ | refine blk_alloc ?_ _));exact BK124.out) hb);have n7_ := Aside0.mk (below_step (by repeat (first | (with_reducible first | exact HB.out | apply below_alloc | apply pw_below_drewN | apply below_drew1 | refine below_set ?_ GE101.out | refine below_set ?_ GE102.out | refine below_set ?_ GE124.out) | exact HB.out)) hb);clear HO110;clear HO116;clear HO123;clear BK101;clear BK102;clear BK124;clear HB;have HO110 := n0_;have HO116 := n1_;have HO123 := n2_;have HO130 := n3_;have BK101 := n4_;have BK102 := n5_;have BK124 := n6_;have HB := n7_;clear n0_ n1_ n2_ n3_ n4_ n5_ n6_ n7_;(try clear hb);(try clear hb2);(try clear hk);(try clear hi);(try clear ho0)) | ((with_reducible refine gate_dst (N := 8) rfl ?_);refine box_event ?hg (N := 8) ?hd (cs := #[.int .i64 0, .int .i64 0, .int .i64 0, .slice none 0 0]) (t := 29) ?hr ?_;(case hd => rfl);(case hg => rfl);(case hr => first | (go_simp;done) | (go_simp;rfl));intro gb131 hg w48 hbox hb;have n0_ := Aside0.mk (Kd.R_below (Kd.R_elderB (by (with_reducible repeat (first | apply Kd.R_alloc | apply Kd.R_drewN | apply Kd.R_drew));exact HO110.out) gb131 (Nat.le_of_eq hg.symm)) hb);have n1_ := Aside0.mk (Kd.R_below (Kd.R_elderB (by (with_reducible repeat (first | apply Kd.R_alloc | apply Kd.R_drewN | apply Kd.R_drew));exact HO116.out) gb131 (Nat.le_of_eq hg.symm)) hb);have n2_ := Aside0.mk (Kd.R_below (Kd.R_elderB (by (with_reducible repeat (first | apply Kd.R_alloc | apply Kd.R_drewN | apply Kd.R_drew));exact HO123.out) gb131 (Nat.le_of_eq hg.symm)) hb);have n3_ := Aside0.mk (Kd.R_below (Kd.R_elderB (by (with_reducible repeat (first | apply Kd.R_alloc | apply Kd.R_drewN | apply Kd.R_drew));exact HO130.out) gb131 (Nat.le_of_eq hg.symm)) hb);have n4_ := Aside0.mk (blk_below BK101.out hb);have n5_ := Aside0.mk (blk_below BK102.out hb);have n6_ := Aside0.mk (blk_below BK124.out hb);have n7_ := Aside0.mk (below_step (by repeat (first | (with_reducible first | exact HB.out | apply below_alloc | apply pw_below_drewN | apply below_drew1 | refine below_set ?_ GE101.out | refine below_set ?_ GE102.out | refine below_set ?_ GE124.out) | exact HB.out)) hb);have n8_ := Aside0.mk (hbox);have n9_ := Aside0.mk ((by rw [hg];exact (below_size (by repeat (first | (with_reducible first | exact HB.out | apply below_alloc | apply pw_below_drewN | apply below_drew1 | refine below_set ?_ GE101.out | refine below_set ?_ GE102.out | refine below_set ?_ GE124.out) | exact HB.out))) : w.heap.size ≤ gb131));have n10_ := Aside0.mk ((by rw [hg];exact (below_size (by repeat (first | (with_reducible first | exact HB.out | apply below_alloc | apply pw_below_drewN | apply below_drew1 | refine below_set ?_ GE101.out | refine below_set ?_ GE102.out | refine below_set ?_ GE124.out) | exact HB.out))) : w.heap.size ≤ gb131));have n11_ := Aside0.mk ((by rw [hg];exact Nat.ne_of_lt (blk_lt BK101.out) : gb101 ≠ gb131));have n12_ := Aside0.mk ((by rw [hg];exact Nat.ne_of_gt (blk_lt BK101.out) : gb131 ≠ gb101));have n13_ := Aside0.mk ((by rw [hg];exact Nat.ne_of_lt (blk_lt BK102.out) : gb102 ≠ gb131));have n14_ := Aside0.mk ((by rw [hg];exact Nat.ne_of_gt (blk_lt BK102.out) : gb131 ≠ gb102));have n15_ := Aside0.mk ((by rw [hg];exact Nat.ne_of_lt (blk_lt BK124.out) : gb124 ≠ gb131));have n16_ := Aside0.mk ((by rw [hg];exact Nat.ne_of_gt (blk_lt BK124.out) : gb131 ≠ gb124));clear HO110;clear HO116;clear HO123;clear HO130;clear BK101;clear BK102;clear BK124;clear HB;have HO110 := n0_;have HO116 := n1_;have HO123 := n2_;have HO130 := n3_;have BK101 := n4_;have BK102 := n5_;have BK124 := n6_;have HB := n7_;have BK131 := n8_;have GW131 := n9_;have GE131 := n10_;have NB101_131 := n11_;have NB131_101 := n12_;have NB102_131 := n13_;have NB131_102 := n14_;have NB124_131 := n15_;have NB131_124 := n16_;clear n0_ n1_ n2_ n3_ n4_ n5_ n6_ n7_ n8_ n9_ n10_ n11_ n12_ n13_ n14_ n15_ n16_;clear hb hbox hg;have hnb49 := NB131_101.out;have hnc49 := NB101_131.out;have hnb50 := NB131_102.out;have hnc50 := NB102_131.out;have hnb51 := NB131_124.out;have hnc51 := NB124_131.out;have hcz52_0 : w48.cell? ⟨gb131, 0, none⟩ = some (.int .i64 0) := (blk_cell BK131.out 0).trans rfl;have hcz52_1 : w48.cell? ⟨gb131, 1, none⟩ = some (.int .i64 0) := (blk_cell BK131.out 1).trans rfl;have hcz52_2 : w48.cell? ⟨gb131, 2, none⟩ = some (.int .i64 0) := (blk_cell BK131.out 2).trans rfl;have hcz52_3 : w48.cell? ⟨gb131, 3, none⟩ = some (.slice none 0 0) := (blk_cell BK131.out 3).trans rfl;have hfz52_0 := blk_frozen BK131.out 0;have hfz52_1 := blk_frozen BK131.out 1;have hfz52_2 := blk_frozen BK131.out 2;have hfz52_3 := blk_frozen BK131.out 3;obtain ⟨Ao53, co53, eo53⟩ := Kd.R_slice HO130.out;subst eo53;have hcz54_0 : w48.cell? ⟨gb124, 0, none⟩ = some (.int .i64 t118) := (blk_cell BK124.out 0).trans rfl;have hcz54_1 : w48.cell? ⟨gb124, 1, none⟩ = some (.int .i64 t119) := (blk_cell BK124.out 1).trans rfl;have hcz54_2 : w48.cell? ⟨gb124, 2, none⟩ = some (.int .i64 t120) := (blk_cell BK124.out 2).trans rfl;have hcz54_3 : w48.cell? ⟨gb124, 3, none⟩ = some (.slice Ao45 t121.length co45) := (blk_cell BK124.out 3).trans rfl;have hfz54_0 := blk_frozen BK124.out 0;have hfz54_1 := blk_frozen BK124.out 1;have hfz54_2 := blk_frozen BK124.out 2;have hfz54_3 := blk_frozen BK124.out 3) | ((with_reducible refine gate_callee (f := 11) rfl ?_);refine goesL_ (some 31) rfl rfl Try.func11 (by kernel_rfl) rfl #[.agg #[.int .i64 t118, .int .i64 t119, .int .i64 t120, .slice Ao45 t121.length co45], .agg #[.int .i64 t125, .int .i64 t126, .int .i64 t127, .slice Ao53 t128.length co53]] rfl (by (try simp only [List.map_toArray, List.map_cons, List.map_nil]);first | done | rfl | (simp only [List.length_drop, List.length_take];rfl)) ?_;(with_reducible refine (impl_ExSame.calls k t118 t119 t120 _ _ t121 t125 t126 t127 _ _ t128 t132 _ ?side1 ?side2 ?side3 ?side4 A24.out).mono ?_);(case side1 => refine (Kd.R_reads' (e := 29) (base := w.heap.size) (ok := fun k_ => (((((True ∧ some k_ ≠ (.slice Ao36 t108.length co36 : Value).ownBlock) ∧ some k_ ≠ (.slice Ao37 t114.length co37 : Value).ownBlock) ∧ k_ ≠ gb124) ∧ some k_ ≠ (.slice Ao53 t128.length co53 : Value).ownBlock) ∧ k_ ≠ gb131)) (n := t121.length) (c := co45) ?_).2.2;exact (by (with_reducible repeat (first | apply Kd.R_alloc | apply Kd.R_drewN | apply Kd.R_drew));exact (Kd.R_mono (Kd.R_far (p := ⟨gb131, 3, none⟩) (Kd.R_far (p := ⟨gb131, 2, none⟩) (Kd.R_far (p := ⟨gb131, 1, none⟩) (Kd.R_far (p := ⟨gb131, 0, none⟩) (Kd.R_mono HO123.out (fun k_ hk => (⟨hk, hk.2⟩ : _ ∧ k_ ≠ gb131))) (fun _ hk => hk.2) (.int .i64 t125)) (fun _ hk => hk.2) (.int .i64 t126)) (fun _ hk => hk.2) (.int .i64 t127)) (fun _ hk => hk.2) (.slice Ao53 t128.length co53)) (fun _ h_ => h_.1))));(case side2 => exact (Kd.R_reads' HO123.out).2.1);(case side3 => refine (Kd.R_reads' (e := 29) (base := w.heap.size) (ok := fun k_ => (((((True ∧ some k_ ≠ (.slice Ao36 t108.length co36 : Value).ownBlock) ∧ some k_ ≠ (.slice Ao37 t114.length co37 : Value).ownBlock) ∧ some k_ ≠ (.slice Ao45 t121.length co45 : Value).ownBlock) ∧ k_ ≠ gb124) ∧ k_ ≠ gb131)) (n := t128.length) (c := co53) ?_).2.2;exact (by (with_reducible repeat (first | apply Kd.R_alloc | apply Kd.R_drewN | apply Kd.R_drew));exact (Kd.R_mono (Kd.R_far (p := ⟨gb131, 3, none⟩) (Kd.R_far (p := ⟨gb131, 2, none⟩) (Kd.R_far (p := ⟨gb131, 1, none⟩) (Kd.R_far (p := ⟨gb131, 0, none⟩) (Kd.R_mono HO130.out (fun k_ hk => (⟨hk, hk.2⟩ : _ ∧ k_ ≠ gb131))) (fun _ hk => hk.2) (.int .i64 t125)) (fun _ hk => hk.2) (.int .i64 t126)) (fun _ hk => hk.2) (.int .i64 t127)) (fun _ hk => hk.2) (.slice Ao53 t128.length co53)) (fun _ h_ => h_.1))));(case side4 => exact (Kd.R_reads' HO130.out).2.1);rintro e w55 ⟨rfl, hb⟩;refine ⟨_, rfl, ?_⟩;have n0_ := Aside0.mk (Kd.R_below (by (with_reducible repeat (first | apply Kd.R_alloc | apply Kd.R_drewN | apply Kd.R_drew));exact (Kd.R_mono (Kd.R_far (p := ⟨gb131, 3, none⟩) (Kd.R_far (p := ⟨gb131, 2, none⟩) (Kd.R_far (p := ⟨gb131, 1, none⟩) (Kd.R_far (p := ⟨gb131, 0, none⟩) (Kd.R_mono HO110.out (fun k_ hk => (⟨hk, hk.2⟩ : _ ∧ k_ ≠ gb131))) (fun _ hk => hk.2) (.int .i64 t125)) (fun _ hk => hk.2) (.int .i64 t126)) (fun _ hk => hk.2) (.int .i64 t127)) (fun _ hk => hk.2) (.slice Ao53 t128.length co53)) (fun _ h_ => h_.1))) hb);have n1_ := Aside0.mk (Kd.R_below (by (with_reducible repeat (first | apply Kd.R_alloc | apply Kd.R_drewN | apply Kd.R_drew));exact (Kd.R_mono (Kd.R_far (p := ⟨gb131, 3, none⟩) (Kd.R_far (p := ⟨gb131, 2, none⟩) (Kd.R_far (p := ⟨gb131, 1, none⟩) (Kd.R_far (p := ⟨gb131, 0, none⟩) (Kd.R_mono HO116.out (fun k_ hk => (⟨hk, hk.2⟩ : _ ∧ k_ ≠ gb131))) (fun _ hk => hk.2) (.int .i64 t125)) (fun _ hk => hk.2) (.int .i64 t126)) (fun _ hk => hk.2) (.int .i64 t127)) (fun _ hk => hk.2) (.slice Ao53 t128.length co53)) (fun _ h_ => h_.1))) hb);have n2_ := Aside0.mk (Kd.R_below (by (with_reducible repeat (first | apply Kd.R_alloc | apply Kd.R_drewN | apply Kd.R_drew));exact (Kd.R_mono (Kd.R_far (p := ⟨gb131, 3, none⟩) (Kd.R_far (p := ⟨gb131, 2, none⟩) (Kd.R_far (p := ⟨gb131, 1, none⟩) (Kd.R_far (p := ⟨gb131, 0, none⟩) (Kd.R_mono HO123.out (fun k_ hk => (⟨hk, hk.2⟩ : _ ∧ k_ ≠ gb131))) (fun _ hk => hk.2) (.int .i64 t125)) (fun _ hk => hk.2) (.int .i64 t126)) (fun _ hk => hk.2) (.int .i64 t127)) (fun _ hk => hk.2) (.slice Ao53 t128.length co53)) (fun _ h_ => h_.1))) hb);have n3_ := Aside0.mk (Kd.R_below (by (with_reducible repeat (first | apply Kd.R_alloc | apply Kd.R_drewN | apply Kd.R_drew));exact (Kd.R_mono (Kd.R_far (p := ⟨gb131, 3, none⟩) (Kd.R_far (p := ⟨gb131, 2, none⟩) (Kd.R_far (p := ⟨gb131, 1, none⟩) (Kd.R_far (p := ⟨gb131, 0, none⟩) (Kd.R_mono HO130.out (fun k_ hk => (⟨hk, hk.2⟩ : _ ∧ k_ ≠ gb131))) (fun _ hk => hk.2) (.int .i64 t125)) (fun _ hk => hk.2) (.int .i64 t126)) (fun _ hk => hk.2) (.int .i64 t127)) (fun _ hk => hk.2) (.slice Ao53 t128.length co53)) (fun _ h_ => h_.1))) hb);have n4_ := Aside0.mk (blk_below (g := gb101) (o := .cells #[.int .i64 a0_0, .int .i64 a0_1, .int .i64 a0_2, .slice A0_3 l0_3.length c0_3] 24 (0, 0)) (by (with_reducible repeat (first | refine blk_drewN ?_ _ | refine blk_drew ?_ | refine blk_alloc ?_ _));refine blk_far ?_ NB101_131.out _;(with_reducible repeat (first | refine blk_drewN ?_ _ | refine blk_drew ?_ | refine blk_alloc ?_ _));refine blk_far ?_ NB101_131.out _;(with_reducible repeat (first | refine blk_drewN ?_ _ | refine blk_drew ?_ | refine blk_alloc ?_ _));refine blk_far ?_ NB101_131.out _;(with_reducible repeat (first | refine blk_drewN ?_ _ | refine blk_drew ?_ | refine blk_alloc ?_ _));refine blk_far ?_ NB101_131.out _;(with_reducible repeat (first | refine blk_drewN ?_ _ | refine blk_drew ?_ | refine blk_alloc ?_ _));exact BK101.out) hb);have n5_ := Aside0.mk (blk_below (g := gb102) (o := .cells #[.int .i64 a1_0, .int .i64 a1_1, .int .i64 a1_2, .slice A1_3 l1_3.length c1_3] 24 (0, 0)) (by (with_reducible repeat (first | refine blk_drewN ?_ _ | refine blk_drew ?_ | refine blk_alloc ?_ _));refine blk_far ?_ NB102_131.out _;(with_reducible repeat (first | refine blk_drewN ?_ _ | refine blk_drew ?_ | refine blk_alloc ?_ _));refine blk_far ?_ NB102_131.out _;(with_reducible repeat (first | refine blk_drewN ?_ _ | refine blk_drew ?_ | refine blk_alloc ?_ _));refine blk_far ?_ NB102_131.out _;(with_reducible repeat (first | refine blk_drewN ?_ _ | refine blk_drew ?_ | refine blk_alloc ?_ _));refine blk_far ?_ NB102_131.out _;(with_reducible repeat (first | refine blk_drewN ?_ _ | refine blk_drew ?_ | refine blk_alloc ?_ _));exact BK102.out) hb);have n6_ := Aside0.mk (blk_below (g := gb124) (o := .cells #[.int .i64 t118, .int .i64 t119, .int .i64 t120, .slice Ao45 t121.length co45] 29 (0, 0)) (by (with_reducible repeat (first | refine blk_drewN ?_ _ | refine blk_drew ?_ | refine blk_alloc ?_ _));refine blk_far ?_ NB124_131.out _;(with_reducible repeat (first | refine blk_drewN ?_ _ | refine blk_drew ?_ | refine blk_alloc ?_ _));refine blk_far ?_ NB124_131.out _;(with_reducible repeat (first | refine blk_drewN ?_ _ | refine blk_drew ?_ | refine blk_alloc ?_ _));refine blk_far ?_ NB124_131.out _;(with_reducible repeat (first | refine blk_drewN ?_ _ | refine blk_drew ?_ | refine blk_alloc ?_ _));refine blk_far ?_ NB124_131.out _;(with_reducible repeat (first | refine blk_drewN ?_ _ | refine blk_drew ?_ | refine blk_alloc ?_ _));exact BK124.out) hb);have n7_ := Aside0.mk (blk_below (g := gb131) (o := .cells #[.int .i64 t125, .int .i64 t126, .int .i64 t127, .slice Ao53 t128.length co53] 29 (0, 0)) (by (with_reducible repeat (first | refine blk_drewN ?_ _ | refine blk_drew ?_ | refine blk_alloc ?_ _));refine blk_put (cs := #[.int .i64 t125, .int .i64 t126, .int .i64 t127, .slice none 0 0]) ?_ 3 _ rfl;(with_reducible repeat (first | refine blk_drewN ?_ _ | refine blk_drew ?_ | refine blk_alloc ?_ _));refine blk_put (cs := #[.int .i64 t125, .int .i64 t126, .int .i64 0, .slice none 0 0]) ?_ 2 _ rfl;(with_reducible repeat (first | refine blk_drewN ?_ _ | refine blk_drew ?_ | refine blk_alloc ?_ _));refine blk_put (cs := #[.int .i64 t125, .int .i64 0, .int .i64 0, .slice none 0 0]) ?_ 1 _ rfl;(with_reducible repeat (first | refine blk_drewN ?_ _ | refine blk_drew ?_ | refine blk_alloc ?_ _));refine blk_put (cs := #[.int .i64 0, .int .i64 0, .int .i64 0, .slice none 0 0]) ?_ 0 _ rfl;(with_reducible repeat (first | refine blk_drewN ?_ _ | refine blk_drew ?_ | refine blk_alloc ?_ _));exact BK131.out) hb);have n8_ := Aside0.mk (below_step (by repeat (first | (with_reducible first | exact HB.out | apply below_alloc | apply pw_below_drewN | apply below_drew1 | refine below_set ?_ GE101.out | refine below_set ?_ GE102.out | refine below_set ?_ GE124.out | refine below_set ?_ GE131.out) | exact HB.out)) hb);clear HO110;clear HO116;clear HO123;clear HO130;clear BK101;clear BK102;clear BK124;clear BK131;clear HB;have HO110 := n0_;have HO116 := n1_;have HO123 := n2_;have HO130 := n3_;have BK101 := n4_;have BK102 := n5_;have BK124 := n6_;have BK131 := n7_;have HB := n8_;clear n0_ n1_ n2_ n3_ n4_ n5_ n6_ n7_ n8_;(try clear hb);(try clear hb2);(try clear hk);(try clear hi)))
    go_ret
    exact ⟨by first | rfl | (simp [errW_none, errW_some] <;> rfl) | (simp [*, errW_none, errW_some] <;> rfl), by repeat (first | (with_reducible first | exact HB.out | apply below_alloc | apply pw_below_drewN | apply below_drew1 | refine below_set ?_ GE101.out | refine below_set ?_ GE102.out | refine below_set ?_ GE124.out | refine below_set ?_ GE131.out) | exact HB.out)⟩
   ·rw [if_neg c25] at H
    have c25b0 : (t132 != t117) = false := by simpa using c25
    (try (have c25b1 : decide (t132 = t117) = true := by simpa using c25))
    (try (have c25b2 : (t132 == t117) = true := by simpa using c25))
    clear c25
    replace H := Option.bind_eq_some_iff.mp H
    obtain ⟨⟨t133, t134, t135, t136⟩, A560, H⟩ := H
    replace H : ((laws_eqEx.f k t118 t119 t120 t121 t133 t134 t135 t136).bind fun t139 => (if t139 = true then ((laws_toEx.f k a1_0 a1_1 a1_2 l1_3).bind fun bt140 => ((laws_eqEx.f k t125 t126 t127 t128 bt140.1 bt140.2.1 bt140.2.2.1 bt140.2.2.2).bind fun t146 => (if t146 = true then (some true) else (some false)))) else (some false))) = some r := H
    have A56 := Aside0.mk A560
    clear A560
    replace H := Option.bind_eq_some_iff.mp H
    obtain ⟨t139, A570, H⟩ := H
    replace H : (if t139 = true then ((laws_toEx.f k a1_0 a1_1 a1_2 l1_3).bind fun bt140 => ((laws_eqEx.f k t125 t126 t127 t128 bt140.1 bt140.2.1 bt140.2.2.1 bt140.2.2.2).bind fun t146 => (if t146 = true then (some true) else (some false)))) else (some false)) = some r := H
    have A57 := Aside0.mk A570
    clear A570
    by_cases c58 : t139 = true
    ·subst c58
     have H1 : ((laws_toEx.f k a1_0 a1_1 a1_2 l1_3).bind fun bt140 => ((laws_eqEx.f k t125 t126 t127 t128 bt140.1 bt140.2.1 bt140.2.2.1 bt140.2.2.2).bind fun t146 => (if t146 = true then (some true) else (some false)))) = some r := by rw [if_pos rfl] at H;exact H
     clear H
     have H := H1
     clear H1
     replace H := Option.bind_eq_some_iff.mp H
     obtain ⟨⟨t140, t141, t142, t143⟩, A590, H⟩ := H
     replace H : ((laws_eqEx.f k t125 t126 t127 t128 t140 t141 t142 t143).bind fun t146 => (if t146 = true then (some true) else (some false))) = some r := H
     have A59 := Aside0.mk A590
     clear A590
     replace H := Option.bind_eq_some_iff.mp H
     obtain ⟨t146, A600, H⟩ := H
     replace H : (if t146 = true then (some true) else (some false)) = some r := H
     have A60 := Aside0.mk A600
     clear A600
     by_cases c61 : t146 = true
     ·subst c61
      have H1 : (some true) = some r := by rw [if_pos rfl] at H;exact H
      clear H
      have H := H1
      clear H1
      obtain rfl := Option.some.inj H
      go_enter Try.func3, Try.ntmps3
      try go_wp2_with (first | ((with_reducible refine gate_dst (N := 2) rfl ?_);refine box_event ?hg (N := 2) ?hd (cs := #[.int .i64 a0_0, .int .i64 a0_1, .int .i64 a0_2, .slice A0_3 l0_3.length c0_3]) (t := 24) ?hr ?_;(case hd => rfl);(case hg => rfl);(case hr => first | (go_simp;done) | (go_simp;rfl));intro gb101 hg w62 hbox hb;have n0_ := Aside0.mk (below_step (by exact HB.out) hb);have n1_ := Aside0.mk (hbox);have n2_ := Aside0.mk ((by rw [hg];exact (below_size (by exact HB.out)) : w.heap.size ≤ gb101));have n3_ := Aside0.mk ((by rw [hg];exact (below_size (by exact HB.out)) : w.heap.size ≤ gb101));clear HB;have HB := n0_;have BK101 := n1_;have GW101 := n2_;have GE101 := n3_;clear n0_ n1_ n2_ n3_;clear hb hbox hg) | ((with_reducible refine gate_dst (N := 3) rfl ?_);refine box_event ?hg (N := 3) ?hd (cs := #[.int .i64 a1_0, .int .i64 a1_1, .int .i64 a1_2, .slice A1_3 l1_3.length c1_3]) (t := 24) ?hr ?_;(case hd => rfl);(case hg => rfl);(case hr => first | (go_simp;done) | (go_simp;rfl));intro gb102 hg w63 hbox hb;have n0_ := Aside0.mk (blk_below BK101.out hb);have n1_ := Aside0.mk (below_step (by exact HB.out) hb);have n2_ := Aside0.mk (hbox);have n3_ := Aside0.mk ((by rw [hg];exact (below_size (by exact HB.out)) : w.heap.size ≤ gb102));have n4_ := Aside0.mk ((by rw [hg];exact (below_size (by exact HB.out)) : w.heap.size ≤ gb102));have n5_ := Aside0.mk ((by rw [hg];exact Nat.ne_of_lt (blk_lt BK101.out) : gb101 ≠ gb102));have n6_ := Aside0.mk ((by rw [hg];exact Nat.ne_of_gt (blk_lt BK101.out) : gb102 ≠ gb101));clear BK101;clear HB;have BK101 := n0_;have HB := n1_;have BK102 := n2_;have GW102 := n3_;have GE102 := n4_;have NB101_102 := n5_;have NB102_101 := n6_;clear n0_ n1_ n2_ n3_ n4_ n5_ n6_;clear hb hbox hg;have hnb64 := NB101_102.out;have hnc64 := NB102_101.out;have hcz65_0 : w63.cell? ⟨gb101, 0, none⟩ = some (.int .i64 a0_0) := (blk_cell BK101.out 0).trans rfl;have hcz65_1 : w63.cell? ⟨gb101, 1, none⟩ = some (.int .i64 a0_1) := (blk_cell BK101.out 1).trans rfl;have hcz65_2 : w63.cell? ⟨gb101, 2, none⟩ = some (.int .i64 a0_2) := (blk_cell BK101.out 2).trans rfl;have hcz65_3 : w63.cell? ⟨gb101, 3, none⟩ = some (.slice A0_3 l0_3.length c0_3) := (blk_cell BK101.out 3).trans rfl;have hfz65_0 := blk_frozen BK101.out 0;have hfz65_1 := blk_frozen BK101.out 1;have hfz65_2 := blk_frozen BK101.out 2;have hfz65_3 := blk_frozen BK101.out 3) | ((with_reducible refine gate_callee (f := 8) rfl ?_);refine goesL_ (some 12) rfl rfl Try.func8 (by kernel_rfl) rfl #[.agg #[.int .i64 a0_0, .int .i64 a0_1, .int .i64 a0_2, .slice A0_3 l0_3.length c0_3], .int .i64 1048576] rfl (by (try simp only [List.map_toArray, List.map_cons, List.map_nil]);first | done | rfl | (simp only [List.length_drop, List.length_take];rfl)) ?_;(with_reducible refine (laws_szEx.calls k a0_0 a0_1 a0_2 _ _ l0_3 1048576 t103 _ ?side1 ?side2 A3.out).mono ?_);(case side1 => repeat (first | exact (Kd.C_below HR0_3.out HB.out) | (with_reducible refine Kd.C_alloc ?_ _) | (with_reducible refine Kd.C_drewN ?_ _) | (with_reducible refine Kd.C_drew ?_)));(case side2 => exact HC0_3.out);rintro e w66 ⟨rfl, hb⟩;refine ⟨_, rfl, ?_⟩;have n0_ := Aside0.mk (blk_below BK101.out hb);have n1_ := Aside0.mk (blk_below BK102.out hb);have n2_ := Aside0.mk (below_step (by exact HB.out) hb);clear BK101;clear BK102;clear HB;have BK101 := n0_;have BK102 := n1_;have HB := n2_;clear n0_ n1_ n2_;(try clear hb);(try clear hb2);(try clear hk);(try clear hi);have hcz67_0 : w66.cell? ⟨gb102, 0, none⟩ = some (.int .i64 a1_0) := (blk_cell BK102.out 0).trans rfl;have hcz67_1 : w66.cell? ⟨gb102, 1, none⟩ = some (.int .i64 a1_1) := (blk_cell BK102.out 1).trans rfl;have hcz67_2 : w66.cell? ⟨gb102, 2, none⟩ = some (.int .i64 a1_2) := (blk_cell BK102.out 2).trans rfl;have hcz67_3 : w66.cell? ⟨gb102, 3, none⟩ = some (.slice A1_3 l1_3.length c1_3) := (blk_cell BK102.out 3).trans rfl;have hfz67_0 := blk_frozen BK102.out 0;have hfz67_1 := blk_frozen BK102.out 1;have hfz67_2 := blk_frozen BK102.out 2;have hfz67_3 := blk_frozen BK102.out 3) | ((with_reducible refine gate_callee (f := 8) rfl ?_);refine goesL_ (some 17) rfl rfl Try.func8 (by kernel_rfl) rfl #[.agg #[.int .i64 a1_0, .int .i64 a1_1, .int .i64 a1_2, .slice A1_3 l1_3.length c1_3], .int .i64 t103] rfl (by (try simp only [List.map_toArray, List.map_cons, List.map_nil]);first | done | rfl | (simp only [List.length_drop, List.length_take];rfl)) ?_;(with_reducible refine (laws_szEx.calls k a1_0 a1_1 a1_2 _ _ l1_3 t103 t104 _ ?side1 ?side2 A10.out).mono ?_);(case side1 => repeat (first | exact (Kd.C_below HR1_3.out HB.out) | (with_reducible refine Kd.C_alloc ?_ _) | (with_reducible refine Kd.C_drewN ?_ _) | (with_reducible refine Kd.C_drew ?_)));(case side2 => exact HC1_3.out);rintro e w68 ⟨rfl, hb⟩;refine ⟨_, rfl, ?_⟩;have n0_ := Aside0.mk (blk_below BK101.out hb);have n1_ := Aside0.mk (blk_below BK102.out hb);have n2_ := Aside0.mk (below_step (by exact HB.out) hb);clear BK101;clear BK102;clear HB;have BK101 := n0_;have BK102 := n1_;have HB := n2_;clear n0_ n1_ n2_;(try clear hb);(try clear hb2);(try clear hk);(try clear hi)))
      have n0_ := Aside0.mk (blk_drew BK101.out)
      have n1_ := Aside0.mk (blk_drew BK102.out)
      have n2_ := Aside0.mk (below_drew1 HB.out)
      clear BK101
      clear BK102
      clear HB
      have BK101 := n0_
      have BK102 := n1_
      have HB := n2_
      clear n0_ n1_ n2_
      refine start_ (n := 6) (S := fun w' => w'.cell? ⟨gb101, 0, none⟩ = some (.int .i64 a0_0) ∧ w'.cell? ⟨gb101, 1, none⟩ = some (.int .i64 a0_1) ∧ w'.cell? ⟨gb101, 2, none⟩ = some (.int .i64 a0_2) ∧ w'.cell? ⟨gb101, 3, none⟩ = some (.slice A0_3 l0_3.length c0_3) ∧ w'.cell? ⟨gb102, 0, none⟩ = some (.int .i64 a1_0) ∧ w'.cell? ⟨gb102, 1, none⟩ = some (.int .i64 a1_1) ∧ w'.cell? ⟨gb102, 2, none⟩ = some (.int .i64 a1_2) ∧ w'.cell? ⟨gb102, 3, none⟩ = some (.slice A1_3 l1_3.length c1_3)) (ds := []) #[false, false, false, false, false, false] (by kernel_rfl) rfl rfl ⟨(blk_cell BK101.out 0).trans rfl, (blk_cell BK101.out 1).trans rfl, (blk_cell BK101.out 2).trans rfl, (blk_cell BK101.out 3).trans rfl, (blk_cell BK102.out 0).trans rfl, (blk_cell BK102.out 1).trans rfl, (blk_cell BK102.out 2).trans rfl, (blk_cell BK102.out 3).trans rfl⟩ (fun hHeld => ?_)
      generalize w68.drew = w69 at BK101 BK102 HB hHeld ⊢
      refine take_ (i := 0) (N := some 20) (v := ?_) (a' := ?_) #[true, false, false, false, false, false] rfl rfl (by kernel_rfl) (fun _ _ _ h => h) (Or.inl ⟨by rfl, ?_⟩) hHeld ?_ ?_
      rotate_left
      ·rintro w' ⟨s0, s1, s2, s3, s4, s5, s6, s7⟩
       go_simp
       with_reducible rfl
      rotate_left
      ·simp only [Act.put, List.setIfInBounds_toArray, List.set_cons_zero, List.set_cons_succ, i64_w, i32_w]
       rfl
      refine take_ (i := 2) (N := some 22) (v := ?_) (a' := ?_) #[true, false, true, false, false, false] rfl rfl (by kernel_rfl) (fun _ _ _ h => h) (Or.inl ⟨by rfl, ?_⟩) hHeld ?_ ?_
      rotate_left
      ·rintro w' ⟨s0, s1, s2, s3, s4, s5, s6, s7⟩
       go_simp
       with_reducible rfl
      rotate_left
      ·simp only [Act.put, List.setIfInBounds_toArray, List.set_cons_zero, List.set_cons_succ, i64_w, i32_w]
       rfl
      refine one_ (i := 1) (N := some 21) #[true, true, true, false, false, false] rfl rfl (by kernel_rfl) (by decide) (fun K hK => ?_)
      refine goes_ Try.func10 (by kernel_rfl) rfl #[.agg #[.int .i64 a0_0, .int .i64 a0_1, .int .i64 a0_2, .slice A0_3 l0_3.length c0_3]] (by rfl) rfl rfl (by (try simp only [List.map_toArray, List.map_cons, List.map_nil]);first | done | rfl | (simp only [List.length_drop, List.length_take];rfl)) ?_
      with_reducible refine (laws_toEx.calls k a0_0 a0_1 a0_2 _ _ l0_3 t105 t106 t107 t108 _ ?side1 ?side2 A19.out).mono ?_
      (case side1 => repeat (first | exact (Kd.C_below HR0_3.out HB.out) | (with_reducible refine Kd.C_alloc ?_ _) | (with_reducible refine Kd.C_drewN ?_ _) | (with_reducible refine Kd.C_drew ?_)))
      (case side2 => exact HC0_3.out)
      rintro e w70 ⟨v109, rfl, ho0, hb⟩
      refine ⟨_, rfl, ?_⟩
      have n0_ := Aside0.mk (Kd.R_lower ho0 (below_size (by exact HB.out)))
      have n1_ := Aside0.mk (blk_below BK101.out hb)
      have n2_ := Aside0.mk (blk_below BK102.out hb)
      have n3_ := Aside0.mk (below_step (by exact HB.out) hb)
      clear BK101
      clear BK102
      clear HB
      have HO110 := n0_
      have BK101 := n1_
      have BK102 := n2_
      have HB := n3_
      clear n0_ n1_ n2_ n3_
      (try clear hb)
      (try clear hb2)
      (try clear hk)
      (try clear hi)
      (try clear ho0)
      refine hK.out _ _ ⟨(blk_cell BK101.out 0).trans rfl, (blk_cell BK101.out 1).trans rfl, (blk_cell BK101.out 2).trans rfl, (blk_cell BK101.out 3).trans rfl, (blk_cell BK102.out 0).trans rfl, (blk_cell BK102.out 1).trans rfl, (blk_cell BK102.out 2).trans rfl, (blk_cell BK102.out 3).trans rfl⟩ (fun hHeld => ?_)
      clear hK K
      refine norm_ (a' := ?_) ?_ ?_
      rotate_left
      ·show Act.put _ (some 21) _ = _
       simp only [Act.put, List.setIfInBounds_toArray, List.set_cons_zero, List.set_cons_succ, i64_w, i32_w]
       rfl
      refine one_ (i := 3) (N := some 23) #[true, true, true, true, false, false] rfl rfl (by kernel_rfl) (by decide) (fun K hK => ?_)
      refine goes_ Try.func10 (by kernel_rfl) rfl #[.agg #[.int .i64 a1_0, .int .i64 a1_1, .int .i64 a1_2, .slice A1_3 l1_3.length c1_3]] (by rfl) rfl rfl (by (try simp only [List.map_toArray, List.map_cons, List.map_nil]);first | done | rfl | (simp only [List.length_drop, List.length_take];rfl)) ?_
      with_reducible refine (laws_toEx.calls k a1_0 a1_1 a1_2 _ _ l1_3 t111 t112 t113 t114 _ ?side1 ?side2 A20.out).mono ?_
      (case side1 => repeat (first | exact (Kd.C_below HR1_3.out HB.out) | (with_reducible refine Kd.C_alloc ?_ _) | (with_reducible refine Kd.C_drewN ?_ _) | (with_reducible refine Kd.C_drew ?_)))
      (case side2 => exact HC1_3.out)
      rintro e w71 ⟨v115, rfl, ho0, hb⟩
      refine ⟨_, rfl, ?_⟩
      have n0_ := Aside0.mk (Kd.R_elder' (by (with_reducible repeat (first | apply Kd.R_alloc | apply Kd.R_drewN | apply Kd.R_drew));exact HO110.out) (Kd.R_base ho0) hb)
      have n1_ := Aside0.mk (Kd.R_lower (Kd.R_new' ho0 (Kd.R_lt (by (with_reducible repeat (first | apply Kd.R_alloc | apply Kd.R_drewN | apply Kd.R_drew));exact HO110.out))) (below_size (by exact HB.out)))
      have n2_ := Aside0.mk (blk_below BK101.out hb)
      have n3_ := Aside0.mk (blk_below BK102.out hb)
      have n4_ := Aside0.mk (below_step (by exact HB.out) hb)
      clear HO110
      clear BK101
      clear BK102
      clear HB
      have HO110 := n0_
      have HO116 := n1_
      have BK101 := n2_
      have BK102 := n3_
      have HB := n4_
      clear n0_ n1_ n2_ n3_ n4_
      (try clear hb)
      (try clear hb2)
      (try clear hk)
      (try clear hi)
      (try clear ho0)
      obtain ⟨Ao72, co72, eo72⟩ := Kd.R_slice HO110.out
      (first | subst eo72 | (injection eo72 with f1_ f2_ f3_;have f4_ := f1_.symm;have f5_ := f3_.symm;clear f1_ f2_ f3_;subst f4_;subst f5_))
      obtain ⟨Ao73, co73, eo73⟩ := Kd.R_slice HO116.out
      (first | subst eo73 | (injection eo73 with f1_ f2_ f3_;have f4_ := f1_.symm;have f5_ := f3_.symm;clear f1_ f2_ f3_;subst f4_;subst f5_))
      refine hK.out _ _ ⟨(blk_cell BK101.out 0).trans rfl, (blk_cell BK101.out 1).trans rfl, (blk_cell BK101.out 2).trans rfl, (blk_cell BK101.out 3).trans rfl, (blk_cell BK102.out 0).trans rfl, (blk_cell BK102.out 1).trans rfl, (blk_cell BK102.out 2).trans rfl, (blk_cell BK102.out 3).trans rfl⟩ (fun hHeld => ?_)
      clear hK K
      refine norm_ (a' := ?_) ?_ ?_
      rotate_left
      ·show Act.put _ (some 23) _ = _
       simp only [Act.put, List.setIfInBounds_toArray, List.set_cons_zero, List.set_cons_succ, i64_w, i32_w]
       rfl
      refine one_ (i := 4) (N := some 24) #[true, true, true, true, true, false] rfl rfl (by kernel_rfl) (by decide) (fun K hK => ?_)
      refine goes_ Try.func9 (by kernel_rfl) rfl #[.agg #[.int .i64 t105, .int .i64 t106, .int .i64 t107, .slice Ao72 t108.length co72], .agg #[.int .i64 t111, .int .i64 t112, .int .i64 t113, .slice Ao73 t114.length co73]] (by rfl) rfl rfl (by (try simp only [List.map_toArray, List.map_cons, List.map_nil]);first | done | rfl | (simp only [List.length_drop, List.length_take];rfl)) ?_
      with_reducible refine (spec_ExSame.calls k t105 t106 t107 _ _ t108 t111 t112 t113 _ _ t114 t117 _ ?side1 ?side2 ?side3 ?side4 A21.out).mono ?_
      (case side1 => repeat (first | exact (Kd.R_reads' HO110.out).2.2 | (with_reducible refine Kd.C_alloc ?_ _) | (with_reducible refine Kd.C_drewN ?_ _) | (with_reducible refine Kd.C_drew ?_)))
      (case side2 => exact (Kd.R_reads' HO110.out).2.1)
      (case side3 => repeat (first | exact (Kd.R_reads' HO116.out).2.2 | (with_reducible refine Kd.C_alloc ?_ _) | (with_reducible refine Kd.C_drewN ?_ _) | (with_reducible refine Kd.C_drew ?_)))
      (case side4 => exact (Kd.R_reads' HO116.out).2.1)
      rintro e w74 ⟨rfl, hb⟩
      refine ⟨_, rfl, ?_⟩
      have n0_ := Aside0.mk (Kd.R_below (by (with_reducible repeat (first | apply Kd.R_alloc | apply Kd.R_drewN | apply Kd.R_drew));exact HO110.out) hb)
      have n1_ := Aside0.mk (Kd.R_below (by (with_reducible repeat (first | apply Kd.R_alloc | apply Kd.R_drewN | apply Kd.R_drew));exact HO116.out) hb)
      have n2_ := Aside0.mk (blk_below BK101.out hb)
      have n3_ := Aside0.mk (blk_below BK102.out hb)
      have n4_ := Aside0.mk (below_step (by exact HB.out) hb)
      clear HO110
      clear HO116
      clear BK101
      clear BK102
      clear HB
      have HO110 := n0_
      have HO116 := n1_
      have BK101 := n2_
      have BK102 := n3_
      have HB := n4_
      clear n0_ n1_ n2_ n3_ n4_
      (try clear hb)
      (try clear hb2)
      (try clear hk)
      (try clear hi)
      refine hK.out _ _ ⟨(blk_cell BK101.out 0).trans rfl, (blk_cell BK101.out 1).trans rfl, (blk_cell BK101.out 2).trans rfl, (blk_cell BK101.out 3).trans rfl, (blk_cell BK102.out 0).trans rfl, (blk_cell BK102.out 1).trans rfl, (blk_cell BK102.out 2).trans rfl, (blk_cell BK102.out 3).trans rfl⟩ (fun hHeld => ?_)
      clear hK K
      refine norm_ (a' := ?_) ?_ ?_
      rotate_left
      ·show Act.put _ (some 24) _ = _
       simp only [Act.put, List.setIfInBounds_toArray, List.set_cons_zero, List.set_cons_succ, i64_w, i32_w]
       rfl
      refine pure_ (i := 5) (N := some 6) (v := ?_) (a' := ?_) #[true, true, true, true, true, true] rfl rfl (by kernel_rfl) (fun _ _ _ h => h) (Or.inl ⟨by rfl, ?_⟩) ?_ ?_
      rotate_left
      ·intro w'
       go_simp
       with_reducible rfl
      rotate_left
      ·simp only [Act.put, List.setIfInBounds_toArray, List.set_cons_zero, List.set_cons_succ, i64_w, i32_w]
       rfl
      refine done_ (by kernel_rfl) ?_
      have hcz75_0 : w74.cell? ⟨gb101, 0, none⟩ = some (.int .i64 a0_0) := (blk_cell BK101.out 0).trans rfl
      have hcz75_1 : w74.cell? ⟨gb101, 1, none⟩ = some (.int .i64 a0_1) := (blk_cell BK101.out 1).trans rfl
      have hcz75_2 : w74.cell? ⟨gb101, 2, none⟩ = some (.int .i64 a0_2) := (blk_cell BK101.out 2).trans rfl
      have hcz75_3 : w74.cell? ⟨gb101, 3, none⟩ = some (.slice A0_3 l0_3.length c0_3) := (blk_cell BK101.out 3).trans rfl
      have hfz75_0 := blk_frozen BK101.out 0
      have hfz75_1 := blk_frozen BK101.out 1
      have hfz75_2 := blk_frozen BK101.out 2
      have hfz75_3 := blk_frozen BK101.out 3
      try go_wp2_with (first | ((with_reducible refine gate_callee (f := 10) rfl ?_);refine goesL_ (some 26) rfl rfl Try.func10 (by kernel_rfl) rfl #[.agg #[.int .i64 a0_0, .int .i64 a0_1, .int .i64 a0_2, .slice A0_3 l0_3.length c0_3]] rfl (by (try simp only [List.map_toArray, List.map_cons, List.map_nil]);first | done | rfl | (simp only [List.length_drop, List.length_take];rfl)) ?_;(with_reducible refine (laws_toEx.calls k a0_0 a0_1 a0_2 _ _ l0_3 t118 t119 t120 t121 _ ?side1 ?side2 A22.out).mono ?_);(case side1 => repeat (first | exact (Kd.C_below HR0_3.out HB.out) | (with_reducible refine Kd.C_alloc ?_ _) | (with_reducible refine Kd.C_drewN ?_ _) | (with_reducible refine Kd.C_drew ?_)));(case side2 => exact HC0_3.out);rintro e w76 ⟨v122, rfl, ho0, hb⟩;refine ⟨_, rfl, ?_⟩;have n0_ := Aside0.mk (Kd.R_elder' (by (with_reducible repeat (first | apply Kd.R_alloc | apply Kd.R_drewN | apply Kd.R_drew));exact HO110.out) (Kd.R_base ho0) hb);have n1_ := Aside0.mk (Kd.R_elder' (by (with_reducible repeat (first | apply Kd.R_alloc | apply Kd.R_drewN | apply Kd.R_drew));exact HO116.out) (Kd.R_base ho0) hb);have n2_ := Aside0.mk (Kd.R_lower (Kd.R_new' (Kd.R_new' ho0 (Kd.R_lt (by (with_reducible repeat (first | apply Kd.R_alloc | apply Kd.R_drewN | apply Kd.R_drew));exact HO110.out))) (Kd.R_lt (by (with_reducible repeat (first | apply Kd.R_alloc | apply Kd.R_drewN | apply Kd.R_drew));exact HO116.out))) (below_size (by repeat (first | (with_reducible first | exact HB.out | apply below_alloc | apply pw_below_drewN | apply below_drew1 | refine below_set ?_ GE101.out | refine below_set ?_ GE102.out) | exact HB.out))));have n3_ := Aside0.mk (blk_below BK101.out hb);have n4_ := Aside0.mk (blk_below BK102.out hb);have n5_ := Aside0.mk (below_step (by repeat (first | (with_reducible first | exact HB.out | apply below_alloc | apply pw_below_drewN | apply below_drew1 | refine below_set ?_ GE101.out | refine below_set ?_ GE102.out) | exact HB.out)) hb);clear HO110;clear HO116;clear BK101;clear BK102;clear HB;have HO110 := n0_;have HO116 := n1_;have HO123 := n2_;have BK101 := n3_;have BK102 := n4_;have HB := n5_;clear n0_ n1_ n2_ n3_ n4_ n5_;(try clear hb);(try clear hb2);(try clear hk);(try clear hi);(try clear ho0)) | ((with_reducible refine gate_dst (N := 7) rfl ?_);refine box_event ?hg (N := 7) ?hd (cs := #[.int .i64 0, .int .i64 0, .int .i64 0, .slice none 0 0]) (t := 29) ?hr ?_;(case hd => rfl);(case hg => rfl);(case hr => first | (go_simp;done) | (go_simp;rfl));intro gb124 hg w77 hbox hb;have n0_ := Aside0.mk (Kd.R_below (Kd.R_elderB (by (with_reducible repeat (first | apply Kd.R_alloc | apply Kd.R_drewN | apply Kd.R_drew));exact HO110.out) gb124 (Nat.le_of_eq hg.symm)) hb);have n1_ := Aside0.mk (Kd.R_below (Kd.R_elderB (by (with_reducible repeat (first | apply Kd.R_alloc | apply Kd.R_drewN | apply Kd.R_drew));exact HO116.out) gb124 (Nat.le_of_eq hg.symm)) hb);have n2_ := Aside0.mk (Kd.R_below (Kd.R_elderB (by (with_reducible repeat (first | apply Kd.R_alloc | apply Kd.R_drewN | apply Kd.R_drew));exact HO123.out) gb124 (Nat.le_of_eq hg.symm)) hb);have n3_ := Aside0.mk (blk_below BK101.out hb);have n4_ := Aside0.mk (blk_below BK102.out hb);have n5_ := Aside0.mk (below_step (by repeat (first | (with_reducible first | exact HB.out | apply below_alloc | apply pw_below_drewN | apply below_drew1 | refine below_set ?_ GE101.out | refine below_set ?_ GE102.out) | exact HB.out)) hb);have n6_ := Aside0.mk (hbox);have n7_ := Aside0.mk ((by rw [hg];exact (below_size (by repeat (first | (with_reducible first | exact HB.out | apply below_alloc | apply pw_below_drewN | apply below_drew1 | refine below_set ?_ GE101.out | refine below_set ?_ GE102.out) | exact HB.out))) : w.heap.size ≤ gb124));have n8_ := Aside0.mk ((by rw [hg];exact (below_size (by repeat (first | (with_reducible first | exact HB.out | apply below_alloc | apply pw_below_drewN | apply below_drew1 | refine below_set ?_ GE101.out | refine below_set ?_ GE102.out) | exact HB.out))) : w.heap.size ≤ gb124));have n9_ := Aside0.mk ((by rw [hg];exact Nat.ne_of_lt (blk_lt BK101.out) : gb101 ≠ gb124));have n10_ := Aside0.mk ((by rw [hg];exact Nat.ne_of_gt (blk_lt BK101.out) : gb124 ≠ gb101));have n11_ := Aside0.mk ((by rw [hg];exact Nat.ne_of_lt (blk_lt BK102.out) : gb102 ≠ gb124));have n12_ := Aside0.mk ((by rw [hg];exact Nat.ne_of_gt (blk_lt BK102.out) : gb124 ≠ gb102));clear HO110;clear HO116;clear HO123;clear BK101;clear BK102;clear HB;have HO110 := n0_;have HO116 := n1_;have HO123 := n2_;have BK101 := n3_;have BK102 := n4_;have HB := n5_;have BK124 := n6_;have GW124 := n7_;have GE124 := n8_;have NB101_124 := n9_;have NB124_101 := n10_;have NB102_124 := n11_;have NB124_102 := n12_;clear n0_ n1_ n2_ n3_ n4_ n5_ n6_ n7_ n8_ n9_ n10_ n11_ n12_;clear hb hbox hg;have hnb78 := NB124_101.out;have hnc78 := NB101_124.out;have hnb79 := NB124_102.out;have hnc79 := NB102_124.out;have hcz80_0 : w77.cell? ⟨gb124, 0, none⟩ = some (.int .i64 0) := (blk_cell BK124.out 0).trans rfl;have hcz80_1 : w77.cell? ⟨gb124, 1, none⟩ = some (.int .i64 0) := (blk_cell BK124.out 1).trans rfl;have hcz80_2 : w77.cell? ⟨gb124, 2, none⟩ = some (.int .i64 0) := (blk_cell BK124.out 2).trans rfl;have hcz80_3 : w77.cell? ⟨gb124, 3, none⟩ = some (.slice none 0 0) := (blk_cell BK124.out 3).trans rfl;have hfz80_0 := blk_frozen BK124.out 0;have hfz80_1 := blk_frozen BK124.out 1;have hfz80_2 := blk_frozen BK124.out 2;have hfz80_3 := blk_frozen BK124.out 3;obtain ⟨Ao81, co81, eo81⟩ := Kd.R_slice HO123.out;subst eo81;have hcz82_0 : w77.cell? ⟨gb102, 0, none⟩ = some (.int .i64 a1_0) := (blk_cell BK102.out 0).trans rfl;have hcz82_1 : w77.cell? ⟨gb102, 1, none⟩ = some (.int .i64 a1_1) := (blk_cell BK102.out 1).trans rfl;have hcz82_2 : w77.cell? ⟨gb102, 2, none⟩ = some (.int .i64 a1_2) := (blk_cell BK102.out 2).trans rfl;have hcz82_3 : w77.cell? ⟨gb102, 3, none⟩ = some (.slice A1_3 l1_3.length c1_3) := (blk_cell BK102.out 3).trans rfl;have hfz82_0 := blk_frozen BK102.out 0;have hfz82_1 := blk_frozen BK102.out 1;have hfz82_2 := blk_frozen BK102.out 2;have hfz82_3 := blk_frozen BK102.out 3) | ((with_reducible refine gate_callee (f := 10) rfl ?_);refine goesL_ (some 28) rfl rfl Try.func10 (by kernel_rfl) rfl #[.agg #[.int .i64 a1_0, .int .i64 a1_1, .int .i64 a1_2, .slice A1_3 l1_3.length c1_3]] rfl (by (try simp only [List.map_toArray, List.map_cons, List.map_nil]);first | done | rfl | (simp only [List.length_drop, List.length_take];rfl)) ?_;(with_reducible refine (laws_toEx.calls k a1_0 a1_1 a1_2 _ _ l1_3 t125 t126 t127 t128 _ ?side1 ?side2 A23.out).mono ?_);(case side1 => exact Kd.C_below HR1_3.out (by repeat (first | (with_reducible first | exact HB.out | apply below_alloc | apply pw_below_drewN | apply below_drew1 | refine below_set ?_ GE101.out | refine below_set ?_ GE102.out | refine below_set ?_ GE124.out) | exact HB.out)));(case side2 => exact HC1_3.out);rintro e w83 ⟨v129, rfl, ho0, hb⟩;refine ⟨_, rfl, ?_⟩;have n0_ := Aside0.mk (Kd.R_elder' (by (with_reducible repeat (first | apply Kd.R_alloc | apply Kd.R_drewN | apply Kd.R_drew));exact (Kd.R_mono (Kd.R_far (p := ⟨gb124, 3, none⟩) (Kd.R_far (p := ⟨gb124, 2, none⟩) (Kd.R_far (p := ⟨gb124, 1, none⟩) (Kd.R_far (p := ⟨gb124, 0, none⟩) (Kd.R_mono HO110.out (fun k_ hk => (⟨hk, hk.2⟩ : _ ∧ k_ ≠ gb124))) (fun _ hk => hk.2) (.int .i64 t118)) (fun _ hk => hk.2) (.int .i64 t119)) (fun _ hk => hk.2) (.int .i64 t120)) (fun _ hk => hk.2) (.slice Ao81 t121.length co81)) (fun _ h_ => h_.1))) (Kd.R_base ho0) hb);have n1_ := Aside0.mk (Kd.R_elder' (by (with_reducible repeat (first | apply Kd.R_alloc | apply Kd.R_drewN | apply Kd.R_drew));exact (Kd.R_mono (Kd.R_far (p := ⟨gb124, 3, none⟩) (Kd.R_far (p := ⟨gb124, 2, none⟩) (Kd.R_far (p := ⟨gb124, 1, none⟩) (Kd.R_far (p := ⟨gb124, 0, none⟩) (Kd.R_mono HO116.out (fun k_ hk => (⟨hk, hk.2⟩ : _ ∧ k_ ≠ gb124))) (fun _ hk => hk.2) (.int .i64 t118)) (fun _ hk => hk.2) (.int .i64 t119)) (fun _ hk => hk.2) (.int .i64 t120)) (fun _ hk => hk.2) (.slice Ao81 t121.length co81)) (fun _ h_ => h_.1))) (Kd.R_base ho0) hb);have n2_ := Aside0.mk (Kd.R_elder' (by (with_reducible repeat (first | apply Kd.R_alloc | apply Kd.R_drewN | apply Kd.R_drew));exact (Kd.R_mono (Kd.R_far (p := ⟨gb124, 3, none⟩) (Kd.R_far (p := ⟨gb124, 2, none⟩) (Kd.R_far (p := ⟨gb124, 1, none⟩) (Kd.R_far (p := ⟨gb124, 0, none⟩) (Kd.R_mono HO123.out (fun k_ hk => (⟨hk, hk.2⟩ : _ ∧ k_ ≠ gb124))) (fun _ hk => hk.2) (.int .i64 t118)) (fun _ hk => hk.2) (.int .i64 t119)) (fun _ hk => hk.2) (.int .i64 t120)) (fun _ hk => hk.2) (.slice Ao81 t121.length co81)) (fun _ h_ => h_.1))) (Kd.R_base ho0) hb);have n3_ := Aside0.mk (Kd.R_lower (Kd.R_newB (Kd.R_new' (Kd.R_new' (Kd.R_new' ho0 (Kd.R_lt (by (with_reducible repeat (first | apply Kd.R_alloc | apply Kd.R_drewN | apply Kd.R_drew));exact (Kd.R_mono (Kd.R_far (p := ⟨gb124, 3, none⟩) (Kd.R_far (p := ⟨gb124, 2, none⟩) (Kd.R_far (p := ⟨gb124, 1, none⟩) (Kd.R_far (p := ⟨gb124, 0, none⟩) (Kd.R_mono HO110.out (fun k_ hk => (⟨hk, hk.2⟩ : _ ∧ k_ ≠ gb124))) (fun _ hk => hk.2) (.int .i64 t118)) (fun _ hk => hk.2) (.int .i64 t119)) (fun _ hk => hk.2) (.int .i64 t120)) (fun _ hk => hk.2) (.slice Ao81 t121.length co81)) (fun _ h_ => h_.1))))) (Kd.R_lt (by (with_reducible repeat (first | apply Kd.R_alloc | apply Kd.R_drewN | apply Kd.R_drew));exact (Kd.R_mono (Kd.R_far (p := ⟨gb124, 3, none⟩) (Kd.R_far (p := ⟨gb124, 2, none⟩) (Kd.R_far (p := ⟨gb124, 1, none⟩) (Kd.R_far (p := ⟨gb124, 0, none⟩) (Kd.R_mono HO116.out (fun k_ hk => (⟨hk, hk.2⟩ : _ ∧ k_ ≠ gb124))) (fun _ hk => hk.2) (.int .i64 t118)) (fun _ hk => hk.2) (.int .i64 t119)) (fun _ hk => hk.2) (.int .i64 t120)) (fun _ hk => hk.2) (.slice Ao81 t121.length co81)) (fun _ h_ => h_.1))))) (Kd.R_lt (by (with_reducible repeat (first | apply Kd.R_alloc | apply Kd.R_drewN | apply Kd.R_drew));exact (Kd.R_mono (Kd.R_far (p := ⟨gb124, 3, none⟩) (Kd.R_far (p := ⟨gb124, 2, none⟩) (Kd.R_far (p := ⟨gb124, 1, none⟩) (Kd.R_far (p := ⟨gb124, 0, none⟩) (Kd.R_mono HO123.out (fun k_ hk => (⟨hk, hk.2⟩ : _ ∧ k_ ≠ gb124))) (fun _ hk => hk.2) (.int .i64 t118)) (fun _ hk => hk.2) (.int .i64 t119)) (fun _ hk => hk.2) (.int .i64 t120)) (fun _ hk => hk.2) (.slice Ao81 t121.length co81)) (fun _ h_ => h_.1))))) (g := gb124) (o := .cells #[.int .i64 t118, .int .i64 t119, .int .i64 t120, .slice Ao81 t121.length co81] 29 (0, 0)) (by (with_reducible repeat (first | refine blk_drewN ?_ _ | refine blk_drew ?_ | refine blk_alloc ?_ _));refine blk_put (cs := #[.int .i64 t118, .int .i64 t119, .int .i64 t120, .slice none 0 0]) ?_ 3 _ rfl;(with_reducible repeat (first | refine blk_drewN ?_ _ | refine blk_drew ?_ | refine blk_alloc ?_ _));refine blk_put (cs := #[.int .i64 t118, .int .i64 t119, .int .i64 0, .slice none 0 0]) ?_ 2 _ rfl;(with_reducible repeat (first | refine blk_drewN ?_ _ | refine blk_drew ?_ | refine blk_alloc ?_ _));refine blk_put (cs := #[.int .i64 t118, .int .i64 0, .int .i64 0, .slice none 0 0]) ?_ 1 _ rfl;(with_reducible repeat (first | refine blk_drewN ?_ _ | refine blk_drew ?_ | refine blk_alloc ?_ _));refine blk_put (cs := #[.int .i64 0, .int .i64 0, .int .i64 0, .slice none 0 0]) ?_ 0 _ rfl;(with_reducible repeat (first | refine blk_drewN ?_ _ | refine blk_drew ?_ | refine blk_alloc ?_ _));exact BK124.out)) (below_size (by repeat (first | (with_reducible first | exact HB.out | apply below_alloc | apply pw_below_drewN | apply below_drew1 | refine below_set ?_ GE101.out | refine below_set ?_ GE102.out | refine below_set ?_ GE124.out) | exact HB.out))));have n4_ := Aside0.mk (blk_below (g := gb101) (o := .cells #[.int .i64 a0_0, .int .i64 a0_1, .int .i64 a0_2, .slice A0_3 l0_3.length c0_3] 24 (0, 0)) (by (with_reducible repeat (first | refine blk_drewN ?_ _ | refine blk_drew ?_ | refine blk_alloc ?_ _));refine blk_far ?_ NB101_124.out _;(with_reducible repeat (first | refine blk_drewN ?_ _ | refine blk_drew ?_ | refine blk_alloc ?_ _));refine blk_far ?_ NB101_124.out _;(with_reducible repeat (first | refine blk_drewN ?_ _ | refine blk_drew ?_ | refine blk_alloc ?_ _));refine blk_far ?_ NB101_124.out _;(with_reducible repeat (first | refine blk_drewN ?_ _ | refine blk_drew ?_ | refine blk_alloc ?_ _));refine blk_far ?_ NB101_124.out _;(with_reducible repeat (first | refine blk_drewN ?_ _ | refine blk_drew ?_ | refine blk_alloc ?_ _));exact BK101.out) hb);have n5_ := Aside0.mk (blk_below (g := gb102) (o := .cells #[.int .i64 a1_0, .int .i64 a1_1, .int .i64 a1_2, .slice A1_3 l1_3.length c1_3] 24 (0, 0)) (by (with_reducible repeat (first | refine blk_drewN ?_ _ | refine blk_drew ?_ | refine blk_alloc ?_ _));refine blk_far ?_ NB102_124.out _;(with_reducible repeat (first | refine blk_drewN ?_ _ | refine blk_drew ?_ | refine blk_alloc ?_ _));refine blk_far ?_ NB102_124.out _;(with_reducible repeat (first | refine blk_drewN ?_ _ | refine blk_drew ?_ | refine blk_alloc ?_ _));refine blk_far ?_ NB102_124.out _;(with_reducible repeat (first | refine blk_drewN ?_ _ | refine blk_drew ?_ | refine blk_alloc ?_ _));refine blk_far ?_ NB102_124.out _;(with_reducible repeat (first | refine blk_drewN ?_ _ | refine blk_drew ?_ | refine blk_alloc ?_ _));exact BK102.out) hb);have n6_ := Aside0.mk (blk_below (g := gb124) (o := .cells #[.int .i64 t118, .int .i64 t119, .int .i64 t120, .slice Ao81 t121.length co81] 29 (0, 0)) (by (with_reducible repeat (first | refine blk_drewN ?_ _ | refine blk_drew ?_ | refine blk_alloc ?_ _));refine blk_put (cs := #[.int .i64 t118, .int .i64 t119, .int .i64 t120, .slice none 0 0]) ?_ 3 _ rfl;(with_reducible repeat (first | refine blk_drewN ?_ _ | refine blk_drew ?_ | refine blk_alloc ?_ _));refine blk_put (cs := #[.int .i64 t118, .int .i64 t119, .int .i64 0, .slice none 0 0]) ?_ 2 _ rfl;(with_reducible repeat (first | refine blk_drewN ?_ _ | refine blk_drew ?_ | refine blk_alloc ?_ _));refine blk_put (cs := #[.int .i64 t118, .int .i64 0, .int .i64 0, .slice none 0 0]) ?_ 1 _ rfl;(with_reducible repeat (first | refine blk_drewN ?_ _ | refine blk_drew ?_ | refine blk_alloc ?_ _));refine blk_put (cs := #[.int .i64 0, .int .i64 0, .int .i64 0, .slice none 0 0]) ?_ 0 _ rfl;(with_reducible repeat (first | refine blk_drewN ?_ _ | refine blk_drew ?_ | refine blk_alloc ?_ _));exact BK124.out) hb);have n7_ := Aside0.mk (below_step (by repeat (first | (with_reducible first | exact HB.out | apply below_alloc | apply pw_below_drewN | apply below_drew1 | refine below_set ?_ GE101.out | refine below_set ?_ GE102.out | refine below_set ?_ GE124.out) | exact HB.out)) hb);clear HO110;clear HO116;clear HO123;clear BK101;clear BK102;clear BK124;clear HB;have HO110 := n0_;have HO116 := n1_;have HO123 := n2_;have HO130 := n3_;have BK101 := n4_;have BK102 := n5_;have BK124 := n6_;have HB := n7_;clear n0_ n1_ n2_ n3_ n4_ n5_ n6_ n7_;(try clear hb);(try clear hb2);(try clear hk);(try clear hi);(try clear ho0)) | ((with_reducible refine gate_dst (N := 8) rfl ?_);refine box_event ?hg (N := 8) ?hd (cs := #[.int .i64 0, .int .i64 0, .int .i64 0, .slice none 0 0]) (t := 29) ?hr ?_;(case hd => rfl);(case hg => rfl);(case hr => first | (go_simp;done) | (go_simp;rfl));intro gb131 hg w84 hbox hb;have n0_ := Aside0.mk (Kd.R_below (Kd.R_elderB (by (with_reducible repeat (first | apply Kd.R_alloc | apply Kd.R_drewN | apply Kd.R_drew));exact HO110.out) gb131 (Nat.le_of_eq hg.symm)) hb);have n1_ := Aside0.mk (Kd.R_below (Kd.R_elderB (by (with_reducible repeat (first | apply Kd.R_alloc | apply Kd.R_drewN | apply Kd.R_drew));exact HO116.out) gb131 (Nat.le_of_eq hg.symm)) hb);have n2_ := Aside0.mk (Kd.R_below (Kd.R_elderB (by (with_reducible repeat (first | apply Kd.R_alloc | apply Kd.R_drewN | apply Kd.R_drew));exact HO123.out) gb131 (Nat.le_of_eq hg.symm)) hb);have n3_ := Aside0.mk (Kd.R_below (Kd.R_elderB (by (with_reducible repeat (first | apply Kd.R_alloc | apply Kd.R_drewN | apply Kd.R_drew));exact HO130.out) gb131 (Nat.le_of_eq hg.symm)) hb);have n4_ := Aside0.mk (blk_below BK101.out hb);have n5_ := Aside0.mk (blk_below BK102.out hb);have n6_ := Aside0.mk (blk_below BK124.out hb);have n7_ := Aside0.mk (below_step (by repeat (first | (with_reducible first | exact HB.out | apply below_alloc | apply pw_below_drewN | apply below_drew1 | refine below_set ?_ GE101.out | refine below_set ?_ GE102.out | refine below_set ?_ GE124.out) | exact HB.out)) hb);have n8_ := Aside0.mk (hbox);have n9_ := Aside0.mk ((by rw [hg];exact (below_size (by repeat (first | (with_reducible first | exact HB.out | apply below_alloc | apply pw_below_drewN | apply below_drew1 | refine below_set ?_ GE101.out | refine below_set ?_ GE102.out | refine below_set ?_ GE124.out) | exact HB.out))) : w.heap.size ≤ gb131));have n10_ := Aside0.mk ((by rw [hg];exact (below_size (by repeat (first | (with_reducible first | exact HB.out | apply below_alloc | apply pw_below_drewN | apply below_drew1 | refine below_set ?_ GE101.out | refine below_set ?_ GE102.out | refine below_set ?_ GE124.out) | exact HB.out))) : w.heap.size ≤ gb131));have n11_ := Aside0.mk ((by rw [hg];exact Nat.ne_of_lt (blk_lt BK101.out) : gb101 ≠ gb131));have n12_ := Aside0.mk ((by rw [hg];exact Nat.ne_of_gt (blk_lt BK101.out) : gb131 ≠ gb101));have n13_ := Aside0.mk ((by rw [hg];exact Nat.ne_of_lt (blk_lt BK102.out) : gb102 ≠ gb131));have n14_ := Aside0.mk ((by rw [hg];exact Nat.ne_of_gt (blk_lt BK102.out) : gb131 ≠ gb102));have n15_ := Aside0.mk ((by rw [hg];exact Nat.ne_of_lt (blk_lt BK124.out) : gb124 ≠ gb131));have n16_ := Aside0.mk ((by rw [hg];exact Nat.ne_of_gt (blk_lt BK124.out) : gb131 ≠ gb124));clear HO110;clear HO116;clear HO123;clear HO130;clear BK101;clear BK102;clear BK124;clear HB;have HO110 := n0_;have HO116 := n1_;have HO123 := n2_;have HO130 := n3_;have BK101 := n4_;have BK102 := n5_;have BK124 := n6_;have HB := n7_;have BK131 := n8_;have GW131 := n9_;have GE131 := n10_;have NB101_131 := n11_;have NB131_101 := n12_;have NB102_131 := n13_;have NB131_102 := n14_;have NB124_131 := n15_;have NB131_124 := n16_;clear n0_ n1_ n2_ n3_ n4_ n5_ n6_ n7_ n8_ n9_ n10_ n11_ n12_ n13_ n14_ n15_ n16_;clear hb hbox hg;have hnb85 := NB131_101.out;have hnc85 := NB101_131.out;have hnb86 := NB131_102.out;have hnc86 := NB102_131.out;have hnb87 := NB131_124.out;have hnc87 := NB124_131.out;have hcz88_0 : w84.cell? ⟨gb131, 0, none⟩ = some (.int .i64 0) := (blk_cell BK131.out 0).trans rfl;have hcz88_1 : w84.cell? ⟨gb131, 1, none⟩ = some (.int .i64 0) := (blk_cell BK131.out 1).trans rfl;have hcz88_2 : w84.cell? ⟨gb131, 2, none⟩ = some (.int .i64 0) := (blk_cell BK131.out 2).trans rfl;have hcz88_3 : w84.cell? ⟨gb131, 3, none⟩ = some (.slice none 0 0) := (blk_cell BK131.out 3).trans rfl;have hfz88_0 := blk_frozen BK131.out 0;have hfz88_1 := blk_frozen BK131.out 1;have hfz88_2 := blk_frozen BK131.out 2;have hfz88_3 := blk_frozen BK131.out 3;obtain ⟨Ao89, co89, eo89⟩ := Kd.R_slice HO130.out;subst eo89;have hcz90_0 : w84.cell? ⟨gb124, 0, none⟩ = some (.int .i64 t118) := (blk_cell BK124.out 0).trans rfl;have hcz90_1 : w84.cell? ⟨gb124, 1, none⟩ = some (.int .i64 t119) := (blk_cell BK124.out 1).trans rfl;have hcz90_2 : w84.cell? ⟨gb124, 2, none⟩ = some (.int .i64 t120) := (blk_cell BK124.out 2).trans rfl;have hcz90_3 : w84.cell? ⟨gb124, 3, none⟩ = some (.slice Ao81 t121.length co81) := (blk_cell BK124.out 3).trans rfl;have hfz90_0 := blk_frozen BK124.out 0;have hfz90_1 := blk_frozen BK124.out 1;have hfz90_2 := blk_frozen BK124.out 2;have hfz90_3 := blk_frozen BK124.out 3) | ((with_reducible refine gate_callee (f := 11) rfl ?_);refine goesL_ (some 31) rfl rfl Try.func11 (by kernel_rfl) rfl #[.agg #[.int .i64 t118, .int .i64 t119, .int .i64 t120, .slice Ao81 t121.length co81], .agg #[.int .i64 t125, .int .i64 t126, .int .i64 t127, .slice Ao89 t128.length co89]] rfl (by (try simp only [List.map_toArray, List.map_cons, List.map_nil]);first | done | rfl | (simp only [List.length_drop, List.length_take];rfl)) ?_;(with_reducible refine (impl_ExSame.calls k t118 t119 t120 _ _ t121 t125 t126 t127 _ _ t128 t132 _ ?side1 ?side2 ?side3 ?side4 A24.out).mono ?_);(case side1 => refine (Kd.R_reads' (e := 29) (base := w.heap.size) (ok := fun k_ => (((((True ∧ some k_ ≠ (.slice Ao72 t108.length co72 : Value).ownBlock) ∧ some k_ ≠ (.slice Ao73 t114.length co73 : Value).ownBlock) ∧ k_ ≠ gb124) ∧ some k_ ≠ (.slice Ao89 t128.length co89 : Value).ownBlock) ∧ k_ ≠ gb131)) (n := t121.length) (c := co81) ?_).2.2;exact (by (with_reducible repeat (first | apply Kd.R_alloc | apply Kd.R_drewN | apply Kd.R_drew));exact (Kd.R_mono (Kd.R_far (p := ⟨gb131, 3, none⟩) (Kd.R_far (p := ⟨gb131, 2, none⟩) (Kd.R_far (p := ⟨gb131, 1, none⟩) (Kd.R_far (p := ⟨gb131, 0, none⟩) (Kd.R_mono HO123.out (fun k_ hk => (⟨hk, hk.2⟩ : _ ∧ k_ ≠ gb131))) (fun _ hk => hk.2) (.int .i64 t125)) (fun _ hk => hk.2) (.int .i64 t126)) (fun _ hk => hk.2) (.int .i64 t127)) (fun _ hk => hk.2) (.slice Ao89 t128.length co89)) (fun _ h_ => h_.1))));(case side2 => exact (Kd.R_reads' HO123.out).2.1);(case side3 => refine (Kd.R_reads' (e := 29) (base := w.heap.size) (ok := fun k_ => (((((True ∧ some k_ ≠ (.slice Ao72 t108.length co72 : Value).ownBlock) ∧ some k_ ≠ (.slice Ao73 t114.length co73 : Value).ownBlock) ∧ some k_ ≠ (.slice Ao81 t121.length co81 : Value).ownBlock) ∧ k_ ≠ gb124) ∧ k_ ≠ gb131)) (n := t128.length) (c := co89) ?_).2.2;exact (by (with_reducible repeat (first | apply Kd.R_alloc | apply Kd.R_drewN | apply Kd.R_drew));exact (Kd.R_mono (Kd.R_far (p := ⟨gb131, 3, none⟩) (Kd.R_far (p := ⟨gb131, 2, none⟩) (Kd.R_far (p := ⟨gb131, 1, none⟩) (Kd.R_far (p := ⟨gb131, 0, none⟩) (Kd.R_mono HO130.out (fun k_ hk => (⟨hk, hk.2⟩ : _ ∧ k_ ≠ gb131))) (fun _ hk => hk.2) (.int .i64 t125)) (fun _ hk => hk.2) (.int .i64 t126)) (fun _ hk => hk.2) (.int .i64 t127)) (fun _ hk => hk.2) (.slice Ao89 t128.length co89)) (fun _ h_ => h_.1))));(case side4 => exact (Kd.R_reads' HO130.out).2.1);rintro e w91 ⟨rfl, hb⟩;refine ⟨_, rfl, ?_⟩;have n0_ := Aside0.mk (Kd.R_below (by (with_reducible repeat (first | apply Kd.R_alloc | apply Kd.R_drewN | apply Kd.R_drew));exact (Kd.R_mono (Kd.R_far (p := ⟨gb131, 3, none⟩) (Kd.R_far (p := ⟨gb131, 2, none⟩) (Kd.R_far (p := ⟨gb131, 1, none⟩) (Kd.R_far (p := ⟨gb131, 0, none⟩) (Kd.R_mono HO110.out (fun k_ hk => (⟨hk, hk.2⟩ : _ ∧ k_ ≠ gb131))) (fun _ hk => hk.2) (.int .i64 t125)) (fun _ hk => hk.2) (.int .i64 t126)) (fun _ hk => hk.2) (.int .i64 t127)) (fun _ hk => hk.2) (.slice Ao89 t128.length co89)) (fun _ h_ => h_.1))) hb);have n1_ := Aside0.mk (Kd.R_below (by (with_reducible repeat (first | apply Kd.R_alloc | apply Kd.R_drewN | apply Kd.R_drew));exact (Kd.R_mono (Kd.R_far (p := ⟨gb131, 3, none⟩) (Kd.R_far (p := ⟨gb131, 2, none⟩) (Kd.R_far (p := ⟨gb131, 1, none⟩) (Kd.R_far (p := ⟨gb131, 0, none⟩) (Kd.R_mono HO116.out (fun k_ hk => (⟨hk, hk.2⟩ : _ ∧ k_ ≠ gb131))) (fun _ hk => hk.2) (.int .i64 t125)) (fun _ hk => hk.2) (.int .i64 t126)) (fun _ hk => hk.2) (.int .i64 t127)) (fun _ hk => hk.2) (.slice Ao89 t128.length co89)) (fun _ h_ => h_.1))) hb);have n2_ := Aside0.mk (Kd.R_below (by (with_reducible repeat (first | apply Kd.R_alloc | apply Kd.R_drewN | apply Kd.R_drew));exact (Kd.R_mono (Kd.R_far (p := ⟨gb131, 3, none⟩) (Kd.R_far (p := ⟨gb131, 2, none⟩) (Kd.R_far (p := ⟨gb131, 1, none⟩) (Kd.R_far (p := ⟨gb131, 0, none⟩) (Kd.R_mono HO123.out (fun k_ hk => (⟨hk, hk.2⟩ : _ ∧ k_ ≠ gb131))) (fun _ hk => hk.2) (.int .i64 t125)) (fun _ hk => hk.2) (.int .i64 t126)) (fun _ hk => hk.2) (.int .i64 t127)) (fun _ hk => hk.2) (.slice Ao89 t128.length co89)) (fun _ h_ => h_.1))) hb);have n3_ := Aside0.mk (Kd.R_below (by (with_reducible repeat (first | apply Kd.R_alloc | apply Kd.R_drewN | apply Kd.R_drew));exact (Kd.R_mono (Kd.R_far (p := ⟨gb131, 3, none⟩) (Kd.R_far (p := ⟨gb131, 2, none⟩) (Kd.R_far (p := ⟨gb131, 1, none⟩) (Kd.R_far (p := ⟨gb131, 0, none⟩) (Kd.R_mono HO130.out (fun k_ hk => (⟨hk, hk.2⟩ : _ ∧ k_ ≠ gb131))) (fun _ hk => hk.2) (.int .i64 t125)) (fun _ hk => hk.2) (.int .i64 t126)) (fun _ hk => hk.2) (.int .i64 t127)) (fun _ hk => hk.2) (.slice Ao89 t128.length co89)) (fun _ h_ => h_.1))) hb);have n4_ := Aside0.mk (blk_below (g := gb101) (o := .cells #[.int .i64 a0_0, .int .i64 a0_1, .int .i64 a0_2, .slice A0_3 l0_3.length c0_3] 24 (0, 0)) (by (with_reducible repeat (first | refine blk_drewN ?_ _ | refine blk_drew ?_ | refine blk_alloc ?_ _));refine blk_far ?_ NB101_131.out _;(with_reducible repeat (first | refine blk_drewN ?_ _ | refine blk_drew ?_ | refine blk_alloc ?_ _));refine blk_far ?_ NB101_131.out _;(with_reducible repeat (first | refine blk_drewN ?_ _ | refine blk_drew ?_ | refine blk_alloc ?_ _));refine blk_far ?_ NB101_131.out _;(with_reducible repeat (first | refine blk_drewN ?_ _ | refine blk_drew ?_ | refine blk_alloc ?_ _));refine blk_far ?_ NB101_131.out _;(with_reducible repeat (first | refine blk_drewN ?_ _ | refine blk_drew ?_ | refine blk_alloc ?_ _));exact BK101.out) hb);have n5_ := Aside0.mk (blk_below (g := gb102) (o := .cells #[.int .i64 a1_0, .int .i64 a1_1, .int .i64 a1_2, .slice A1_3 l1_3.length c1_3] 24 (0, 0)) (by (with_reducible repeat (first | refine blk_drewN ?_ _ | refine blk_drew ?_ | refine blk_alloc ?_ _));refine blk_far ?_ NB102_131.out _;(with_reducible repeat (first | refine blk_drewN ?_ _ | refine blk_drew ?_ | refine blk_alloc ?_ _));refine blk_far ?_ NB102_131.out _;(with_reducible repeat (first | refine blk_drewN ?_ _ | refine blk_drew ?_ | refine blk_alloc ?_ _));refine blk_far ?_ NB102_131.out _;(with_reducible repeat (first | refine blk_drewN ?_ _ | refine blk_drew ?_ | refine blk_alloc ?_ _));refine blk_far ?_ NB102_131.out _;(with_reducible repeat (first | refine blk_drewN ?_ _ | refine blk_drew ?_ | refine blk_alloc ?_ _));exact BK102.out) hb);have n6_ := Aside0.mk (blk_below (g := gb124) (o := .cells #[.int .i64 t118, .int .i64 t119, .int .i64 t120, .slice Ao81 t121.length co81] 29 (0, 0)) (by (with_reducible repeat (first | refine blk_drewN ?_ _ | refine blk_drew ?_ | refine blk_alloc ?_ _));refine blk_far ?_ NB124_131.out _;(with_reducible repeat (first | refine blk_drewN ?_ _ | refine blk_drew ?_ | refine blk_alloc ?_ _));refine blk_far ?_ NB124_131.out _;(with_reducible repeat (first | refine blk_drewN ?_ _ | refine blk_drew ?_ | refine blk_alloc ?_ _));refine blk_far ?_ NB124_131.out _;(with_reducible repeat (first | refine blk_drewN ?_ _ | refine blk_drew ?_ | refine blk_alloc ?_ _));refine blk_far ?_ NB124_131.out _;(with_reducible repeat (first | refine blk_drewN ?_ _ | refine blk_drew ?_ | refine blk_alloc ?_ _));exact BK124.out) hb);have n7_ := Aside0.mk (blk_below (g := gb131) (o := .cells #[.int .i64 t125, .int .i64 t126, .int .i64 t127, .slice Ao89 t128.length co89] 29 (0, 0)) (by (with_reducible repeat (first | refine blk_drewN ?_ _ | refine blk_drew ?_ | refine blk_alloc ?_ _));refine blk_put (cs := #[.int .i64 t125, .int .i64 t126, .int .i64 t127, .slice none 0 0]) ?_ 3 _ rfl;(with_reducible repeat (first | refine blk_drewN ?_ _ | refine blk_drew ?_ | refine blk_alloc ?_ _));refine blk_put (cs := #[.int .i64 t125, .int .i64 t126, .int .i64 0, .slice none 0 0]) ?_ 2 _ rfl;(with_reducible repeat (first | refine blk_drewN ?_ _ | refine blk_drew ?_ | refine blk_alloc ?_ _));refine blk_put (cs := #[.int .i64 t125, .int .i64 0, .int .i64 0, .slice none 0 0]) ?_ 1 _ rfl;(with_reducible repeat (first | refine blk_drewN ?_ _ | refine blk_drew ?_ | refine blk_alloc ?_ _));refine blk_put (cs := #[.int .i64 0, .int .i64 0, .int .i64 0, .slice none 0 0]) ?_ 0 _ rfl;(with_reducible repeat (first | refine blk_drewN ?_ _ | refine blk_drew ?_ | refine blk_alloc ?_ _));exact BK131.out) hb);have n8_ := Aside0.mk (below_step (by repeat (first | (with_reducible first | exact HB.out | apply below_alloc | apply pw_below_drewN | apply below_drew1 | refine below_set ?_ GE101.out | refine below_set ?_ GE102.out | refine below_set ?_ GE124.out | refine below_set ?_ GE131.out) | exact HB.out)) hb);clear HO110;clear HO116;clear HO123;clear HO130;clear BK101;clear BK102;clear BK124;clear BK131;clear HB;have HO110 := n0_;have HO116 := n1_;have HO123 := n2_;have HO130 := n3_;have BK101 := n4_;have BK102 := n5_;have BK124 := n6_;have BK131 := n7_;have HB := n8_;clear n0_ n1_ n2_ n3_ n4_ n5_ n6_ n7_ n8_;(try clear hb);(try clear hb2);(try clear hk);(try clear hi)))
      have n0_ := Aside0.mk (Kd.R_drew HO110.out)
      have n1_ := Aside0.mk (Kd.R_drew HO116.out)
      have n2_ := Aside0.mk (Kd.R_drew HO123.out)
      have n3_ := Aside0.mk (Kd.R_drew HO130.out)
      have n4_ := Aside0.mk (blk_drew BK101.out)
      have n5_ := Aside0.mk (blk_drew BK102.out)
      have n6_ := Aside0.mk (blk_drew BK124.out)
      have n7_ := Aside0.mk (blk_drew BK131.out)
      have n8_ := Aside0.mk (below_drew1 HB.out)
      clear HO110
      clear HO116
      clear HO123
      clear HO130
      clear BK101
      clear BK102
      clear BK124
      clear BK131
      clear HB
      have HO110 := n0_
      have HO116 := n1_
      have HO123 := n2_
      have HO130 := n3_
      have BK101 := n4_
      have BK102 := n5_
      have BK124 := n6_
      have BK131 := n7_
      have HB := n8_
      clear n0_ n1_ n2_ n3_ n4_ n5_ n6_ n7_ n8_
      refine start_ (n := 5) (S := fun w' => w'.cell? ⟨gb124, 0, none⟩ = some (.int .i64 t118) ∧ w'.cell? ⟨gb124, 1, none⟩ = some (.int .i64 t119) ∧ w'.cell? ⟨gb124, 2, none⟩ = some (.int .i64 t120) ∧ w'.cell? ⟨gb124, 3, none⟩ = some (.slice Ao81 t121.length co81) ∧ w'.cell? ⟨gb101, 0, none⟩ = some (.int .i64 a0_0) ∧ w'.cell? ⟨gb101, 1, none⟩ = some (.int .i64 a0_1) ∧ w'.cell? ⟨gb101, 2, none⟩ = some (.int .i64 a0_2) ∧ w'.cell? ⟨gb101, 3, none⟩ = some (.slice A0_3 l0_3.length c0_3)) (ds := []) #[false, false, false, false, false] (by kernel_rfl) rfl rfl ⟨(blk_cell BK124.out 0).trans rfl, (blk_cell BK124.out 1).trans rfl, (blk_cell BK124.out 2).trans rfl, (blk_cell BK124.out 3).trans rfl, (blk_cell BK101.out 0).trans rfl, (blk_cell BK101.out 1).trans rfl, (blk_cell BK101.out 2).trans rfl, (blk_cell BK101.out 3).trans rfl⟩ (fun hHeld => ?_)
      generalize w91.drew = w92 at HO110 HO116 HO123 HO130 BK101 BK102 BK124 BK131 HB hHeld ⊢
      refine take_ (i := 0) (N := some 35) (v := ?_) (a' := ?_) #[true, false, false, false, false] rfl rfl (by kernel_rfl) (fun _ _ _ h => h) (Or.inl ⟨by rfl, ?_⟩) hHeld ?_ ?_
      rotate_left
      ·rintro w' ⟨s0, s1, s2, s3, s4, s5, s6, s7⟩
       go_simp
       with_reducible rfl
      rotate_left
      ·simp only [Act.put, List.setIfInBounds_toArray, List.set_cons_zero, List.set_cons_succ, i64_w, i32_w]
       rfl
      refine take_ (i := 1) (N := some 36) (v := ?_) (a' := ?_) #[true, true, false, false, false] rfl rfl (by kernel_rfl) (fun _ _ _ h => h) (Or.inl ⟨by rfl, ?_⟩) hHeld ?_ ?_
      rotate_left
      ·rintro w' ⟨s0, s1, s2, s3, s4, s5, s6, s7⟩
       go_simp
       with_reducible rfl
      rotate_left
      ·simp only [Act.put, List.setIfInBounds_toArray, List.set_cons_zero, List.set_cons_succ, i64_w, i32_w]
       rfl
      refine one_ (i := 2) (N := some 37) #[true, true, true, false, false] rfl rfl (by kernel_rfl) (by decide) (fun K hK => ?_)
      refine goes_ Try.func10 (by kernel_rfl) rfl #[.agg #[.int .i64 a0_0, .int .i64 a0_1, .int .i64 a0_2, .slice A0_3 l0_3.length c0_3]] (by rfl) rfl rfl (by (try simp only [List.map_toArray, List.map_cons, List.map_nil]);first | done | rfl | (simp only [List.length_drop, List.length_take];rfl)) ?_
      with_reducible refine (laws_toEx.calls k a0_0 a0_1 a0_2 _ _ l0_3 t133 t134 t135 t136 _ ?side1 ?side2 A56.out).mono ?_
      (case side1 => repeat (first | exact (Kd.C_below HR0_3.out HB.out) | (with_reducible refine Kd.C_alloc ?_ _) | (with_reducible refine Kd.C_drewN ?_ _) | (with_reducible refine Kd.C_drew ?_)))
      (case side2 => exact HC0_3.out)
      rintro e w93 ⟨v137, rfl, ho0, hb⟩
      refine ⟨_, rfl, ?_⟩
      have n0_ := Aside0.mk (Kd.R_elder' (by (with_reducible repeat (first | apply Kd.R_alloc | apply Kd.R_drewN | apply Kd.R_drew));exact HO110.out) (Kd.R_base ho0) hb)
      have n1_ := Aside0.mk (Kd.R_elder' (by (with_reducible repeat (first | apply Kd.R_alloc | apply Kd.R_drewN | apply Kd.R_drew));exact HO116.out) (Kd.R_base ho0) hb)
      have n2_ := Aside0.mk (Kd.R_elder' (by (with_reducible repeat (first | apply Kd.R_alloc | apply Kd.R_drewN | apply Kd.R_drew));exact HO123.out) (Kd.R_base ho0) hb)
      have n3_ := Aside0.mk (Kd.R_elder' (by (with_reducible repeat (first | apply Kd.R_alloc | apply Kd.R_drewN | apply Kd.R_drew));exact HO130.out) (Kd.R_base ho0) hb)
      have n4_ := Aside0.mk (Kd.R_lower (Kd.R_newB (Kd.R_newB (Kd.R_new' (Kd.R_new' (Kd.R_new' (Kd.R_new' ho0 (Kd.R_lt (by (with_reducible repeat (first | apply Kd.R_alloc | apply Kd.R_drewN | apply Kd.R_drew));exact HO110.out))) (Kd.R_lt (by (with_reducible repeat (first | apply Kd.R_alloc | apply Kd.R_drewN | apply Kd.R_drew));exact HO116.out))) (Kd.R_lt (by (with_reducible repeat (first | apply Kd.R_alloc | apply Kd.R_drewN | apply Kd.R_drew));exact HO123.out))) (Kd.R_lt (by (with_reducible repeat (first | apply Kd.R_alloc | apply Kd.R_drewN | apply Kd.R_drew));exact HO130.out))) BK124.out) BK131.out) (below_size (by exact HB.out)))
      have n5_ := Aside0.mk (blk_below BK101.out hb)
      have n6_ := Aside0.mk (blk_below BK102.out hb)
      have n7_ := Aside0.mk (blk_below BK124.out hb)
      have n8_ := Aside0.mk (blk_below BK131.out hb)
      have n9_ := Aside0.mk (below_step (by exact HB.out) hb)
      clear HO110
      clear HO116
      clear HO123
      clear HO130
      clear BK101
      clear BK102
      clear BK124
      clear BK131
      clear HB
      have HO110 := n0_
      have HO116 := n1_
      have HO123 := n2_
      have HO130 := n3_
      have HO138 := n4_
      have BK101 := n5_
      have BK102 := n6_
      have BK124 := n7_
      have BK131 := n8_
      have HB := n9_
      clear n0_ n1_ n2_ n3_ n4_ n5_ n6_ n7_ n8_ n9_
      (try clear hb)
      (try clear hb2)
      (try clear hk)
      (try clear hi)
      (try clear ho0)
      obtain ⟨Ao94, co94, eo94⟩ := Kd.R_slice HO138.out
      (first | subst eo94 | (injection eo94 with f1_ f2_ f3_;have f4_ := f1_.symm;have f5_ := f3_.symm;clear f1_ f2_ f3_;subst f4_;subst f5_))
      refine hK.out _ _ ⟨(blk_cell BK124.out 0).trans rfl, (blk_cell BK124.out 1).trans rfl, (blk_cell BK124.out 2).trans rfl, (blk_cell BK124.out 3).trans rfl, (blk_cell BK101.out 0).trans rfl, (blk_cell BK101.out 1).trans rfl, (blk_cell BK101.out 2).trans rfl, (blk_cell BK101.out 3).trans rfl⟩ (fun hHeld => ?_)
      clear hK K
      refine norm_ (a' := ?_) ?_ ?_
      rotate_left
      ·show Act.put _ (some 37) _ = _
       simp only [Act.put, List.setIfInBounds_toArray, List.set_cons_zero, List.set_cons_succ, i64_w, i32_w]
       rfl
      refine one_ (i := 3) (N := some 38) #[true, true, true, true, false] rfl rfl (by kernel_rfl) (by decide) (fun K hK => ?_)
      refine goes_ Try.func12 (by kernel_rfl) rfl #[.agg #[.int .i64 t118, .int .i64 t119, .int .i64 t120, .slice Ao81 t121.length co81], .agg #[.int .i64 t133, .int .i64 t134, .int .i64 t135, .slice Ao94 t136.length co94]] (by rfl) rfl rfl (by (try simp only [List.map_toArray, List.map_cons, List.map_nil]);first | done | rfl | (simp only [List.length_drop, List.length_take];rfl)) ?_
      with_reducible refine (laws_eqEx.calls k t118 t119 t120 _ _ t121 t133 t134 t135 _ _ t136 true _ ?side1 ?side2 ?side3 ?side4 A57.out).mono ?_
      (case side1 => repeat (first | exact (Kd.R_reads' HO123.out).2.2 | (with_reducible refine Kd.C_alloc ?_ _) | (with_reducible refine Kd.C_drewN ?_ _) | (with_reducible refine Kd.C_drew ?_)))
      (case side2 => exact (Kd.R_reads' HO123.out).2.1)
      (case side3 => repeat (first | exact (Kd.R_reads' HO138.out).2.2 | (with_reducible refine Kd.C_alloc ?_ _) | (with_reducible refine Kd.C_drewN ?_ _) | (with_reducible refine Kd.C_drew ?_)))
      (case side4 => exact (Kd.R_reads' HO138.out).2.1)
      rintro e w95 ⟨rfl, hb⟩
      refine ⟨_, rfl, ?_⟩
      have n0_ := Aside0.mk (Kd.R_below (by (with_reducible repeat (first | apply Kd.R_alloc | apply Kd.R_drewN | apply Kd.R_drew));exact HO110.out) hb)
      have n1_ := Aside0.mk (Kd.R_below (by (with_reducible repeat (first | apply Kd.R_alloc | apply Kd.R_drewN | apply Kd.R_drew));exact HO116.out) hb)
      have n2_ := Aside0.mk (Kd.R_below (by (with_reducible repeat (first | apply Kd.R_alloc | apply Kd.R_drewN | apply Kd.R_drew));exact HO123.out) hb)
      have n3_ := Aside0.mk (Kd.R_below (by (with_reducible repeat (first | apply Kd.R_alloc | apply Kd.R_drewN | apply Kd.R_drew));exact HO130.out) hb)
      have n4_ := Aside0.mk (Kd.R_below (by (with_reducible repeat (first | apply Kd.R_alloc | apply Kd.R_drewN | apply Kd.R_drew));exact HO138.out) hb)
      have n5_ := Aside0.mk (blk_below BK101.out hb)
      have n6_ := Aside0.mk (blk_below BK102.out hb)
      have n7_ := Aside0.mk (blk_below BK124.out hb)
      have n8_ := Aside0.mk (blk_below BK131.out hb)
      have n9_ := Aside0.mk (below_step (by exact HB.out) hb)
      clear HO110
      clear HO116
      clear HO123
      clear HO130
      clear HO138
      clear BK101
      clear BK102
      clear BK124
      clear BK131
      clear HB
      have HO110 := n0_
      have HO116 := n1_
      have HO123 := n2_
      have HO130 := n3_
      have HO138 := n4_
      have BK101 := n5_
      have BK102 := n6_
      have BK124 := n7_
      have BK131 := n8_
      have HB := n9_
      clear n0_ n1_ n2_ n3_ n4_ n5_ n6_ n7_ n8_ n9_
      (try clear hb)
      (try clear hb2)
      (try clear hk)
      (try clear hi)
      refine hK.out _ _ ⟨(blk_cell BK124.out 0).trans rfl, (blk_cell BK124.out 1).trans rfl, (blk_cell BK124.out 2).trans rfl, (blk_cell BK124.out 3).trans rfl, (blk_cell BK101.out 0).trans rfl, (blk_cell BK101.out 1).trans rfl, (blk_cell BK101.out 2).trans rfl, (blk_cell BK101.out 3).trans rfl⟩ (fun hHeld => ?_)
      clear hK K
      refine norm_ (a' := ?_) ?_ ?_
      rotate_left
      ·show Act.put _ (some 38) _ = _
       simp only [Act.put, List.setIfInBounds_toArray, List.set_cons_zero, List.set_cons_succ, i64_w, i32_w]
       rfl
      refine pure_ (i := 4) (N := some 39) (v := ?_) (a' := ?_) #[true, true, true, true, true] rfl rfl (by kernel_rfl) (fun _ _ _ h => h) (Or.inl ⟨by rfl, ?_⟩) ?_ ?_
      rotate_left
      ·intro w'
       go_simp
       with_reducible rfl
      rotate_left
      ·simp only [Act.put, List.setIfInBounds_toArray, List.set_cons_zero, List.set_cons_succ, i64_w, i32_w]
       rfl
      refine done_ (by kernel_rfl) ?_
      try go_wp2
      have n0_ := Aside0.mk (Kd.R_drew HO110.out)
      have n1_ := Aside0.mk (Kd.R_drew HO116.out)
      have n2_ := Aside0.mk (Kd.R_drew HO123.out)
      have n3_ := Aside0.mk (Kd.R_drew HO130.out)
      have n4_ := Aside0.mk (Kd.R_drew HO138.out)
      have n5_ := Aside0.mk (blk_drew BK101.out)
      have n6_ := Aside0.mk (blk_drew BK102.out)
      have n7_ := Aside0.mk (blk_drew BK124.out)
      have n8_ := Aside0.mk (blk_drew BK131.out)
      have n9_ := Aside0.mk (below_drew1 HB.out)
      clear HO110
      clear HO116
      clear HO123
      clear HO130
      clear HO138
      clear BK101
      clear BK102
      clear BK124
      clear BK131
      clear HB
      have HO110 := n0_
      have HO116 := n1_
      have HO123 := n2_
      have HO130 := n3_
      have HO138 := n4_
      have BK101 := n5_
      have BK102 := n6_
      have BK124 := n7_
      have BK131 := n8_
      have HB := n9_
      clear n0_ n1_ n2_ n3_ n4_ n5_ n6_ n7_ n8_ n9_
      refine start_ (n := 5) (S := fun w' => w'.cell? ⟨gb131, 0, none⟩ = some (.int .i64 t125) ∧ w'.cell? ⟨gb131, 1, none⟩ = some (.int .i64 t126) ∧ w'.cell? ⟨gb131, 2, none⟩ = some (.int .i64 t127) ∧ w'.cell? ⟨gb131, 3, none⟩ = some (.slice Ao89 t128.length co89) ∧ w'.cell? ⟨gb102, 0, none⟩ = some (.int .i64 a1_0) ∧ w'.cell? ⟨gb102, 1, none⟩ = some (.int .i64 a1_1) ∧ w'.cell? ⟨gb102, 2, none⟩ = some (.int .i64 a1_2) ∧ w'.cell? ⟨gb102, 3, none⟩ = some (.slice A1_3 l1_3.length c1_3)) (ds := []) #[false, false, false, false, false] (by kernel_rfl) rfl rfl ⟨(blk_cell BK131.out 0).trans rfl, (blk_cell BK131.out 1).trans rfl, (blk_cell BK131.out 2).trans rfl, (blk_cell BK131.out 3).trans rfl, (blk_cell BK102.out 0).trans rfl, (blk_cell BK102.out 1).trans rfl, (blk_cell BK102.out 2).trans rfl, (blk_cell BK102.out 3).trans rfl⟩ (fun hHeld => ?_)
      generalize w95.drew = w96 at HO110 HO116 HO123 HO130 HO138 BK101 BK102 BK124 BK131 HB hHeld ⊢
      refine take_ (i := 0) (N := some 40) (v := ?_) (a' := ?_) #[true, false, false, false, false] rfl rfl (by kernel_rfl) (fun _ _ _ h => h) (Or.inl ⟨by rfl, ?_⟩) hHeld ?_ ?_
      rotate_left
      ·rintro w' ⟨s0, s1, s2, s3, s4, s5, s6, s7⟩
       go_simp
       with_reducible rfl
      rotate_left
      ·simp only [Act.put, List.setIfInBounds_toArray, List.set_cons_zero, List.set_cons_succ, i64_w, i32_w]
       rfl
      refine take_ (i := 1) (N := some 41) (v := ?_) (a' := ?_) #[true, true, false, false, false] rfl rfl (by kernel_rfl) (fun _ _ _ h => h) (Or.inl ⟨by rfl, ?_⟩) hHeld ?_ ?_
      rotate_left
      ·rintro w' ⟨s0, s1, s2, s3, s4, s5, s6, s7⟩
       go_simp
       with_reducible rfl
      rotate_left
      ·simp only [Act.put, List.setIfInBounds_toArray, List.set_cons_zero, List.set_cons_succ, i64_w, i32_w]
       rfl
      refine one_ (i := 2) (N := some 42) #[true, true, true, false, false] rfl rfl (by kernel_rfl) (by decide) (fun K hK => ?_)
      refine goes_ Try.func10 (by kernel_rfl) rfl #[.agg #[.int .i64 a1_0, .int .i64 a1_1, .int .i64 a1_2, .slice A1_3 l1_3.length c1_3]] (by rfl) rfl rfl (by (try simp only [List.map_toArray, List.map_cons, List.map_nil]);first | done | rfl | (simp only [List.length_drop, List.length_take];rfl)) ?_
      with_reducible refine (laws_toEx.calls k a1_0 a1_1 a1_2 _ _ l1_3 t140 t141 t142 t143 _ ?side1 ?side2 A59.out).mono ?_
      (case side1 => repeat (first | exact (Kd.C_below HR1_3.out HB.out) | (with_reducible refine Kd.C_alloc ?_ _) | (with_reducible refine Kd.C_drewN ?_ _) | (with_reducible refine Kd.C_drew ?_)))
      (case side2 => exact HC1_3.out)
      rintro e w97 ⟨v144, rfl, ho0, hb⟩
      refine ⟨_, rfl, ?_⟩
      have n0_ := Aside0.mk (Kd.R_elder' (by (with_reducible repeat (first | apply Kd.R_alloc | apply Kd.R_drewN | apply Kd.R_drew));exact HO110.out) (Kd.R_base ho0) hb)
      have n1_ := Aside0.mk (Kd.R_elder' (by (with_reducible repeat (first | apply Kd.R_alloc | apply Kd.R_drewN | apply Kd.R_drew));exact HO116.out) (Kd.R_base ho0) hb)
      have n2_ := Aside0.mk (Kd.R_elder' (by (with_reducible repeat (first | apply Kd.R_alloc | apply Kd.R_drewN | apply Kd.R_drew));exact HO123.out) (Kd.R_base ho0) hb)
      have n3_ := Aside0.mk (Kd.R_elder' (by (with_reducible repeat (first | apply Kd.R_alloc | apply Kd.R_drewN | apply Kd.R_drew));exact HO130.out) (Kd.R_base ho0) hb)
      have n4_ := Aside0.mk (Kd.R_elder' (by (with_reducible repeat (first | apply Kd.R_alloc | apply Kd.R_drewN | apply Kd.R_drew));exact HO138.out) (Kd.R_base ho0) hb)
      have n5_ := Aside0.mk (Kd.R_lower (Kd.R_newB (Kd.R_newB (Kd.R_new' (Kd.R_new' (Kd.R_new' (Kd.R_new' (Kd.R_new' ho0 (Kd.R_lt (by (with_reducible repeat (first | apply Kd.R_alloc | apply Kd.R_drewN | apply Kd.R_drew));exact HO110.out))) (Kd.R_lt (by (with_reducible repeat (first | apply Kd.R_alloc | apply Kd.R_drewN | apply Kd.R_drew));exact HO116.out))) (Kd.R_lt (by (with_reducible repeat (first | apply Kd.R_alloc | apply Kd.R_drewN | apply Kd.R_drew));exact HO123.out))) (Kd.R_lt (by (with_reducible repeat (first | apply Kd.R_alloc | apply Kd.R_drewN | apply Kd.R_drew));exact HO130.out))) (Kd.R_lt (by (with_reducible repeat (first | apply Kd.R_alloc | apply Kd.R_drewN | apply Kd.R_drew));exact HO138.out))) BK124.out) BK131.out) (below_size (by exact HB.out)))
      have n6_ := Aside0.mk (blk_below BK101.out hb)
      have n7_ := Aside0.mk (blk_below BK102.out hb)
      have n8_ := Aside0.mk (blk_below BK124.out hb)
      have n9_ := Aside0.mk (blk_below BK131.out hb)
      have n10_ := Aside0.mk (below_step (by exact HB.out) hb)
      clear HO110
      clear HO116
      clear HO123
      clear HO130
      clear HO138
      clear BK101
      clear BK102
      clear BK124
      clear BK131
      clear HB
      have HO110 := n0_
      have HO116 := n1_
      have HO123 := n2_
      have HO130 := n3_
      have HO138 := n4_
      have HO145 := n5_
      have BK101 := n6_
      have BK102 := n7_
      have BK124 := n8_
      have BK131 := n9_
      have HB := n10_
      clear n0_ n1_ n2_ n3_ n4_ n5_ n6_ n7_ n8_ n9_ n10_
      (try clear hb)
      (try clear hb2)
      (try clear hk)
      (try clear hi)
      (try clear ho0)
      obtain ⟨Ao98, co98, eo98⟩ := Kd.R_slice HO145.out
      (first | subst eo98 | (injection eo98 with f1_ f2_ f3_;have f4_ := f1_.symm;have f5_ := f3_.symm;clear f1_ f2_ f3_;subst f4_;subst f5_))
      refine hK.out _ _ ⟨(blk_cell BK131.out 0).trans rfl, (blk_cell BK131.out 1).trans rfl, (blk_cell BK131.out 2).trans rfl, (blk_cell BK131.out 3).trans rfl, (blk_cell BK102.out 0).trans rfl, (blk_cell BK102.out 1).trans rfl, (blk_cell BK102.out 2).trans rfl, (blk_cell BK102.out 3).trans rfl⟩ (fun hHeld => ?_)
      clear hK K
      refine norm_ (a' := ?_) ?_ ?_
      rotate_left
      ·show Act.put _ (some 42) _ = _
       simp only [Act.put, List.setIfInBounds_toArray, List.set_cons_zero, List.set_cons_succ, i64_w, i32_w]
       rfl
      refine one_ (i := 3) (N := some 43) #[true, true, true, true, false] rfl rfl (by kernel_rfl) (by decide) (fun K hK => ?_)
      refine goes_ Try.func12 (by kernel_rfl) rfl #[.agg #[.int .i64 t125, .int .i64 t126, .int .i64 t127, .slice Ao89 t128.length co89], .agg #[.int .i64 t140, .int .i64 t141, .int .i64 t142, .slice Ao98 t143.length co98]] (by rfl) rfl rfl (by (try simp only [List.map_toArray, List.map_cons, List.map_nil]);first | done | rfl | (simp only [List.length_drop, List.length_take];rfl)) ?_
      with_reducible refine (laws_eqEx.calls k t125 t126 t127 _ _ t128 t140 t141 t142 _ _ t143 true _ ?side1 ?side2 ?side3 ?side4 A60.out).mono ?_
      (case side1 => repeat (first | exact (Kd.R_reads' HO130.out).2.2 | (with_reducible refine Kd.C_alloc ?_ _) | (with_reducible refine Kd.C_drewN ?_ _) | (with_reducible refine Kd.C_drew ?_)))
      (case side2 => exact (Kd.R_reads' HO130.out).2.1)
      (case side3 => repeat (first | exact (Kd.R_reads' HO145.out).2.2 | (with_reducible refine Kd.C_alloc ?_ _) | (with_reducible refine Kd.C_drewN ?_ _) | (with_reducible refine Kd.C_drew ?_)))
      (case side4 => exact (Kd.R_reads' HO145.out).2.1)
      rintro e w99 ⟨rfl, hb⟩
      refine ⟨_, rfl, ?_⟩
      have n0_ := Aside0.mk (Kd.R_below (by (with_reducible repeat (first | apply Kd.R_alloc | apply Kd.R_drewN | apply Kd.R_drew));exact HO110.out) hb)
      have n1_ := Aside0.mk (Kd.R_below (by (with_reducible repeat (first | apply Kd.R_alloc | apply Kd.R_drewN | apply Kd.R_drew));exact HO116.out) hb)
      have n2_ := Aside0.mk (Kd.R_below (by (with_reducible repeat (first | apply Kd.R_alloc | apply Kd.R_drewN | apply Kd.R_drew));exact HO123.out) hb)
      have n3_ := Aside0.mk (Kd.R_below (by (with_reducible repeat (first | apply Kd.R_alloc | apply Kd.R_drewN | apply Kd.R_drew));exact HO130.out) hb)
      have n4_ := Aside0.mk (Kd.R_below (by (with_reducible repeat (first | apply Kd.R_alloc | apply Kd.R_drewN | apply Kd.R_drew));exact HO138.out) hb)
      have n5_ := Aside0.mk (Kd.R_below (by (with_reducible repeat (first | apply Kd.R_alloc | apply Kd.R_drewN | apply Kd.R_drew));exact HO145.out) hb)
      have n6_ := Aside0.mk (blk_below BK101.out hb)
      have n7_ := Aside0.mk (blk_below BK102.out hb)
      have n8_ := Aside0.mk (blk_below BK124.out hb)
      have n9_ := Aside0.mk (blk_below BK131.out hb)
      have n10_ := Aside0.mk (below_step (by exact HB.out) hb)
      clear HO110
      clear HO116
      clear HO123
      clear HO130
      clear HO138
      clear HO145
      clear BK101
      clear BK102
      clear BK124
      clear BK131
      clear HB
      have HO110 := n0_
      have HO116 := n1_
      have HO123 := n2_
      have HO130 := n3_
      have HO138 := n4_
      have HO145 := n5_
      have BK101 := n6_
      have BK102 := n7_
      have BK124 := n8_
      have BK131 := n9_
      have HB := n10_
      clear n0_ n1_ n2_ n3_ n4_ n5_ n6_ n7_ n8_ n9_ n10_
      (try clear hb)
      (try clear hb2)
      (try clear hk)
      (try clear hi)
      refine hK.out _ _ ⟨(blk_cell BK131.out 0).trans rfl, (blk_cell BK131.out 1).trans rfl, (blk_cell BK131.out 2).trans rfl, (blk_cell BK131.out 3).trans rfl, (blk_cell BK102.out 0).trans rfl, (blk_cell BK102.out 1).trans rfl, (blk_cell BK102.out 2).trans rfl, (blk_cell BK102.out 3).trans rfl⟩ (fun hHeld => ?_)
      clear hK K
      refine norm_ (a' := ?_) ?_ ?_
      rotate_left
      ·show Act.put _ (some 43) _ = _
       simp only [Act.put, List.setIfInBounds_toArray, List.set_cons_zero, List.set_cons_succ, i64_w, i32_w]
       rfl
      refine pure_ (i := 4) (N := some 44) (v := ?_) (a' := ?_) #[true, true, true, true, true] rfl rfl (by kernel_rfl) (fun _ _ _ h => h) (Or.inl ⟨by rfl, ?_⟩) ?_ ?_
      rotate_left
      ·intro w'
       go_simp
       with_reducible rfl
      rotate_left
      ·simp only [Act.put, List.setIfInBounds_toArray, List.set_cons_zero, List.set_cons_succ, i64_w, i32_w]
       rfl
      refine done_ (by kernel_rfl) ?_
      try go_wp2
      go_ret
      exact ⟨by first | rfl | (simp [errW_none, errW_some] <;> rfl) | (simp [*, errW_none, errW_some] <;> rfl), by repeat (first | (with_reducible first | exact HB.out | apply below_alloc | apply pw_below_drewN | apply below_drew1 | refine below_set ?_ GE101.out | refine below_set ?_ GE102.out | refine below_set ?_ GE124.out | refine below_set ?_ GE131.out) | exact HB.out)⟩
     ·replace c61 := Bool.eq_false_iff.mpr c61
      subst c61
      have H1 : (some false) = some r := by rw [if_neg (show ¬ (false = true) by decide)] at H;exact H
      clear H
      have H := H1
      clear H1
      obtain rfl := Option.some.inj H
      go_enter Try.func3, Try.ntmps3
      try go_wp2_with (first | ((with_reducible refine gate_dst (N := 2) rfl ?_);refine box_event ?hg (N := 2) ?hd (cs := #[.int .i64 a0_0, .int .i64 a0_1, .int .i64 a0_2, .slice A0_3 l0_3.length c0_3]) (t := 24) ?hr ?_;(case hd => rfl);(case hg => rfl);(case hr => first | (go_simp;done) | (go_simp;rfl));intro gb101 hg w100 hbox hb;have n0_ := Aside0.mk (below_step (by exact HB.out) hb);have n1_ := Aside0.mk (hbox);have n2_ := Aside0.mk ((by rw [hg];exact (below_size (by exact HB.out)) : w.heap.size ≤ gb101));have n3_ := Aside0.mk ((by rw [hg];exact (below_size (by exact HB.out)) : w.heap.size ≤ gb101));clear HB;have HB := n0_;have BK101 := n1_;have GW101 := n2_;have GE101 := n3_;clear n0_ n1_ n2_ n3_;clear hb hbox hg) | ((with_reducible refine gate_dst (N := 3) rfl ?_);refine box_event ?hg (N := 3) ?hd (cs := #[.int .i64 a1_0, .int .i64 a1_1, .int .i64 a1_2, .slice A1_3 l1_3.length c1_3]) (t := 24) ?hr ?_;(case hd => rfl);(case hg => rfl);(case hr => first | (go_simp;done) | (go_simp;rfl));intro gb102 hg w101 hbox hb;have n0_ := Aside0.mk (blk_below BK101.out hb);have n1_ := Aside0.mk (below_step (by exact HB.out) hb);have n2_ := Aside0.mk (hbox);have n3_ := Aside0.mk ((by rw [hg];exact (below_size (by exact HB.out)) : w.heap.size ≤ gb102));have n4_ := Aside0.mk ((by rw [hg];exact (below_size (by exact HB.out)) : w.heap.size ≤ gb102));have n5_ := Aside0.mk ((by rw [hg];exact Nat.ne_of_lt (blk_lt BK101.out) : gb101 ≠ gb102));have n6_ := Aside0.mk ((by rw [hg];exact Nat.ne_of_gt (blk_lt BK101.out) : gb102 ≠ gb101));clear BK101;clear HB;have BK101 := n0_;have HB := n1_;have BK102 := n2_;have GW102 := n3_;have GE102 := n4_;have NB101_102 := n5_;have NB102_101 := n6_;clear n0_ n1_ n2_ n3_ n4_ n5_ n6_;clear hb hbox hg;have hnb102 := NB101_102.out;have hnc102 := NB102_101.out;have hcz103_0 : w101.cell? ⟨gb101, 0, none⟩ = some (.int .i64 a0_0) := (blk_cell BK101.out 0).trans rfl;have hcz103_1 : w101.cell? ⟨gb101, 1, none⟩ = some (.int .i64 a0_1) := (blk_cell BK101.out 1).trans rfl;have hcz103_2 : w101.cell? ⟨gb101, 2, none⟩ = some (.int .i64 a0_2) := (blk_cell BK101.out 2).trans rfl;have hcz103_3 : w101.cell? ⟨gb101, 3, none⟩ = some (.slice A0_3 l0_3.length c0_3) := (blk_cell BK101.out 3).trans rfl;have hfz103_0 := blk_frozen BK101.out 0;have hfz103_1 := blk_frozen BK101.out 1;have hfz103_2 := blk_frozen BK101.out 2;have hfz103_3 := blk_frozen BK101.out 3) | ((with_reducible refine gate_callee (f := 8) rfl ?_);refine goesL_ (some 12) rfl rfl Try.func8 (by kernel_rfl) rfl #[.agg #[.int .i64 a0_0, .int .i64 a0_1, .int .i64 a0_2, .slice A0_3 l0_3.length c0_3], .int .i64 1048576] rfl (by (try simp only [List.map_toArray, List.map_cons, List.map_nil]);first | done | rfl | (simp only [List.length_drop, List.length_take];rfl)) ?_;(with_reducible refine (laws_szEx.calls k a0_0 a0_1 a0_2 _ _ l0_3 1048576 t103 _ ?side1 ?side2 A3.out).mono ?_);(case side1 => repeat (first | exact (Kd.C_below HR0_3.out HB.out) | (with_reducible refine Kd.C_alloc ?_ _) | (with_reducible refine Kd.C_drewN ?_ _) | (with_reducible refine Kd.C_drew ?_)));(case side2 => exact HC0_3.out);rintro e w104 ⟨rfl, hb⟩;refine ⟨_, rfl, ?_⟩;have n0_ := Aside0.mk (blk_below BK101.out hb);have n1_ := Aside0.mk (blk_below BK102.out hb);have n2_ := Aside0.mk (below_step (by exact HB.out) hb);clear BK101;clear BK102;clear HB;have BK101 := n0_;have BK102 := n1_;have HB := n2_;clear n0_ n1_ n2_;(try clear hb);(try clear hb2);(try clear hk);(try clear hi);have hcz105_0 : w104.cell? ⟨gb102, 0, none⟩ = some (.int .i64 a1_0) := (blk_cell BK102.out 0).trans rfl;have hcz105_1 : w104.cell? ⟨gb102, 1, none⟩ = some (.int .i64 a1_1) := (blk_cell BK102.out 1).trans rfl;have hcz105_2 : w104.cell? ⟨gb102, 2, none⟩ = some (.int .i64 a1_2) := (blk_cell BK102.out 2).trans rfl;have hcz105_3 : w104.cell? ⟨gb102, 3, none⟩ = some (.slice A1_3 l1_3.length c1_3) := (blk_cell BK102.out 3).trans rfl;have hfz105_0 := blk_frozen BK102.out 0;have hfz105_1 := blk_frozen BK102.out 1;have hfz105_2 := blk_frozen BK102.out 2;have hfz105_3 := blk_frozen BK102.out 3) | ((with_reducible refine gate_callee (f := 8) rfl ?_);refine goesL_ (some 17) rfl rfl Try.func8 (by kernel_rfl) rfl #[.agg #[.int .i64 a1_0, .int .i64 a1_1, .int .i64 a1_2, .slice A1_3 l1_3.length c1_3], .int .i64 t103] rfl (by (try simp only [List.map_toArray, List.map_cons, List.map_nil]);first | done | rfl | (simp only [List.length_drop, List.length_take];rfl)) ?_;(with_reducible refine (laws_szEx.calls k a1_0 a1_1 a1_2 _ _ l1_3 t103 t104 _ ?side1 ?side2 A10.out).mono ?_);(case side1 => repeat (first | exact (Kd.C_below HR1_3.out HB.out) | (with_reducible refine Kd.C_alloc ?_ _) | (with_reducible refine Kd.C_drewN ?_ _) | (with_reducible refine Kd.C_drew ?_)));(case side2 => exact HC1_3.out);rintro e w106 ⟨rfl, hb⟩;refine ⟨_, rfl, ?_⟩;have n0_ := Aside0.mk (blk_below BK101.out hb);have n1_ := Aside0.mk (blk_below BK102.out hb);have n2_ := Aside0.mk (below_step (by exact HB.out) hb);clear BK101;clear BK102;clear HB;have BK101 := n0_;have BK102 := n1_;have HB := n2_;clear n0_ n1_ n2_;(try clear hb);(try clear hb2);(try clear hk);(try clear hi)))
      have n0_ := Aside0.mk (blk_drew BK101.out)
      have n1_ := Aside0.mk (blk_drew BK102.out)
      have n2_ := Aside0.mk (below_drew1 HB.out)
      clear BK101
      clear BK102
      clear HB
      have BK101 := n0_
      have BK102 := n1_
      have HB := n2_
      clear n0_ n1_ n2_
      refine start_ (n := 6) (S := fun w' => w'.cell? ⟨gb101, 0, none⟩ = some (.int .i64 a0_0) ∧ w'.cell? ⟨gb101, 1, none⟩ = some (.int .i64 a0_1) ∧ w'.cell? ⟨gb101, 2, none⟩ = some (.int .i64 a0_2) ∧ w'.cell? ⟨gb101, 3, none⟩ = some (.slice A0_3 l0_3.length c0_3) ∧ w'.cell? ⟨gb102, 0, none⟩ = some (.int .i64 a1_0) ∧ w'.cell? ⟨gb102, 1, none⟩ = some (.int .i64 a1_1) ∧ w'.cell? ⟨gb102, 2, none⟩ = some (.int .i64 a1_2) ∧ w'.cell? ⟨gb102, 3, none⟩ = some (.slice A1_3 l1_3.length c1_3)) (ds := []) #[false, false, false, false, false, false] (by kernel_rfl) rfl rfl ⟨(blk_cell BK101.out 0).trans rfl, (blk_cell BK101.out 1).trans rfl, (blk_cell BK101.out 2).trans rfl, (blk_cell BK101.out 3).trans rfl, (blk_cell BK102.out 0).trans rfl, (blk_cell BK102.out 1).trans rfl, (blk_cell BK102.out 2).trans rfl, (blk_cell BK102.out 3).trans rfl⟩ (fun hHeld => ?_)
      generalize w106.drew = w107 at BK101 BK102 HB hHeld ⊢
      refine take_ (i := 0) (N := some 20) (v := ?_) (a' := ?_) #[true, false, false, false, false, false] rfl rfl (by kernel_rfl) (fun _ _ _ h => h) (Or.inl ⟨by rfl, ?_⟩) hHeld ?_ ?_
      rotate_left
      ·rintro w' ⟨s0, s1, s2, s3, s4, s5, s6, s7⟩
       go_simp
       with_reducible rfl
      rotate_left
      ·simp only [Act.put, List.setIfInBounds_toArray, List.set_cons_zero, List.set_cons_succ, i64_w, i32_w]
       rfl
      refine take_ (i := 2) (N := some 22) (v := ?_) (a' := ?_) #[true, false, true, false, false, false] rfl rfl (by kernel_rfl) (fun _ _ _ h => h) (Or.inl ⟨by rfl, ?_⟩) hHeld ?_ ?_
      rotate_left
      ·rintro w' ⟨s0, s1, s2, s3, s4, s5, s6, s7⟩
       go_simp
       with_reducible rfl
      rotate_left
      ·simp only [Act.put, List.setIfInBounds_toArray, List.set_cons_zero, List.set_cons_succ, i64_w, i32_w]
       rfl
      refine one_ (i := 1) (N := some 21) #[true, true, true, false, false, false] rfl rfl (by kernel_rfl) (by decide) (fun K hK => ?_)
      refine goes_ Try.func10 (by kernel_rfl) rfl #[.agg #[.int .i64 a0_0, .int .i64 a0_1, .int .i64 a0_2, .slice A0_3 l0_3.length c0_3]] (by rfl) rfl rfl (by (try simp only [List.map_toArray, List.map_cons, List.map_nil]);first | done | rfl | (simp only [List.length_drop, List.length_take];rfl)) ?_
      with_reducible refine (laws_toEx.calls k a0_0 a0_1 a0_2 _ _ l0_3 t105 t106 t107 t108 _ ?side1 ?side2 A19.out).mono ?_
      (case side1 => repeat (first | exact (Kd.C_below HR0_3.out HB.out) | (with_reducible refine Kd.C_alloc ?_ _) | (with_reducible refine Kd.C_drewN ?_ _) | (with_reducible refine Kd.C_drew ?_)))
      (case side2 => exact HC0_3.out)
      rintro e w108 ⟨v109, rfl, ho0, hb⟩
      refine ⟨_, rfl, ?_⟩
      have n0_ := Aside0.mk (Kd.R_lower ho0 (below_size (by exact HB.out)))
      have n1_ := Aside0.mk (blk_below BK101.out hb)
      have n2_ := Aside0.mk (blk_below BK102.out hb)
      have n3_ := Aside0.mk (below_step (by exact HB.out) hb)
      clear BK101
      clear BK102
      clear HB
      have HO110 := n0_
      have BK101 := n1_
      have BK102 := n2_
      have HB := n3_
      clear n0_ n1_ n2_ n3_
      (try clear hb)
      (try clear hb2)
      (try clear hk)
      (try clear hi)
      (try clear ho0)
      refine hK.out _ _ ⟨(blk_cell BK101.out 0).trans rfl, (blk_cell BK101.out 1).trans rfl, (blk_cell BK101.out 2).trans rfl, (blk_cell BK101.out 3).trans rfl, (blk_cell BK102.out 0).trans rfl, (blk_cell BK102.out 1).trans rfl, (blk_cell BK102.out 2).trans rfl, (blk_cell BK102.out 3).trans rfl⟩ (fun hHeld => ?_)
      clear hK K
      refine norm_ (a' := ?_) ?_ ?_
      rotate_left
      ·show Act.put _ (some 21) _ = _
       simp only [Act.put, List.setIfInBounds_toArray, List.set_cons_zero, List.set_cons_succ, i64_w, i32_w]
       rfl
      refine one_ (i := 3) (N := some 23) #[true, true, true, true, false, false] rfl rfl (by kernel_rfl) (by decide) (fun K hK => ?_)
      refine goes_ Try.func10 (by kernel_rfl) rfl #[.agg #[.int .i64 a1_0, .int .i64 a1_1, .int .i64 a1_2, .slice A1_3 l1_3.length c1_3]] (by rfl) rfl rfl (by (try simp only [List.map_toArray, List.map_cons, List.map_nil]);first | done | rfl | (simp only [List.length_drop, List.length_take];rfl)) ?_
      with_reducible refine (laws_toEx.calls k a1_0 a1_1 a1_2 _ _ l1_3 t111 t112 t113 t114 _ ?side1 ?side2 A20.out).mono ?_
      (case side1 => repeat (first | exact (Kd.C_below HR1_3.out HB.out) | (with_reducible refine Kd.C_alloc ?_ _) | (with_reducible refine Kd.C_drewN ?_ _) | (with_reducible refine Kd.C_drew ?_)))
      (case side2 => exact HC1_3.out)
      rintro e w109 ⟨v115, rfl, ho0, hb⟩
      refine ⟨_, rfl, ?_⟩
      have n0_ := Aside0.mk (Kd.R_elder' (by (with_reducible repeat (first | apply Kd.R_alloc | apply Kd.R_drewN | apply Kd.R_drew));exact HO110.out) (Kd.R_base ho0) hb)
      have n1_ := Aside0.mk (Kd.R_lower (Kd.R_new' ho0 (Kd.R_lt (by (with_reducible repeat (first | apply Kd.R_alloc | apply Kd.R_drewN | apply Kd.R_drew));exact HO110.out))) (below_size (by exact HB.out)))
      have n2_ := Aside0.mk (blk_below BK101.out hb)
      have n3_ := Aside0.mk (blk_below BK102.out hb)
      have n4_ := Aside0.mk (below_step (by exact HB.out) hb)
      clear HO110
      clear BK101
      clear BK102
      clear HB
      have HO110 := n0_
      have HO116 := n1_
      have BK101 := n2_
      have BK102 := n3_
      have HB := n4_
      clear n0_ n1_ n2_ n3_ n4_
      (try clear hb)
      (try clear hb2)
      (try clear hk)
      (try clear hi)
      (try clear ho0)
      obtain ⟨Ao110, co110, eo110⟩ := Kd.R_slice HO110.out
      (first | subst eo110 | (injection eo110 with f1_ f2_ f3_;have f4_ := f1_.symm;have f5_ := f3_.symm;clear f1_ f2_ f3_;subst f4_;subst f5_))
      obtain ⟨Ao111, co111, eo111⟩ := Kd.R_slice HO116.out
      (first | subst eo111 | (injection eo111 with f1_ f2_ f3_;have f4_ := f1_.symm;have f5_ := f3_.symm;clear f1_ f2_ f3_;subst f4_;subst f5_))
      refine hK.out _ _ ⟨(blk_cell BK101.out 0).trans rfl, (blk_cell BK101.out 1).trans rfl, (blk_cell BK101.out 2).trans rfl, (blk_cell BK101.out 3).trans rfl, (blk_cell BK102.out 0).trans rfl, (blk_cell BK102.out 1).trans rfl, (blk_cell BK102.out 2).trans rfl, (blk_cell BK102.out 3).trans rfl⟩ (fun hHeld => ?_)
      clear hK K
      refine norm_ (a' := ?_) ?_ ?_
      rotate_left
      ·show Act.put _ (some 23) _ = _
       simp only [Act.put, List.setIfInBounds_toArray, List.set_cons_zero, List.set_cons_succ, i64_w, i32_w]
       rfl
      refine one_ (i := 4) (N := some 24) #[true, true, true, true, true, false] rfl rfl (by kernel_rfl) (by decide) (fun K hK => ?_)
      refine goes_ Try.func9 (by kernel_rfl) rfl #[.agg #[.int .i64 t105, .int .i64 t106, .int .i64 t107, .slice Ao110 t108.length co110], .agg #[.int .i64 t111, .int .i64 t112, .int .i64 t113, .slice Ao111 t114.length co111]] (by rfl) rfl rfl (by (try simp only [List.map_toArray, List.map_cons, List.map_nil]);first | done | rfl | (simp only [List.length_drop, List.length_take];rfl)) ?_
      with_reducible refine (spec_ExSame.calls k t105 t106 t107 _ _ t108 t111 t112 t113 _ _ t114 t117 _ ?side1 ?side2 ?side3 ?side4 A21.out).mono ?_
      (case side1 => repeat (first | exact (Kd.R_reads' HO110.out).2.2 | (with_reducible refine Kd.C_alloc ?_ _) | (with_reducible refine Kd.C_drewN ?_ _) | (with_reducible refine Kd.C_drew ?_)))
      (case side2 => exact (Kd.R_reads' HO110.out).2.1)
      (case side3 => repeat (first | exact (Kd.R_reads' HO116.out).2.2 | (with_reducible refine Kd.C_alloc ?_ _) | (with_reducible refine Kd.C_drewN ?_ _) | (with_reducible refine Kd.C_drew ?_)))
      (case side4 => exact (Kd.R_reads' HO116.out).2.1)
      rintro e w112 ⟨rfl, hb⟩
      refine ⟨_, rfl, ?_⟩
      have n0_ := Aside0.mk (Kd.R_below (by (with_reducible repeat (first | apply Kd.R_alloc | apply Kd.R_drewN | apply Kd.R_drew));exact HO110.out) hb)
      have n1_ := Aside0.mk (Kd.R_below (by (with_reducible repeat (first | apply Kd.R_alloc | apply Kd.R_drewN | apply Kd.R_drew));exact HO116.out) hb)
      have n2_ := Aside0.mk (blk_below BK101.out hb)
      have n3_ := Aside0.mk (blk_below BK102.out hb)
      have n4_ := Aside0.mk (below_step (by exact HB.out) hb)
      clear HO110
      clear HO116
      clear BK101
      clear BK102
      clear HB
      have HO110 := n0_
      have HO116 := n1_
      have BK101 := n2_
      have BK102 := n3_
      have HB := n4_
      clear n0_ n1_ n2_ n3_ n4_
      (try clear hb)
      (try clear hb2)
      (try clear hk)
      (try clear hi)
      refine hK.out _ _ ⟨(blk_cell BK101.out 0).trans rfl, (blk_cell BK101.out 1).trans rfl, (blk_cell BK101.out 2).trans rfl, (blk_cell BK101.out 3).trans rfl, (blk_cell BK102.out 0).trans rfl, (blk_cell BK102.out 1).trans rfl, (blk_cell BK102.out 2).trans rfl, (blk_cell BK102.out 3).trans rfl⟩ (fun hHeld => ?_)
      clear hK K
      refine norm_ (a' := ?_) ?_ ?_
      rotate_left
      ·show Act.put _ (some 24) _ = _
       simp only [Act.put, List.setIfInBounds_toArray, List.set_cons_zero, List.set_cons_succ, i64_w, i32_w]
       rfl
      refine pure_ (i := 5) (N := some 6) (v := ?_) (a' := ?_) #[true, true, true, true, true, true] rfl rfl (by kernel_rfl) (fun _ _ _ h => h) (Or.inl ⟨by rfl, ?_⟩) ?_ ?_
      rotate_left
      ·intro w'
       go_simp
       with_reducible rfl
      rotate_left
      ·simp only [Act.put, List.setIfInBounds_toArray, List.set_cons_zero, List.set_cons_succ, i64_w, i32_w]
       rfl
      refine done_ (by kernel_rfl) ?_
      have hcz113_0 : w112.cell? ⟨gb101, 0, none⟩ = some (.int .i64 a0_0) := (blk_cell BK101.out 0).trans rfl
      have hcz113_1 : w112.cell? ⟨gb101, 1, none⟩ = some (.int .i64 a0_1) := (blk_cell BK101.out 1).trans rfl
      have hcz113_2 : w112.cell? ⟨gb101, 2, none⟩ = some (.int .i64 a0_2) := (blk_cell BK101.out 2).trans rfl
      have hcz113_3 : w112.cell? ⟨gb101, 3, none⟩ = some (.slice A0_3 l0_3.length c0_3) := (blk_cell BK101.out 3).trans rfl
      have hfz113_0 := blk_frozen BK101.out 0
      have hfz113_1 := blk_frozen BK101.out 1
      have hfz113_2 := blk_frozen BK101.out 2
      have hfz113_3 := blk_frozen BK101.out 3
      try go_wp2_with (first | ((with_reducible refine gate_callee (f := 10) rfl ?_);refine goesL_ (some 26) rfl rfl Try.func10 (by kernel_rfl) rfl #[.agg #[.int .i64 a0_0, .int .i64 a0_1, .int .i64 a0_2, .slice A0_3 l0_3.length c0_3]] rfl (by (try simp only [List.map_toArray, List.map_cons, List.map_nil]);first | done | rfl | (simp only [List.length_drop, List.length_take];rfl)) ?_;(with_reducible refine (laws_toEx.calls k a0_0 a0_1 a0_2 _ _ l0_3 t118 t119 t120 t121 _ ?side1 ?side2 A22.out).mono ?_);(case side1 => repeat (first | exact (Kd.C_below HR0_3.out HB.out) | (with_reducible refine Kd.C_alloc ?_ _) | (with_reducible refine Kd.C_drewN ?_ _) | (with_reducible refine Kd.C_drew ?_)));(case side2 => exact HC0_3.out);rintro e w114 ⟨v122, rfl, ho0, hb⟩;refine ⟨_, rfl, ?_⟩;have n0_ := Aside0.mk (Kd.R_elder' (by (with_reducible repeat (first | apply Kd.R_alloc | apply Kd.R_drewN | apply Kd.R_drew));exact HO110.out) (Kd.R_base ho0) hb);have n1_ := Aside0.mk (Kd.R_elder' (by (with_reducible repeat (first | apply Kd.R_alloc | apply Kd.R_drewN | apply Kd.R_drew));exact HO116.out) (Kd.R_base ho0) hb);have n2_ := Aside0.mk (Kd.R_lower (Kd.R_new' (Kd.R_new' ho0 (Kd.R_lt (by (with_reducible repeat (first | apply Kd.R_alloc | apply Kd.R_drewN | apply Kd.R_drew));exact HO110.out))) (Kd.R_lt (by (with_reducible repeat (first | apply Kd.R_alloc | apply Kd.R_drewN | apply Kd.R_drew));exact HO116.out))) (below_size (by repeat (first | (with_reducible first | exact HB.out | apply below_alloc | apply pw_below_drewN | apply below_drew1 | refine below_set ?_ GE101.out | refine below_set ?_ GE102.out) | exact HB.out))));have n3_ := Aside0.mk (blk_below BK101.out hb);have n4_ := Aside0.mk (blk_below BK102.out hb);have n5_ := Aside0.mk (below_step (by repeat (first | (with_reducible first | exact HB.out | apply below_alloc | apply pw_below_drewN | apply below_drew1 | refine below_set ?_ GE101.out | refine below_set ?_ GE102.out) | exact HB.out)) hb);clear HO110;clear HO116;clear BK101;clear BK102;clear HB;have HO110 := n0_;have HO116 := n1_;have HO123 := n2_;have BK101 := n3_;have BK102 := n4_;have HB := n5_;clear n0_ n1_ n2_ n3_ n4_ n5_;(try clear hb);(try clear hb2);(try clear hk);(try clear hi);(try clear ho0)) | ((with_reducible refine gate_dst (N := 7) rfl ?_);refine box_event ?hg (N := 7) ?hd (cs := #[.int .i64 0, .int .i64 0, .int .i64 0, .slice none 0 0]) (t := 29) ?hr ?_;(case hd => rfl);(case hg => rfl);(case hr => first | (go_simp;done) | (go_simp;rfl));intro gb124 hg w115 hbox hb;have n0_ := Aside0.mk (Kd.R_below (Kd.R_elderB (by (with_reducible repeat (first | apply Kd.R_alloc | apply Kd.R_drewN | apply Kd.R_drew));exact HO110.out) gb124 (Nat.le_of_eq hg.symm)) hb);have n1_ := Aside0.mk (Kd.R_below (Kd.R_elderB (by (with_reducible repeat (first | apply Kd.R_alloc | apply Kd.R_drewN | apply Kd.R_drew));exact HO116.out) gb124 (Nat.le_of_eq hg.symm)) hb);have n2_ := Aside0.mk (Kd.R_below (Kd.R_elderB (by (with_reducible repeat (first | apply Kd.R_alloc | apply Kd.R_drewN | apply Kd.R_drew));exact HO123.out) gb124 (Nat.le_of_eq hg.symm)) hb);have n3_ := Aside0.mk (blk_below BK101.out hb);have n4_ := Aside0.mk (blk_below BK102.out hb);have n5_ := Aside0.mk (below_step (by repeat (first | (with_reducible first | exact HB.out | apply below_alloc | apply pw_below_drewN | apply below_drew1 | refine below_set ?_ GE101.out | refine below_set ?_ GE102.out) | exact HB.out)) hb);have n6_ := Aside0.mk (hbox);have n7_ := Aside0.mk ((by rw [hg];exact (below_size (by repeat (first | (with_reducible first | exact HB.out | apply below_alloc | apply pw_below_drewN | apply below_drew1 | refine below_set ?_ GE101.out | refine below_set ?_ GE102.out) | exact HB.out))) : w.heap.size ≤ gb124));have n8_ := Aside0.mk ((by rw [hg];exact (below_size (by repeat (first | (with_reducible first | exact HB.out | apply below_alloc | apply pw_below_drewN | apply below_drew1 | refine below_set ?_ GE101.out | refine below_set ?_ GE102.out) | exact HB.out))) : w.heap.size ≤ gb124));have n9_ := Aside0.mk ((by rw [hg];exact Nat.ne_of_lt (blk_lt BK101.out) : gb101 ≠ gb124));have n10_ := Aside0.mk ((by rw [hg];exact Nat.ne_of_gt (blk_lt BK101.out) : gb124 ≠ gb101));have n11_ := Aside0.mk ((by rw [hg];exact Nat.ne_of_lt (blk_lt BK102.out) : gb102 ≠ gb124));have n12_ := Aside0.mk ((by rw [hg];exact Nat.ne_of_gt (blk_lt BK102.out) : gb124 ≠ gb102));clear HO110;clear HO116;clear HO123;clear BK101;clear BK102;clear HB;have HO110 := n0_;have HO116 := n1_;have HO123 := n2_;have BK101 := n3_;have BK102 := n4_;have HB := n5_;have BK124 := n6_;have GW124 := n7_;have GE124 := n8_;have NB101_124 := n9_;have NB124_101 := n10_;have NB102_124 := n11_;have NB124_102 := n12_;clear n0_ n1_ n2_ n3_ n4_ n5_ n6_ n7_ n8_ n9_ n10_ n11_ n12_;clear hb hbox hg;have hnb116 := NB124_101.out;have hnc116 := NB101_124.out;have hnb117 := NB124_102.out;have hnc117 := NB102_124.out;have hcz118_0 : w115.cell? ⟨gb124, 0, none⟩ = some (.int .i64 0) := (blk_cell BK124.out 0).trans rfl;have hcz118_1 : w115.cell? ⟨gb124, 1, none⟩ = some (.int .i64 0) := (blk_cell BK124.out 1).trans rfl;have hcz118_2 : w115.cell? ⟨gb124, 2, none⟩ = some (.int .i64 0) := (blk_cell BK124.out 2).trans rfl;have hcz118_3 : w115.cell? ⟨gb124, 3, none⟩ = some (.slice none 0 0) := (blk_cell BK124.out 3).trans rfl;have hfz118_0 := blk_frozen BK124.out 0;have hfz118_1 := blk_frozen BK124.out 1;have hfz118_2 := blk_frozen BK124.out 2;have hfz118_3 := blk_frozen BK124.out 3;obtain ⟨Ao119, co119, eo119⟩ := Kd.R_slice HO123.out;subst eo119;have hcz120_0 : w115.cell? ⟨gb102, 0, none⟩ = some (.int .i64 a1_0) := (blk_cell BK102.out 0).trans rfl;have hcz120_1 : w115.cell? ⟨gb102, 1, none⟩ = some (.int .i64 a1_1) := (blk_cell BK102.out 1).trans rfl;have hcz120_2 : w115.cell? ⟨gb102, 2, none⟩ = some (.int .i64 a1_2) := (blk_cell BK102.out 2).trans rfl;have hcz120_3 : w115.cell? ⟨gb102, 3, none⟩ = some (.slice A1_3 l1_3.length c1_3) := (blk_cell BK102.out 3).trans rfl;have hfz120_0 := blk_frozen BK102.out 0;have hfz120_1 := blk_frozen BK102.out 1;have hfz120_2 := blk_frozen BK102.out 2;have hfz120_3 := blk_frozen BK102.out 3) | ((with_reducible refine gate_callee (f := 10) rfl ?_);refine goesL_ (some 28) rfl rfl Try.func10 (by kernel_rfl) rfl #[.agg #[.int .i64 a1_0, .int .i64 a1_1, .int .i64 a1_2, .slice A1_3 l1_3.length c1_3]] rfl (by (try simp only [List.map_toArray, List.map_cons, List.map_nil]);first | done | rfl | (simp only [List.length_drop, List.length_take];rfl)) ?_;(with_reducible refine (laws_toEx.calls k a1_0 a1_1 a1_2 _ _ l1_3 t125 t126 t127 t128 _ ?side1 ?side2 A23.out).mono ?_);(case side1 => exact Kd.C_below HR1_3.out (by repeat (first | (with_reducible first | exact HB.out | apply below_alloc | apply pw_below_drewN | apply below_drew1 | refine below_set ?_ GE101.out | refine below_set ?_ GE102.out | refine below_set ?_ GE124.out) | exact HB.out)));(case side2 => exact HC1_3.out);rintro e w121 ⟨v129, rfl, ho0, hb⟩;refine ⟨_, rfl, ?_⟩;have n0_ := Aside0.mk (Kd.R_elder' (by (with_reducible repeat (first | apply Kd.R_alloc | apply Kd.R_drewN | apply Kd.R_drew));exact (Kd.R_mono (Kd.R_far (p := ⟨gb124, 3, none⟩) (Kd.R_far (p := ⟨gb124, 2, none⟩) (Kd.R_far (p := ⟨gb124, 1, none⟩) (Kd.R_far (p := ⟨gb124, 0, none⟩) (Kd.R_mono HO110.out (fun k_ hk => (⟨hk, hk.2⟩ : _ ∧ k_ ≠ gb124))) (fun _ hk => hk.2) (.int .i64 t118)) (fun _ hk => hk.2) (.int .i64 t119)) (fun _ hk => hk.2) (.int .i64 t120)) (fun _ hk => hk.2) (.slice Ao119 t121.length co119)) (fun _ h_ => h_.1))) (Kd.R_base ho0) hb);have n1_ := Aside0.mk (Kd.R_elder' (by (with_reducible repeat (first | apply Kd.R_alloc | apply Kd.R_drewN | apply Kd.R_drew));exact (Kd.R_mono (Kd.R_far (p := ⟨gb124, 3, none⟩) (Kd.R_far (p := ⟨gb124, 2, none⟩) (Kd.R_far (p := ⟨gb124, 1, none⟩) (Kd.R_far (p := ⟨gb124, 0, none⟩) (Kd.R_mono HO116.out (fun k_ hk => (⟨hk, hk.2⟩ : _ ∧ k_ ≠ gb124))) (fun _ hk => hk.2) (.int .i64 t118)) (fun _ hk => hk.2) (.int .i64 t119)) (fun _ hk => hk.2) (.int .i64 t120)) (fun _ hk => hk.2) (.slice Ao119 t121.length co119)) (fun _ h_ => h_.1))) (Kd.R_base ho0) hb);have n2_ := Aside0.mk (Kd.R_elder' (by (with_reducible repeat (first | apply Kd.R_alloc | apply Kd.R_drewN | apply Kd.R_drew));exact (Kd.R_mono (Kd.R_far (p := ⟨gb124, 3, none⟩) (Kd.R_far (p := ⟨gb124, 2, none⟩) (Kd.R_far (p := ⟨gb124, 1, none⟩) (Kd.R_far (p := ⟨gb124, 0, none⟩) (Kd.R_mono HO123.out (fun k_ hk => (⟨hk, hk.2⟩ : _ ∧ k_ ≠ gb124))) (fun _ hk => hk.2) (.int .i64 t118)) (fun _ hk => hk.2) (.int .i64 t119)) (fun _ hk => hk.2) (.int .i64 t120)) (fun _ hk => hk.2) (.slice Ao119 t121.length co119)) (fun _ h_ => h_.1))) (Kd.R_base ho0) hb);have n3_ := Aside0.mk (Kd.R_lower (Kd.R_newB (Kd.R_new' (Kd.R_new' (Kd.R_new' ho0 (Kd.R_lt (by (with_reducible repeat (first | apply Kd.R_alloc | apply Kd.R_drewN | apply Kd.R_drew));exact (Kd.R_mono (Kd.R_far (p := ⟨gb124, 3, none⟩) (Kd.R_far (p := ⟨gb124, 2, none⟩) (Kd.R_far (p := ⟨gb124, 1, none⟩) (Kd.R_far (p := ⟨gb124, 0, none⟩) (Kd.R_mono HO110.out (fun k_ hk => (⟨hk, hk.2⟩ : _ ∧ k_ ≠ gb124))) (fun _ hk => hk.2) (.int .i64 t118)) (fun _ hk => hk.2) (.int .i64 t119)) (fun _ hk => hk.2) (.int .i64 t120)) (fun _ hk => hk.2) (.slice Ao119 t121.length co119)) (fun _ h_ => h_.1))))) (Kd.R_lt (by (with_reducible repeat (first | apply Kd.R_alloc | apply Kd.R_drewN | apply Kd.R_drew));exact (Kd.R_mono (Kd.R_far (p := ⟨gb124, 3, none⟩) (Kd.R_far (p := ⟨gb124, 2, none⟩) (Kd.R_far (p := ⟨gb124, 1, none⟩) (Kd.R_far (p := ⟨gb124, 0, none⟩) (Kd.R_mono HO116.out (fun k_ hk => (⟨hk, hk.2⟩ : _ ∧ k_ ≠ gb124))) (fun _ hk => hk.2) (.int .i64 t118)) (fun _ hk => hk.2) (.int .i64 t119)) (fun _ hk => hk.2) (.int .i64 t120)) (fun _ hk => hk.2) (.slice Ao119 t121.length co119)) (fun _ h_ => h_.1))))) (Kd.R_lt (by (with_reducible repeat (first | apply Kd.R_alloc | apply Kd.R_drewN | apply Kd.R_drew));exact (Kd.R_mono (Kd.R_far (p := ⟨gb124, 3, none⟩) (Kd.R_far (p := ⟨gb124, 2, none⟩) (Kd.R_far (p := ⟨gb124, 1, none⟩) (Kd.R_far (p := ⟨gb124, 0, none⟩) (Kd.R_mono HO123.out (fun k_ hk => (⟨hk, hk.2⟩ : _ ∧ k_ ≠ gb124))) (fun _ hk => hk.2) (.int .i64 t118)) (fun _ hk => hk.2) (.int .i64 t119)) (fun _ hk => hk.2) (.int .i64 t120)) (fun _ hk => hk.2) (.slice Ao119 t121.length co119)) (fun _ h_ => h_.1))))) (g := gb124) (o := .cells #[.int .i64 t118, .int .i64 t119, .int .i64 t120, .slice Ao119 t121.length co119] 29 (0, 0)) (by (with_reducible repeat (first | refine blk_drewN ?_ _ | refine blk_drew ?_ | refine blk_alloc ?_ _));refine blk_put (cs := #[.int .i64 t118, .int .i64 t119, .int .i64 t120, .slice none 0 0]) ?_ 3 _ rfl;(with_reducible repeat (first | refine blk_drewN ?_ _ | refine blk_drew ?_ | refine blk_alloc ?_ _));refine blk_put (cs := #[.int .i64 t118, .int .i64 t119, .int .i64 0, .slice none 0 0]) ?_ 2 _ rfl;(with_reducible repeat (first | refine blk_drewN ?_ _ | refine blk_drew ?_ | refine blk_alloc ?_ _));refine blk_put (cs := #[.int .i64 t118, .int .i64 0, .int .i64 0, .slice none 0 0]) ?_ 1 _ rfl;(with_reducible repeat (first | refine blk_drewN ?_ _ | refine blk_drew ?_ | refine blk_alloc ?_ _));refine blk_put (cs := #[.int .i64 0, .int .i64 0, .int .i64 0, .slice none 0 0]) ?_ 0 _ rfl;(with_reducible repeat (first | refine blk_drewN ?_ _ | refine blk_drew ?_ | refine blk_alloc ?_ _));exact BK124.out)) (below_size (by repeat (first | (with_reducible first | exact HB.out | apply below_alloc | apply pw_below_drewN | apply below_drew1 | refine below_set ?_ GE101.out | refine below_set ?_ GE102.out | refine below_set ?_ GE124.out) | exact HB.out))));have n4_ := Aside0.mk (blk_below (g := gb101) (o := .cells #[.int .i64 a0_0, .int .i64 a0_1, .int .i64 a0_2, .slice A0_3 l0_3.length c0_3] 24 (0, 0)) (by (with_reducible repeat (first | refine blk_drewN ?_ _ | refine blk_drew ?_ | refine blk_alloc ?_ _));refine blk_far ?_ NB101_124.out _;(with_reducible repeat (first | refine blk_drewN ?_ _ | refine blk_drew ?_ | refine blk_alloc ?_ _));refine blk_far ?_ NB101_124.out _;(with_reducible repeat (first | refine blk_drewN ?_ _ | refine blk_drew ?_ | refine blk_alloc ?_ _));refine blk_far ?_ NB101_124.out _;(with_reducible repeat (first | refine blk_drewN ?_ _ | refine blk_drew ?_ | refine blk_alloc ?_ _));refine blk_far ?_ NB101_124.out _;(with_reducible repeat (first | refine blk_drewN ?_ _ | refine blk_drew ?_ | refine blk_alloc ?_ _));exact BK101.out) hb);have n5_ := Aside0.mk (blk_below (g := gb102) (o := .cells #[.int .i64 a1_0, .int .i64 a1_1, .int .i64 a1_2, .slice A1_3 l1_3.length c1_3] 24 (0, 0)) (by (with_reducible repeat (first | refine blk_drewN ?_ _ | refine blk_drew ?_ | refine blk_alloc ?_ _));refine blk_far ?_ NB102_124.out _;(with_reducible repeat (first | refine blk_drewN ?_ _ | refine blk_drew ?_ | refine blk_alloc ?_ _));refine blk_far ?_ NB102_124.out _;(with_reducible repeat (first | refine blk_drewN ?_ _ | refine blk_drew ?_ | refine blk_alloc ?_ _));refine blk_far ?_ NB102_124.out _;(with_reducible repeat (first | refine blk_drewN ?_ _ | refine blk_drew ?_ | refine blk_alloc ?_ _));refine blk_far ?_ NB102_124.out _;(with_reducible repeat (first | refine blk_drewN ?_ _ | refine blk_drew ?_ | refine blk_alloc ?_ _));exact BK102.out) hb);have n6_ := Aside0.mk (blk_below (g := gb124) (o := .cells #[.int .i64 t118, .int .i64 t119, .int .i64 t120, .slice Ao119 t121.length co119] 29 (0, 0)) (by (with_reducible repeat (first | refine blk_drewN ?_ _ | refine blk_drew ?_ | refine blk_alloc ?_ _));refine blk_put (cs := #[.int .i64 t118, .int .i64 t119, .int .i64 t120, .slice none 0 0]) ?_ 3 _ rfl;(with_reducible repeat (first | refine blk_drewN ?_ _ | refine blk_drew ?_ | refine blk_alloc ?_ _));refine blk_put (cs := #[.int .i64 t118, .int .i64 t119, .int .i64 0, .slice none 0 0]) ?_ 2 _ rfl;(with_reducible repeat (first | refine blk_drewN ?_ _ | refine blk_drew ?_ | refine blk_alloc ?_ _));refine blk_put (cs := #[.int .i64 t118, .int .i64 0, .int .i64 0, .slice none 0 0]) ?_ 1 _ rfl;(with_reducible repeat (first | refine blk_drewN ?_ _ | refine blk_drew ?_ | refine blk_alloc ?_ _));refine blk_put (cs := #[.int .i64 0, .int .i64 0, .int .i64 0, .slice none 0 0]) ?_ 0 _ rfl;(with_reducible repeat (first | refine blk_drewN ?_ _ | refine blk_drew ?_ | refine blk_alloc ?_ _));exact BK124.out) hb);have n7_ := Aside0.mk (below_step (by repeat (first | (with_reducible first | exact HB.out | apply below_alloc | apply pw_below_drewN | apply below_drew1 | refine below_set ?_ GE101.out | refine below_set ?_ GE102.out | refine below_set ?_ GE124.out) | exact HB.out)) hb);clear HO110;clear HO116;clear HO123;clear BK101;clear BK102;clear BK124;clear HB;have HO110 := n0_;have HO116 := n1_;have HO123 := n2_;have HO130 := n3_;have BK101 := n4_;have BK102 := n5_;have BK124 := n6_;have HB := n7_;clear n0_ n1_ n2_ n3_ n4_ n5_ n6_ n7_;(try clear hb);(try clear hb2);(try clear hk);(try clear hi);(try clear ho0)) | ((with_reducible refine gate_dst (N := 8) rfl ?_);refine box_event ?hg (N := 8) ?hd (cs := #[.int .i64 0, .int .i64 0, .int .i64 0, .slice none 0 0]) (t := 29) ?hr ?_;(case hd => rfl);(case hg => rfl);(case hr => first | (go_simp;done) | (go_simp;rfl));intro gb131 hg w122 hbox hb;have n0_ := Aside0.mk (Kd.R_below (Kd.R_elderB (by (with_reducible repeat (first | apply Kd.R_alloc | apply Kd.R_drewN | apply Kd.R_drew));exact HO110.out) gb131 (Nat.le_of_eq hg.symm)) hb);have n1_ := Aside0.mk (Kd.R_below (Kd.R_elderB (by (with_reducible repeat (first | apply Kd.R_alloc | apply Kd.R_drewN | apply Kd.R_drew));exact HO116.out) gb131 (Nat.le_of_eq hg.symm)) hb);have n2_ := Aside0.mk (Kd.R_below (Kd.R_elderB (by (with_reducible repeat (first | apply Kd.R_alloc | apply Kd.R_drewN | apply Kd.R_drew));exact HO123.out) gb131 (Nat.le_of_eq hg.symm)) hb);have n3_ := Aside0.mk (Kd.R_below (Kd.R_elderB (by (with_reducible repeat (first | apply Kd.R_alloc | apply Kd.R_drewN | apply Kd.R_drew));exact HO130.out) gb131 (Nat.le_of_eq hg.symm)) hb);have n4_ := Aside0.mk (blk_below BK101.out hb);have n5_ := Aside0.mk (blk_below BK102.out hb);have n6_ := Aside0.mk (blk_below BK124.out hb);have n7_ := Aside0.mk (below_step (by repeat (first | (with_reducible first | exact HB.out | apply below_alloc | apply pw_below_drewN | apply below_drew1 | refine below_set ?_ GE101.out | refine below_set ?_ GE102.out | refine below_set ?_ GE124.out) | exact HB.out)) hb);have n8_ := Aside0.mk (hbox);have n9_ := Aside0.mk ((by rw [hg];exact (below_size (by repeat (first | (with_reducible first | exact HB.out | apply below_alloc | apply pw_below_drewN | apply below_drew1 | refine below_set ?_ GE101.out | refine below_set ?_ GE102.out | refine below_set ?_ GE124.out) | exact HB.out))) : w.heap.size ≤ gb131));have n10_ := Aside0.mk ((by rw [hg];exact (below_size (by repeat (first | (with_reducible first | exact HB.out | apply below_alloc | apply pw_below_drewN | apply below_drew1 | refine below_set ?_ GE101.out | refine below_set ?_ GE102.out | refine below_set ?_ GE124.out) | exact HB.out))) : w.heap.size ≤ gb131));have n11_ := Aside0.mk ((by rw [hg];exact Nat.ne_of_lt (blk_lt BK101.out) : gb101 ≠ gb131));have n12_ := Aside0.mk ((by rw [hg];exact Nat.ne_of_gt (blk_lt BK101.out) : gb131 ≠ gb101));have n13_ := Aside0.mk ((by rw [hg];exact Nat.ne_of_lt (blk_lt BK102.out) : gb102 ≠ gb131));have n14_ := Aside0.mk ((by rw [hg];exact Nat.ne_of_gt (blk_lt BK102.out) : gb131 ≠ gb102));have n15_ := Aside0.mk ((by rw [hg];exact Nat.ne_of_lt (blk_lt BK124.out) : gb124 ≠ gb131));have n16_ := Aside0.mk ((by rw [hg];exact Nat.ne_of_gt (blk_lt BK124.out) : gb131 ≠ gb124));clear HO110;clear HO116;clear HO123;clear HO130;clear BK101;clear BK102;clear BK124;clear HB;have HO110 := n0_;have HO116 := n1_;have HO123 := n2_;have HO130 := n3_;have BK101 := n4_;have BK102 := n5_;have BK124 := n6_;have HB := n7_;have BK131 := n8_;have GW131 := n9_;have GE131 := n10_;have NB101_131 := n11_;have NB131_101 := n12_;have NB102_131 := n13_;have NB131_102 := n14_;have NB124_131 := n15_;have NB131_124 := n16_;clear n0_ n1_ n2_ n3_ n4_ n5_ n6_ n7_ n8_ n9_ n10_ n11_ n12_ n13_ n14_ n15_ n16_;clear hb hbox hg;have hnb123 := NB131_101.out;have hnc123 := NB101_131.out;have hnb124 := NB131_102.out;have hnc124 := NB102_131.out;have hnb125 := NB131_124.out;have hnc125 := NB124_131.out;have hcz126_0 : w122.cell? ⟨gb131, 0, none⟩ = some (.int .i64 0) := (blk_cell BK131.out 0).trans rfl;have hcz126_1 : w122.cell? ⟨gb131, 1, none⟩ = some (.int .i64 0) := (blk_cell BK131.out 1).trans rfl;have hcz126_2 : w122.cell? ⟨gb131, 2, none⟩ = some (.int .i64 0) := (blk_cell BK131.out 2).trans rfl;have hcz126_3 : w122.cell? ⟨gb131, 3, none⟩ = some (.slice none 0 0) := (blk_cell BK131.out 3).trans rfl;have hfz126_0 := blk_frozen BK131.out 0;have hfz126_1 := blk_frozen BK131.out 1;have hfz126_2 := blk_frozen BK131.out 2;have hfz126_3 := blk_frozen BK131.out 3;obtain ⟨Ao127, co127, eo127⟩ := Kd.R_slice HO130.out;subst eo127;have hcz128_0 : w122.cell? ⟨gb124, 0, none⟩ = some (.int .i64 t118) := (blk_cell BK124.out 0).trans rfl;have hcz128_1 : w122.cell? ⟨gb124, 1, none⟩ = some (.int .i64 t119) := (blk_cell BK124.out 1).trans rfl;have hcz128_2 : w122.cell? ⟨gb124, 2, none⟩ = some (.int .i64 t120) := (blk_cell BK124.out 2).trans rfl;have hcz128_3 : w122.cell? ⟨gb124, 3, none⟩ = some (.slice Ao119 t121.length co119) := (blk_cell BK124.out 3).trans rfl;have hfz128_0 := blk_frozen BK124.out 0;have hfz128_1 := blk_frozen BK124.out 1;have hfz128_2 := blk_frozen BK124.out 2;have hfz128_3 := blk_frozen BK124.out 3) | ((with_reducible refine gate_callee (f := 11) rfl ?_);refine goesL_ (some 31) rfl rfl Try.func11 (by kernel_rfl) rfl #[.agg #[.int .i64 t118, .int .i64 t119, .int .i64 t120, .slice Ao119 t121.length co119], .agg #[.int .i64 t125, .int .i64 t126, .int .i64 t127, .slice Ao127 t128.length co127]] rfl (by (try simp only [List.map_toArray, List.map_cons, List.map_nil]);first | done | rfl | (simp only [List.length_drop, List.length_take];rfl)) ?_;(with_reducible refine (impl_ExSame.calls k t118 t119 t120 _ _ t121 t125 t126 t127 _ _ t128 t132 _ ?side1 ?side2 ?side3 ?side4 A24.out).mono ?_);(case side1 => refine (Kd.R_reads' (e := 29) (base := w.heap.size) (ok := fun k_ => (((((True ∧ some k_ ≠ (.slice Ao110 t108.length co110 : Value).ownBlock) ∧ some k_ ≠ (.slice Ao111 t114.length co111 : Value).ownBlock) ∧ k_ ≠ gb124) ∧ some k_ ≠ (.slice Ao127 t128.length co127 : Value).ownBlock) ∧ k_ ≠ gb131)) (n := t121.length) (c := co119) ?_).2.2;exact (by (with_reducible repeat (first | apply Kd.R_alloc | apply Kd.R_drewN | apply Kd.R_drew));exact (Kd.R_mono (Kd.R_far (p := ⟨gb131, 3, none⟩) (Kd.R_far (p := ⟨gb131, 2, none⟩) (Kd.R_far (p := ⟨gb131, 1, none⟩) (Kd.R_far (p := ⟨gb131, 0, none⟩) (Kd.R_mono HO123.out (fun k_ hk => (⟨hk, hk.2⟩ : _ ∧ k_ ≠ gb131))) (fun _ hk => hk.2) (.int .i64 t125)) (fun _ hk => hk.2) (.int .i64 t126)) (fun _ hk => hk.2) (.int .i64 t127)) (fun _ hk => hk.2) (.slice Ao127 t128.length co127)) (fun _ h_ => h_.1))));(case side2 => exact (Kd.R_reads' HO123.out).2.1);(case side3 => refine (Kd.R_reads' (e := 29) (base := w.heap.size) (ok := fun k_ => (((((True ∧ some k_ ≠ (.slice Ao110 t108.length co110 : Value).ownBlock) ∧ some k_ ≠ (.slice Ao111 t114.length co111 : Value).ownBlock) ∧ some k_ ≠ (.slice Ao119 t121.length co119 : Value).ownBlock) ∧ k_ ≠ gb124) ∧ k_ ≠ gb131)) (n := t128.length) (c := co127) ?_).2.2;exact (by (with_reducible repeat (first | apply Kd.R_alloc | apply Kd.R_drewN | apply Kd.R_drew));exact (Kd.R_mono (Kd.R_far (p := ⟨gb131, 3, none⟩) (Kd.R_far (p := ⟨gb131, 2, none⟩) (Kd.R_far (p := ⟨gb131, 1, none⟩) (Kd.R_far (p := ⟨gb131, 0, none⟩) (Kd.R_mono HO130.out (fun k_ hk => (⟨hk, hk.2⟩ : _ ∧ k_ ≠ gb131))) (fun _ hk => hk.2) (.int .i64 t125)) (fun _ hk => hk.2) (.int .i64 t126)) (fun _ hk => hk.2) (.int .i64 t127)) (fun _ hk => hk.2) (.slice Ao127 t128.length co127)) (fun _ h_ => h_.1))));(case side4 => exact (Kd.R_reads' HO130.out).2.1);rintro e w129 ⟨rfl, hb⟩;refine ⟨_, rfl, ?_⟩;have n0_ := Aside0.mk (Kd.R_below (by (with_reducible repeat (first | apply Kd.R_alloc | apply Kd.R_drewN | apply Kd.R_drew));exact (Kd.R_mono (Kd.R_far (p := ⟨gb131, 3, none⟩) (Kd.R_far (p := ⟨gb131, 2, none⟩) (Kd.R_far (p := ⟨gb131, 1, none⟩) (Kd.R_far (p := ⟨gb131, 0, none⟩) (Kd.R_mono HO110.out (fun k_ hk => (⟨hk, hk.2⟩ : _ ∧ k_ ≠ gb131))) (fun _ hk => hk.2) (.int .i64 t125)) (fun _ hk => hk.2) (.int .i64 t126)) (fun _ hk => hk.2) (.int .i64 t127)) (fun _ hk => hk.2) (.slice Ao127 t128.length co127)) (fun _ h_ => h_.1))) hb);have n1_ := Aside0.mk (Kd.R_below (by (with_reducible repeat (first | apply Kd.R_alloc | apply Kd.R_drewN | apply Kd.R_drew));exact (Kd.R_mono (Kd.R_far (p := ⟨gb131, 3, none⟩) (Kd.R_far (p := ⟨gb131, 2, none⟩) (Kd.R_far (p := ⟨gb131, 1, none⟩) (Kd.R_far (p := ⟨gb131, 0, none⟩) (Kd.R_mono HO116.out (fun k_ hk => (⟨hk, hk.2⟩ : _ ∧ k_ ≠ gb131))) (fun _ hk => hk.2) (.int .i64 t125)) (fun _ hk => hk.2) (.int .i64 t126)) (fun _ hk => hk.2) (.int .i64 t127)) (fun _ hk => hk.2) (.slice Ao127 t128.length co127)) (fun _ h_ => h_.1))) hb);have n2_ := Aside0.mk (Kd.R_below (by (with_reducible repeat (first | apply Kd.R_alloc | apply Kd.R_drewN | apply Kd.R_drew));exact (Kd.R_mono (Kd.R_far (p := ⟨gb131, 3, none⟩) (Kd.R_far (p := ⟨gb131, 2, none⟩) (Kd.R_far (p := ⟨gb131, 1, none⟩) (Kd.R_far (p := ⟨gb131, 0, none⟩) (Kd.R_mono HO123.out (fun k_ hk => (⟨hk, hk.2⟩ : _ ∧ k_ ≠ gb131))) (fun _ hk => hk.2) (.int .i64 t125)) (fun _ hk => hk.2) (.int .i64 t126)) (fun _ hk => hk.2) (.int .i64 t127)) (fun _ hk => hk.2) (.slice Ao127 t128.length co127)) (fun _ h_ => h_.1))) hb);have n3_ := Aside0.mk (Kd.R_below (by (with_reducible repeat (first | apply Kd.R_alloc | apply Kd.R_drewN | apply Kd.R_drew));exact (Kd.R_mono (Kd.R_far (p := ⟨gb131, 3, none⟩) (Kd.R_far (p := ⟨gb131, 2, none⟩) (Kd.R_far (p := ⟨gb131, 1, none⟩) (Kd.R_far (p := ⟨gb131, 0, none⟩) (Kd.R_mono HO130.out (fun k_ hk => (⟨hk, hk.2⟩ : _ ∧ k_ ≠ gb131))) (fun _ hk => hk.2) (.int .i64 t125)) (fun _ hk => hk.2) (.int .i64 t126)) (fun _ hk => hk.2) (.int .i64 t127)) (fun _ hk => hk.2) (.slice Ao127 t128.length co127)) (fun _ h_ => h_.1))) hb);have n4_ := Aside0.mk (blk_below (g := gb101) (o := .cells #[.int .i64 a0_0, .int .i64 a0_1, .int .i64 a0_2, .slice A0_3 l0_3.length c0_3] 24 (0, 0)) (by (with_reducible repeat (first | refine blk_drewN ?_ _ | refine blk_drew ?_ | refine blk_alloc ?_ _));refine blk_far ?_ NB101_131.out _;(with_reducible repeat (first | refine blk_drewN ?_ _ | refine blk_drew ?_ | refine blk_alloc ?_ _));refine blk_far ?_ NB101_131.out _;(with_reducible repeat (first | refine blk_drewN ?_ _ | refine blk_drew ?_ | refine blk_alloc ?_ _));refine blk_far ?_ NB101_131.out _;(with_reducible repeat (first | refine blk_drewN ?_ _ | refine blk_drew ?_ | refine blk_alloc ?_ _));refine blk_far ?_ NB101_131.out _;(with_reducible repeat (first | refine blk_drewN ?_ _ | refine blk_drew ?_ | refine blk_alloc ?_ _));exact BK101.out) hb);have n5_ := Aside0.mk (blk_below (g := gb102) (o := .cells #[.int .i64 a1_0, .int .i64 a1_1, .int .i64 a1_2, .slice A1_3 l1_3.length c1_3] 24 (0, 0)) (by (with_reducible repeat (first | refine blk_drewN ?_ _ | refine blk_drew ?_ | refine blk_alloc ?_ _));refine blk_far ?_ NB102_131.out _;(with_reducible repeat (first | refine blk_drewN ?_ _ | refine blk_drew ?_ | refine blk_alloc ?_ _));refine blk_far ?_ NB102_131.out _;(with_reducible repeat (first | refine blk_drewN ?_ _ | refine blk_drew ?_ | refine blk_alloc ?_ _));refine blk_far ?_ NB102_131.out _;(with_reducible repeat (first | refine blk_drewN ?_ _ | refine blk_drew ?_ | refine blk_alloc ?_ _));refine blk_far ?_ NB102_131.out _;(with_reducible repeat (first | refine blk_drewN ?_ _ | refine blk_drew ?_ | refine blk_alloc ?_ _));exact BK102.out) hb);have n6_ := Aside0.mk (blk_below (g := gb124) (o := .cells #[.int .i64 t118, .int .i64 t119, .int .i64 t120, .slice Ao119 t121.length co119] 29 (0, 0)) (by (with_reducible repeat (first | refine blk_drewN ?_ _ | refine blk_drew ?_ | refine blk_alloc ?_ _));refine blk_far ?_ NB124_131.out _;(with_reducible repeat (first | refine blk_drewN ?_ _ | refine blk_drew ?_ | refine blk_alloc ?_ _));refine blk_far ?_ NB124_131.out _;(with_reducible repeat (first | refine blk_drewN ?_ _ | refine blk_drew ?_ | refine blk_alloc ?_ _));refine blk_far ?_ NB124_131.out _;(with_reducible repeat (first | refine blk_drewN ?_ _ | refine blk_drew ?_ | refine blk_alloc ?_ _));refine blk_far ?_ NB124_131.out _;(with_reducible repeat (first | refine blk_drewN ?_ _ | refine blk_drew ?_ | refine blk_alloc ?_ _));exact BK124.out) hb);have n7_ := Aside0.mk (blk_below (g := gb131) (o := .cells #[.int .i64 t125, .int .i64 t126, .int .i64 t127, .slice Ao127 t128.length co127] 29 (0, 0)) (by (with_reducible repeat (first | refine blk_drewN ?_ _ | refine blk_drew ?_ | refine blk_alloc ?_ _));refine blk_put (cs := #[.int .i64 t125, .int .i64 t126, .int .i64 t127, .slice none 0 0]) ?_ 3 _ rfl;(with_reducible repeat (first | refine blk_drewN ?_ _ | refine blk_drew ?_ | refine blk_alloc ?_ _));refine blk_put (cs := #[.int .i64 t125, .int .i64 t126, .int .i64 0, .slice none 0 0]) ?_ 2 _ rfl;(with_reducible repeat (first | refine blk_drewN ?_ _ | refine blk_drew ?_ | refine blk_alloc ?_ _));refine blk_put (cs := #[.int .i64 t125, .int .i64 0, .int .i64 0, .slice none 0 0]) ?_ 1 _ rfl;(with_reducible repeat (first | refine blk_drewN ?_ _ | refine blk_drew ?_ | refine blk_alloc ?_ _));refine blk_put (cs := #[.int .i64 0, .int .i64 0, .int .i64 0, .slice none 0 0]) ?_ 0 _ rfl;(with_reducible repeat (first | refine blk_drewN ?_ _ | refine blk_drew ?_ | refine blk_alloc ?_ _));exact BK131.out) hb);have n8_ := Aside0.mk (below_step (by repeat (first | (with_reducible first | exact HB.out | apply below_alloc | apply pw_below_drewN | apply below_drew1 | refine below_set ?_ GE101.out | refine below_set ?_ GE102.out | refine below_set ?_ GE124.out | refine below_set ?_ GE131.out) | exact HB.out)) hb);clear HO110;clear HO116;clear HO123;clear HO130;clear BK101;clear BK102;clear BK124;clear BK131;clear HB;have HO110 := n0_;have HO116 := n1_;have HO123 := n2_;have HO130 := n3_;have BK101 := n4_;have BK102 := n5_;have BK124 := n6_;have BK131 := n7_;have HB := n8_;clear n0_ n1_ n2_ n3_ n4_ n5_ n6_ n7_ n8_;(try clear hb);(try clear hb2);(try clear hk);(try clear hi)))
      have n0_ := Aside0.mk (Kd.R_drew HO110.out)
      have n1_ := Aside0.mk (Kd.R_drew HO116.out)
      have n2_ := Aside0.mk (Kd.R_drew HO123.out)
      have n3_ := Aside0.mk (Kd.R_drew HO130.out)
      have n4_ := Aside0.mk (blk_drew BK101.out)
      have n5_ := Aside0.mk (blk_drew BK102.out)
      have n6_ := Aside0.mk (blk_drew BK124.out)
      have n7_ := Aside0.mk (blk_drew BK131.out)
      have n8_ := Aside0.mk (below_drew1 HB.out)
      clear HO110
      clear HO116
      clear HO123
      clear HO130
      clear BK101
      clear BK102
      clear BK124
      clear BK131
      clear HB
      have HO110 := n0_
      have HO116 := n1_
      have HO123 := n2_
      have HO130 := n3_
      have BK101 := n4_
      have BK102 := n5_
      have BK124 := n6_
      have BK131 := n7_
      have HB := n8_
      clear n0_ n1_ n2_ n3_ n4_ n5_ n6_ n7_ n8_
      refine start_ (n := 5) (S := fun w' => w'.cell? ⟨gb124, 0, none⟩ = some (.int .i64 t118) ∧ w'.cell? ⟨gb124, 1, none⟩ = some (.int .i64 t119) ∧ w'.cell? ⟨gb124, 2, none⟩ = some (.int .i64 t120) ∧ w'.cell? ⟨gb124, 3, none⟩ = some (.slice Ao119 t121.length co119) ∧ w'.cell? ⟨gb101, 0, none⟩ = some (.int .i64 a0_0) ∧ w'.cell? ⟨gb101, 1, none⟩ = some (.int .i64 a0_1) ∧ w'.cell? ⟨gb101, 2, none⟩ = some (.int .i64 a0_2) ∧ w'.cell? ⟨gb101, 3, none⟩ = some (.slice A0_3 l0_3.length c0_3)) (ds := []) #[false, false, false, false, false] (by kernel_rfl) rfl rfl ⟨(blk_cell BK124.out 0).trans rfl, (blk_cell BK124.out 1).trans rfl, (blk_cell BK124.out 2).trans rfl, (blk_cell BK124.out 3).trans rfl, (blk_cell BK101.out 0).trans rfl, (blk_cell BK101.out 1).trans rfl, (blk_cell BK101.out 2).trans rfl, (blk_cell BK101.out 3).trans rfl⟩ (fun hHeld => ?_)
      generalize w129.drew = w130 at HO110 HO116 HO123 HO130 BK101 BK102 BK124 BK131 HB hHeld ⊢
      refine take_ (i := 0) (N := some 35) (v := ?_) (a' := ?_) #[true, false, false, false, false] rfl rfl (by kernel_rfl) (fun _ _ _ h => h) (Or.inl ⟨by rfl, ?_⟩) hHeld ?_ ?_
      rotate_left
      ·rintro w' ⟨s0, s1, s2, s3, s4, s5, s6, s7⟩
       go_simp
       with_reducible rfl
      rotate_left
      ·simp only [Act.put, List.setIfInBounds_toArray, List.set_cons_zero, List.set_cons_succ, i64_w, i32_w]
       rfl
      refine take_ (i := 1) (N := some 36) (v := ?_) (a' := ?_) #[true, true, false, false, false] rfl rfl (by kernel_rfl) (fun _ _ _ h => h) (Or.inl ⟨by rfl, ?_⟩) hHeld ?_ ?_
      rotate_left
      ·rintro w' ⟨s0, s1, s2, s3, s4, s5, s6, s7⟩
       go_simp
       with_reducible rfl
      rotate_left
      ·simp only [Act.put, List.setIfInBounds_toArray, List.set_cons_zero, List.set_cons_succ, i64_w, i32_w]
       rfl
      refine one_ (i := 2) (N := some 37) #[true, true, true, false, false] rfl rfl (by kernel_rfl) (by decide) (fun K hK => ?_)
      refine goes_ Try.func10 (by kernel_rfl) rfl #[.agg #[.int .i64 a0_0, .int .i64 a0_1, .int .i64 a0_2, .slice A0_3 l0_3.length c0_3]] (by rfl) rfl rfl (by (try simp only [List.map_toArray, List.map_cons, List.map_nil]);first | done | rfl | (simp only [List.length_drop, List.length_take];rfl)) ?_
      with_reducible refine (laws_toEx.calls k a0_0 a0_1 a0_2 _ _ l0_3 t133 t134 t135 t136 _ ?side1 ?side2 A56.out).mono ?_
      (case side1 => repeat (first | exact (Kd.C_below HR0_3.out HB.out) | (with_reducible refine Kd.C_alloc ?_ _) | (with_reducible refine Kd.C_drewN ?_ _) | (with_reducible refine Kd.C_drew ?_)))
      (case side2 => exact HC0_3.out)
      rintro e w131 ⟨v137, rfl, ho0, hb⟩
      refine ⟨_, rfl, ?_⟩
      have n0_ := Aside0.mk (Kd.R_elder' (by (with_reducible repeat (first | apply Kd.R_alloc | apply Kd.R_drewN | apply Kd.R_drew));exact HO110.out) (Kd.R_base ho0) hb)
      have n1_ := Aside0.mk (Kd.R_elder' (by (with_reducible repeat (first | apply Kd.R_alloc | apply Kd.R_drewN | apply Kd.R_drew));exact HO116.out) (Kd.R_base ho0) hb)
      have n2_ := Aside0.mk (Kd.R_elder' (by (with_reducible repeat (first | apply Kd.R_alloc | apply Kd.R_drewN | apply Kd.R_drew));exact HO123.out) (Kd.R_base ho0) hb)
      have n3_ := Aside0.mk (Kd.R_elder' (by (with_reducible repeat (first | apply Kd.R_alloc | apply Kd.R_drewN | apply Kd.R_drew));exact HO130.out) (Kd.R_base ho0) hb)
      have n4_ := Aside0.mk (Kd.R_lower (Kd.R_newB (Kd.R_newB (Kd.R_new' (Kd.R_new' (Kd.R_new' (Kd.R_new' ho0 (Kd.R_lt (by (with_reducible repeat (first | apply Kd.R_alloc | apply Kd.R_drewN | apply Kd.R_drew));exact HO110.out))) (Kd.R_lt (by (with_reducible repeat (first | apply Kd.R_alloc | apply Kd.R_drewN | apply Kd.R_drew));exact HO116.out))) (Kd.R_lt (by (with_reducible repeat (first | apply Kd.R_alloc | apply Kd.R_drewN | apply Kd.R_drew));exact HO123.out))) (Kd.R_lt (by (with_reducible repeat (first | apply Kd.R_alloc | apply Kd.R_drewN | apply Kd.R_drew));exact HO130.out))) BK124.out) BK131.out) (below_size (by exact HB.out)))
      have n5_ := Aside0.mk (blk_below BK101.out hb)
      have n6_ := Aside0.mk (blk_below BK102.out hb)
      have n7_ := Aside0.mk (blk_below BK124.out hb)
      have n8_ := Aside0.mk (blk_below BK131.out hb)
      have n9_ := Aside0.mk (below_step (by exact HB.out) hb)
      clear HO110
      clear HO116
      clear HO123
      clear HO130
      clear BK101
      clear BK102
      clear BK124
      clear BK131
      clear HB
      have HO110 := n0_
      have HO116 := n1_
      have HO123 := n2_
      have HO130 := n3_
      have HO138 := n4_
      have BK101 := n5_
      have BK102 := n6_
      have BK124 := n7_
      have BK131 := n8_
      have HB := n9_
      clear n0_ n1_ n2_ n3_ n4_ n5_ n6_ n7_ n8_ n9_
      (try clear hb)
      (try clear hb2)
      (try clear hk)
      (try clear hi)
      (try clear ho0)
      obtain ⟨Ao132, co132, eo132⟩ := Kd.R_slice HO138.out
      (first | subst eo132 | (injection eo132 with f1_ f2_ f3_;have f4_ := f1_.symm;have f5_ := f3_.symm;clear f1_ f2_ f3_;subst f4_;subst f5_))
      refine hK.out _ _ ⟨(blk_cell BK124.out 0).trans rfl, (blk_cell BK124.out 1).trans rfl, (blk_cell BK124.out 2).trans rfl, (blk_cell BK124.out 3).trans rfl, (blk_cell BK101.out 0).trans rfl, (blk_cell BK101.out 1).trans rfl, (blk_cell BK101.out 2).trans rfl, (blk_cell BK101.out 3).trans rfl⟩ (fun hHeld => ?_)
      clear hK K
      refine norm_ (a' := ?_) ?_ ?_
      rotate_left
      ·show Act.put _ (some 37) _ = _
       simp only [Act.put, List.setIfInBounds_toArray, List.set_cons_zero, List.set_cons_succ, i64_w, i32_w]
       rfl
      refine one_ (i := 3) (N := some 38) #[true, true, true, true, false] rfl rfl (by kernel_rfl) (by decide) (fun K hK => ?_)
      refine goes_ Try.func12 (by kernel_rfl) rfl #[.agg #[.int .i64 t118, .int .i64 t119, .int .i64 t120, .slice Ao119 t121.length co119], .agg #[.int .i64 t133, .int .i64 t134, .int .i64 t135, .slice Ao132 t136.length co132]] (by rfl) rfl rfl (by (try simp only [List.map_toArray, List.map_cons, List.map_nil]);first | done | rfl | (simp only [List.length_drop, List.length_take];rfl)) ?_
      with_reducible refine (laws_eqEx.calls k t118 t119 t120 _ _ t121 t133 t134 t135 _ _ t136 true _ ?side1 ?side2 ?side3 ?side4 A57.out).mono ?_
      (case side1 => repeat (first | exact (Kd.R_reads' HO123.out).2.2 | (with_reducible refine Kd.C_alloc ?_ _) | (with_reducible refine Kd.C_drewN ?_ _) | (with_reducible refine Kd.C_drew ?_)))
      (case side2 => exact (Kd.R_reads' HO123.out).2.1)
      (case side3 => repeat (first | exact (Kd.R_reads' HO138.out).2.2 | (with_reducible refine Kd.C_alloc ?_ _) | (with_reducible refine Kd.C_drewN ?_ _) | (with_reducible refine Kd.C_drew ?_)))
      (case side4 => exact (Kd.R_reads' HO138.out).2.1)
      rintro e w133 ⟨rfl, hb⟩
      refine ⟨_, rfl, ?_⟩
      have n0_ := Aside0.mk (Kd.R_below (by (with_reducible repeat (first | apply Kd.R_alloc | apply Kd.R_drewN | apply Kd.R_drew));exact HO110.out) hb)
      have n1_ := Aside0.mk (Kd.R_below (by (with_reducible repeat (first | apply Kd.R_alloc | apply Kd.R_drewN | apply Kd.R_drew));exact HO116.out) hb)
      have n2_ := Aside0.mk (Kd.R_below (by (with_reducible repeat (first | apply Kd.R_alloc | apply Kd.R_drewN | apply Kd.R_drew));exact HO123.out) hb)
      have n3_ := Aside0.mk (Kd.R_below (by (with_reducible repeat (first | apply Kd.R_alloc | apply Kd.R_drewN | apply Kd.R_drew));exact HO130.out) hb)
      have n4_ := Aside0.mk (Kd.R_below (by (with_reducible repeat (first | apply Kd.R_alloc | apply Kd.R_drewN | apply Kd.R_drew));exact HO138.out) hb)
      have n5_ := Aside0.mk (blk_below BK101.out hb)
      have n6_ := Aside0.mk (blk_below BK102.out hb)
      have n7_ := Aside0.mk (blk_below BK124.out hb)
      have n8_ := Aside0.mk (blk_below BK131.out hb)
      have n9_ := Aside0.mk (below_step (by exact HB.out) hb)
      clear HO110
      clear HO116
      clear HO123
      clear HO130
      clear HO138
      clear BK101
      clear BK102
      clear BK124
      clear BK131
      clear HB
      have HO110 := n0_
      have HO116 := n1_
      have HO123 := n2_
      have HO130 := n3_
      have HO138 := n4_
      have BK101 := n5_
      have BK102 := n6_
      have BK124 := n7_
      have BK131 := n8_
      have HB := n9_
      clear n0_ n1_ n2_ n3_ n4_ n5_ n6_ n7_ n8_ n9_
      (try clear hb)
      (try clear hb2)
      (try clear hk)
      (try clear hi)
      refine hK.out _ _ ⟨(blk_cell BK124.out 0).trans rfl, (blk_cell BK124.out 1).trans rfl, (blk_cell BK124.out 2).trans rfl, (blk_cell BK124.out 3).trans rfl, (blk_cell BK101.out 0).trans rfl, (blk_cell BK101.out 1).trans rfl, (blk_cell BK101.out 2).trans rfl, (blk_cell BK101.out 3).trans rfl⟩ (fun hHeld => ?_)
      clear hK K
      refine norm_ (a' := ?_) ?_ ?_
      rotate_left
      ·show Act.put _ (some 38) _ = _
       simp only [Act.put, List.setIfInBounds_toArray, List.set_cons_zero, List.set_cons_succ, i64_w, i32_w]
       rfl
      refine pure_ (i := 4) (N := some 39) (v := ?_) (a' := ?_) #[true, true, true, true, true] rfl rfl (by kernel_rfl) (fun _ _ _ h => h) (Or.inl ⟨by rfl, ?_⟩) ?_ ?_
      rotate_left
      ·intro w'
       go_simp
       with_reducible rfl
      rotate_left
      ·simp only [Act.put, List.setIfInBounds_toArray, List.set_cons_zero, List.set_cons_succ, i64_w, i32_w]
       rfl
      refine done_ (by kernel_rfl) ?_
      try go_wp2
      have n0_ := Aside0.mk (Kd.R_drew HO110.out)
      have n1_ := Aside0.mk (Kd.R_drew HO116.out)
      have n2_ := Aside0.mk (Kd.R_drew HO123.out)
      have n3_ := Aside0.mk (Kd.R_drew HO130.out)
      have n4_ := Aside0.mk (Kd.R_drew HO138.out)
      have n5_ := Aside0.mk (blk_drew BK101.out)
      have n6_ := Aside0.mk (blk_drew BK102.out)
      have n7_ := Aside0.mk (blk_drew BK124.out)
      have n8_ := Aside0.mk (blk_drew BK131.out)
      have n9_ := Aside0.mk (below_drew1 HB.out)
      clear HO110
      clear HO116
      clear HO123
      clear HO130
      clear HO138
      clear BK101
      clear BK102
      clear BK124
      clear BK131
      clear HB
      have HO110 := n0_
      have HO116 := n1_
      have HO123 := n2_
      have HO130 := n3_
      have HO138 := n4_
      have BK101 := n5_
      have BK102 := n6_
      have BK124 := n7_
      have BK131 := n8_
      have HB := n9_
      clear n0_ n1_ n2_ n3_ n4_ n5_ n6_ n7_ n8_ n9_
      refine start_ (n := 5) (S := fun w' => w'.cell? ⟨gb131, 0, none⟩ = some (.int .i64 t125) ∧ w'.cell? ⟨gb131, 1, none⟩ = some (.int .i64 t126) ∧ w'.cell? ⟨gb131, 2, none⟩ = some (.int .i64 t127) ∧ w'.cell? ⟨gb131, 3, none⟩ = some (.slice Ao127 t128.length co127) ∧ w'.cell? ⟨gb102, 0, none⟩ = some (.int .i64 a1_0) ∧ w'.cell? ⟨gb102, 1, none⟩ = some (.int .i64 a1_1) ∧ w'.cell? ⟨gb102, 2, none⟩ = some (.int .i64 a1_2) ∧ w'.cell? ⟨gb102, 3, none⟩ = some (.slice A1_3 l1_3.length c1_3)) (ds := []) #[false, false, false, false, false] (by kernel_rfl) rfl rfl ⟨(blk_cell BK131.out 0).trans rfl, (blk_cell BK131.out 1).trans rfl, (blk_cell BK131.out 2).trans rfl, (blk_cell BK131.out 3).trans rfl, (blk_cell BK102.out 0).trans rfl, (blk_cell BK102.out 1).trans rfl, (blk_cell BK102.out 2).trans rfl, (blk_cell BK102.out 3).trans rfl⟩ (fun hHeld => ?_)
      generalize w133.drew = w134 at HO110 HO116 HO123 HO130 HO138 BK101 BK102 BK124 BK131 HB hHeld ⊢
      refine take_ (i := 0) (N := some 40) (v := ?_) (a' := ?_) #[true, false, false, false, false] rfl rfl (by kernel_rfl) (fun _ _ _ h => h) (Or.inl ⟨by rfl, ?_⟩) hHeld ?_ ?_
      rotate_left
      ·rintro w' ⟨s0, s1, s2, s3, s4, s5, s6, s7⟩
       go_simp
       with_reducible rfl
      rotate_left
      ·simp only [Act.put, List.setIfInBounds_toArray, List.set_cons_zero, List.set_cons_succ, i64_w, i32_w]
       rfl
      refine take_ (i := 1) (N := some 41) (v := ?_) (a' := ?_) #[true, true, false, false, false] rfl rfl (by kernel_rfl) (fun _ _ _ h => h) (Or.inl ⟨by rfl, ?_⟩) hHeld ?_ ?_
      rotate_left
      ·rintro w' ⟨s0, s1, s2, s3, s4, s5, s6, s7⟩
       go_simp
       with_reducible rfl
      rotate_left
      ·simp only [Act.put, List.setIfInBounds_toArray, List.set_cons_zero, List.set_cons_succ, i64_w, i32_w]
       rfl
      refine one_ (i := 2) (N := some 42) #[true, true, true, false, false] rfl rfl (by kernel_rfl) (by decide) (fun K hK => ?_)
      refine goes_ Try.func10 (by kernel_rfl) rfl #[.agg #[.int .i64 a1_0, .int .i64 a1_1, .int .i64 a1_2, .slice A1_3 l1_3.length c1_3]] (by rfl) rfl rfl (by (try simp only [List.map_toArray, List.map_cons, List.map_nil]);first | done | rfl | (simp only [List.length_drop, List.length_take];rfl)) ?_
      with_reducible refine (laws_toEx.calls k a1_0 a1_1 a1_2 _ _ l1_3 t140 t141 t142 t143 _ ?side1 ?side2 A59.out).mono ?_
      (case side1 => repeat (first | exact (Kd.C_below HR1_3.out HB.out) | (with_reducible refine Kd.C_alloc ?_ _) | (with_reducible refine Kd.C_drewN ?_ _) | (with_reducible refine Kd.C_drew ?_)))
      (case side2 => exact HC1_3.out)
      rintro e w135 ⟨v144, rfl, ho0, hb⟩
      refine ⟨_, rfl, ?_⟩
      have n0_ := Aside0.mk (Kd.R_elder' (by (with_reducible repeat (first | apply Kd.R_alloc | apply Kd.R_drewN | apply Kd.R_drew));exact HO110.out) (Kd.R_base ho0) hb)
      have n1_ := Aside0.mk (Kd.R_elder' (by (with_reducible repeat (first | apply Kd.R_alloc | apply Kd.R_drewN | apply Kd.R_drew));exact HO116.out) (Kd.R_base ho0) hb)
      have n2_ := Aside0.mk (Kd.R_elder' (by (with_reducible repeat (first | apply Kd.R_alloc | apply Kd.R_drewN | apply Kd.R_drew));exact HO123.out) (Kd.R_base ho0) hb)
      have n3_ := Aside0.mk (Kd.R_elder' (by (with_reducible repeat (first | apply Kd.R_alloc | apply Kd.R_drewN | apply Kd.R_drew));exact HO130.out) (Kd.R_base ho0) hb)
      have n4_ := Aside0.mk (Kd.R_elder' (by (with_reducible repeat (first | apply Kd.R_alloc | apply Kd.R_drewN | apply Kd.R_drew));exact HO138.out) (Kd.R_base ho0) hb)
      have n5_ := Aside0.mk (Kd.R_lower (Kd.R_newB (Kd.R_newB (Kd.R_new' (Kd.R_new' (Kd.R_new' (Kd.R_new' (Kd.R_new' ho0 (Kd.R_lt (by (with_reducible repeat (first | apply Kd.R_alloc | apply Kd.R_drewN | apply Kd.R_drew));exact HO110.out))) (Kd.R_lt (by (with_reducible repeat (first | apply Kd.R_alloc | apply Kd.R_drewN | apply Kd.R_drew));exact HO116.out))) (Kd.R_lt (by (with_reducible repeat (first | apply Kd.R_alloc | apply Kd.R_drewN | apply Kd.R_drew));exact HO123.out))) (Kd.R_lt (by (with_reducible repeat (first | apply Kd.R_alloc | apply Kd.R_drewN | apply Kd.R_drew));exact HO130.out))) (Kd.R_lt (by (with_reducible repeat (first | apply Kd.R_alloc | apply Kd.R_drewN | apply Kd.R_drew));exact HO138.out))) BK124.out) BK131.out) (below_size (by exact HB.out)))
      have n6_ := Aside0.mk (blk_below BK101.out hb)
      have n7_ := Aside0.mk (blk_below BK102.out hb)
      have n8_ := Aside0.mk (blk_below BK124.out hb)
      have n9_ := Aside0.mk (blk_below BK131.out hb)
      have n10_ := Aside0.mk (below_step (by exact HB.out) hb)
      clear HO110
      clear HO116
      clear HO123
      clear HO130
      clear HO138
      clear BK101
      clear BK102
      clear BK124
      clear BK131
      clear HB
      have HO110 := n0_
      have HO116 := n1_
      have HO123 := n2_
      have HO130 := n3_
      have HO138 := n4_
      have HO145 := n5_
      have BK101 := n6_
      have BK102 := n7_
      have BK124 := n8_
      have BK131 := n9_
      have HB := n10_
      clear n0_ n1_ n2_ n3_ n4_ n5_ n6_ n7_ n8_ n9_ n10_
      (try clear hb)
      (try clear hb2)
      (try clear hk)
      (try clear hi)
      (try clear ho0)
      obtain ⟨Ao136, co136, eo136⟩ := Kd.R_slice HO145.out
      (first | subst eo136 | (injection eo136 with f1_ f2_ f3_;have f4_ := f1_.symm;have f5_ := f3_.symm;clear f1_ f2_ f3_;subst f4_;subst f5_))
      refine hK.out _ _ ⟨(blk_cell BK131.out 0).trans rfl, (blk_cell BK131.out 1).trans rfl, (blk_cell BK131.out 2).trans rfl, (blk_cell BK131.out 3).trans rfl, (blk_cell BK102.out 0).trans rfl, (blk_cell BK102.out 1).trans rfl, (blk_cell BK102.out 2).trans rfl, (blk_cell BK102.out 3).trans rfl⟩ (fun hHeld => ?_)
      clear hK K
      refine norm_ (a' := ?_) ?_ ?_
      rotate_left
      ·show Act.put _ (some 42) _ = _
       simp only [Act.put, List.setIfInBounds_toArray, List.set_cons_zero, List.set_cons_succ, i64_w, i32_w]
       rfl
      refine one_ (i := 3) (N := some 43) #[true, true, true, true, false] rfl rfl (by kernel_rfl) (by decide) (fun K hK => ?_)
      refine goes_ Try.func12 (by kernel_rfl) rfl #[.agg #[.int .i64 t125, .int .i64 t126, .int .i64 t127, .slice Ao127 t128.length co127], .agg #[.int .i64 t140, .int .i64 t141, .int .i64 t142, .slice Ao136 t143.length co136]] (by rfl) rfl rfl (by (try simp only [List.map_toArray, List.map_cons, List.map_nil]);first | done | rfl | (simp only [List.length_drop, List.length_take];rfl)) ?_
      with_reducible refine (laws_eqEx.calls k t125 t126 t127 _ _ t128 t140 t141 t142 _ _ t143 false _ ?side1 ?side2 ?side3 ?side4 A60.out).mono ?_
      (case side1 => repeat (first | exact (Kd.R_reads' HO130.out).2.2 | (with_reducible refine Kd.C_alloc ?_ _) | (with_reducible refine Kd.C_drewN ?_ _) | (with_reducible refine Kd.C_drew ?_)))
      (case side2 => exact (Kd.R_reads' HO130.out).2.1)
      (case side3 => repeat (first | exact (Kd.R_reads' HO145.out).2.2 | (with_reducible refine Kd.C_alloc ?_ _) | (with_reducible refine Kd.C_drewN ?_ _) | (with_reducible refine Kd.C_drew ?_)))
      (case side4 => exact (Kd.R_reads' HO145.out).2.1)
      rintro e w137 ⟨rfl, hb⟩
      refine ⟨_, rfl, ?_⟩
      have n0_ := Aside0.mk (Kd.R_below (by (with_reducible repeat (first | apply Kd.R_alloc | apply Kd.R_drewN | apply Kd.R_drew));exact HO110.out) hb)
      have n1_ := Aside0.mk (Kd.R_below (by (with_reducible repeat (first | apply Kd.R_alloc | apply Kd.R_drewN | apply Kd.R_drew));exact HO116.out) hb)
      have n2_ := Aside0.mk (Kd.R_below (by (with_reducible repeat (first | apply Kd.R_alloc | apply Kd.R_drewN | apply Kd.R_drew));exact HO123.out) hb)
      have n3_ := Aside0.mk (Kd.R_below (by (with_reducible repeat (first | apply Kd.R_alloc | apply Kd.R_drewN | apply Kd.R_drew));exact HO130.out) hb)
      have n4_ := Aside0.mk (Kd.R_below (by (with_reducible repeat (first | apply Kd.R_alloc | apply Kd.R_drewN | apply Kd.R_drew));exact HO138.out) hb)
      have n5_ := Aside0.mk (Kd.R_below (by (with_reducible repeat (first | apply Kd.R_alloc | apply Kd.R_drewN | apply Kd.R_drew));exact HO145.out) hb)
      have n6_ := Aside0.mk (blk_below BK101.out hb)
      have n7_ := Aside0.mk (blk_below BK102.out hb)
      have n8_ := Aside0.mk (blk_below BK124.out hb)
      have n9_ := Aside0.mk (blk_below BK131.out hb)
      have n10_ := Aside0.mk (below_step (by exact HB.out) hb)
      clear HO110
      clear HO116
      clear HO123
      clear HO130
      clear HO138
      clear HO145
      clear BK101
      clear BK102
      clear BK124
      clear BK131
      clear HB
      have HO110 := n0_
      have HO116 := n1_
      have HO123 := n2_
      have HO130 := n3_
      have HO138 := n4_
      have HO145 := n5_
      have BK101 := n6_
      have BK102 := n7_
      have BK124 := n8_
      have BK131 := n9_
      have HB := n10_
      clear n0_ n1_ n2_ n3_ n4_ n5_ n6_ n7_ n8_ n9_ n10_
      (try clear hb)
      (try clear hb2)
      (try clear hk)
      (try clear hi)
      refine hK.out _ _ ⟨(blk_cell BK131.out 0).trans rfl, (blk_cell BK131.out 1).trans rfl, (blk_cell BK131.out 2).trans rfl, (blk_cell BK131.out 3).trans rfl, (blk_cell BK102.out 0).trans rfl, (blk_cell BK102.out 1).trans rfl, (blk_cell BK102.out 2).trans rfl, (blk_cell BK102.out 3).trans rfl⟩ (fun hHeld => ?_)
      clear hK K
      refine norm_ (a' := ?_) ?_ ?_
      rotate_left
      ·show Act.put _ (some 43) _ = _
       simp only [Act.put, List.setIfInBounds_toArray, List.set_cons_zero, List.set_cons_succ, i64_w, i32_w]
       rfl
      refine pure_ (i := 4) (N := some 44) (v := ?_) (a' := ?_) #[true, true, true, true, true] rfl rfl (by kernel_rfl) (fun _ _ _ h => h) (Or.inl ⟨by rfl, ?_⟩) ?_ ?_
      rotate_left
      ·intro w'
       go_simp
       with_reducible rfl
      rotate_left
      ·simp only [Act.put, List.setIfInBounds_toArray, List.set_cons_zero, List.set_cons_succ, i64_w, i32_w]
       rfl
      refine done_ (by kernel_rfl) ?_
      try go_wp2
      go_ret
      exact ⟨by first | rfl | (simp [errW_none, errW_some] <;> rfl) | (simp [*, errW_none, errW_some] <;> rfl), by repeat (first | (with_reducible first | exact HB.out | apply below_alloc | apply pw_below_drewN | apply below_drew1 | refine below_set ?_ GE101.out | refine below_set ?_ GE102.out | refine below_set ?_ GE124.out | refine below_set ?_ GE131.out) | exact HB.out)⟩
    ·replace c58 := Bool.eq_false_iff.mpr c58
     subst c58
     have H1 : (some false) = some r := by rw [if_neg (show ¬ (false = true) by decide)] at H;exact H
     clear H
     have H := H1
     clear H1
     obtain rfl := Option.some.inj H
     go_enter Try.func3, Try.ntmps3
     try go_wp2_with (first | ((with_reducible refine gate_dst (N := 2) rfl ?_);refine box_event ?hg (N := 2) ?hd (cs := #[.int .i64 a0_0, .int .i64 a0_1, .int .i64 a0_2, .slice A0_3 l0_3.length c0_3]) (t := 24) ?hr ?_;(case hd => rfl);(case hg => rfl);(case hr => first | (go_simp;done) | (go_simp;rfl));intro gb101 hg w138 hbox hb;have n0_ := Aside0.mk (below_step (by exact HB.out) hb);have n1_ := Aside0.mk (hbox);have n2_ := Aside0.mk ((by rw [hg];exact (below_size (by exact HB.out)) : w.heap.size ≤ gb101));have n3_ := Aside0.mk ((by rw [hg];exact (below_size (by exact HB.out)) : w.heap.size ≤ gb101));clear HB;have HB := n0_;have BK101 := n1_;have GW101 := n2_;have GE101 := n3_;clear n0_ n1_ n2_ n3_;clear hb hbox hg) | ((with_reducible refine gate_dst (N := 3) rfl ?_);refine box_event ?hg (N := 3) ?hd (cs := #[.int .i64 a1_0, .int .i64 a1_1, .int .i64 a1_2, .slice A1_3 l1_3.length c1_3]) (t := 24) ?hr ?_;(case hd => rfl);(case hg => rfl);(case hr => first | (go_simp;done) | (go_simp;rfl));intro gb102 hg w139 hbox hb;have n0_ := Aside0.mk (blk_below BK101.out hb);have n1_ := Aside0.mk (below_step (by exact HB.out) hb);have n2_ := Aside0.mk (hbox);have n3_ := Aside0.mk ((by rw [hg];exact (below_size (by exact HB.out)) : w.heap.size ≤ gb102));have n4_ := Aside0.mk ((by rw [hg];exact (below_size (by exact HB.out)) : w.heap.size ≤ gb102));have n5_ := Aside0.mk ((by rw [hg];exact Nat.ne_of_lt (blk_lt BK101.out) : gb101 ≠ gb102));have n6_ := Aside0.mk ((by rw [hg];exact Nat.ne_of_gt (blk_lt BK101.out) : gb102 ≠ gb101));clear BK101;clear HB;have BK101 := n0_;have HB := n1_;have BK102 := n2_;have GW102 := n3_;have GE102 := n4_;have NB101_102 := n5_;have NB102_101 := n6_;clear n0_ n1_ n2_ n3_ n4_ n5_ n6_;clear hb hbox hg;have hnb140 := NB101_102.out;have hnc140 := NB102_101.out;have hcz141_0 : w139.cell? ⟨gb101, 0, none⟩ = some (.int .i64 a0_0) := (blk_cell BK101.out 0).trans rfl;have hcz141_1 : w139.cell? ⟨gb101, 1, none⟩ = some (.int .i64 a0_1) := (blk_cell BK101.out 1).trans rfl;have hcz141_2 : w139.cell? ⟨gb101, 2, none⟩ = some (.int .i64 a0_2) := (blk_cell BK101.out 2).trans rfl;have hcz141_3 : w139.cell? ⟨gb101, 3, none⟩ = some (.slice A0_3 l0_3.length c0_3) := (blk_cell BK101.out 3).trans rfl;have hfz141_0 := blk_frozen BK101.out 0;have hfz141_1 := blk_frozen BK101.out 1;have hfz141_2 := blk_frozen BK101.out 2;have hfz141_3 := blk_frozen BK101.out 3) | ((with_reducible refine gate_callee (f := 8) rfl ?_);refine goesL_ (some 12) rfl rfl Try.func8 (by kernel_rfl) rfl #[.agg #[.int .i64 a0_0, .int .i64 a0_1, .int .i64 a0_2, .slice A0_3 l0_3.length c0_3], .int .i64 1048576] rfl (by (try simp only [List.map_toArray, List.map_cons, List.map_nil]);first | done | rfl | (simp only [List.length_drop, List.length_take];rfl)) ?_;(with_reducible refine (laws_szEx.calls k a0_0 a0_1 a0_2 _ _ l0_3 1048576 t103 _ ?side1 ?side2 A3.out).mono ?_);(case side1 => repeat (first | exact (Kd.C_below HR0_3.out HB.out) | (with_reducible refine Kd.C_alloc ?_ _) | (with_reducible refine Kd.C_drewN ?_ _) | (with_reducible refine Kd.C_drew ?_)));(case side2 => exact HC0_3.out);rintro e w142 ⟨rfl, hb⟩;refine ⟨_, rfl, ?_⟩;have n0_ := Aside0.mk (blk_below BK101.out hb);have n1_ := Aside0.mk (blk_below BK102.out hb);have n2_ := Aside0.mk (below_step (by exact HB.out) hb);clear BK101;clear BK102;clear HB;have BK101 := n0_;have BK102 := n1_;have HB := n2_;clear n0_ n1_ n2_;(try clear hb);(try clear hb2);(try clear hk);(try clear hi);have hcz143_0 : w142.cell? ⟨gb102, 0, none⟩ = some (.int .i64 a1_0) := (blk_cell BK102.out 0).trans rfl;have hcz143_1 : w142.cell? ⟨gb102, 1, none⟩ = some (.int .i64 a1_1) := (blk_cell BK102.out 1).trans rfl;have hcz143_2 : w142.cell? ⟨gb102, 2, none⟩ = some (.int .i64 a1_2) := (blk_cell BK102.out 2).trans rfl;have hcz143_3 : w142.cell? ⟨gb102, 3, none⟩ = some (.slice A1_3 l1_3.length c1_3) := (blk_cell BK102.out 3).trans rfl;have hfz143_0 := blk_frozen BK102.out 0;have hfz143_1 := blk_frozen BK102.out 1;have hfz143_2 := blk_frozen BK102.out 2;have hfz143_3 := blk_frozen BK102.out 3) | ((with_reducible refine gate_callee (f := 8) rfl ?_);refine goesL_ (some 17) rfl rfl Try.func8 (by kernel_rfl) rfl #[.agg #[.int .i64 a1_0, .int .i64 a1_1, .int .i64 a1_2, .slice A1_3 l1_3.length c1_3], .int .i64 t103] rfl (by (try simp only [List.map_toArray, List.map_cons, List.map_nil]);first | done | rfl | (simp only [List.length_drop, List.length_take];rfl)) ?_;(with_reducible refine (laws_szEx.calls k a1_0 a1_1 a1_2 _ _ l1_3 t103 t104 _ ?side1 ?side2 A10.out).mono ?_);(case side1 => repeat (first | exact (Kd.C_below HR1_3.out HB.out) | (with_reducible refine Kd.C_alloc ?_ _) | (with_reducible refine Kd.C_drewN ?_ _) | (with_reducible refine Kd.C_drew ?_)));(case side2 => exact HC1_3.out);rintro e w144 ⟨rfl, hb⟩;refine ⟨_, rfl, ?_⟩;have n0_ := Aside0.mk (blk_below BK101.out hb);have n1_ := Aside0.mk (blk_below BK102.out hb);have n2_ := Aside0.mk (below_step (by exact HB.out) hb);clear BK101;clear BK102;clear HB;have BK101 := n0_;have BK102 := n1_;have HB := n2_;clear n0_ n1_ n2_;(try clear hb);(try clear hb2);(try clear hk);(try clear hi)))
     have n0_ := Aside0.mk (blk_drew BK101.out)
     have n1_ := Aside0.mk (blk_drew BK102.out)
     have n2_ := Aside0.mk (below_drew1 HB.out)
     clear BK101
     clear BK102
     clear HB
     have BK101 := n0_
     have BK102 := n1_
     have HB := n2_
     clear n0_ n1_ n2_
     refine start_ (n := 6) (S := fun w' => w'.cell? ⟨gb101, 0, none⟩ = some (.int .i64 a0_0) ∧ w'.cell? ⟨gb101, 1, none⟩ = some (.int .i64 a0_1) ∧ w'.cell? ⟨gb101, 2, none⟩ = some (.int .i64 a0_2) ∧ w'.cell? ⟨gb101, 3, none⟩ = some (.slice A0_3 l0_3.length c0_3) ∧ w'.cell? ⟨gb102, 0, none⟩ = some (.int .i64 a1_0) ∧ w'.cell? ⟨gb102, 1, none⟩ = some (.int .i64 a1_1) ∧ w'.cell? ⟨gb102, 2, none⟩ = some (.int .i64 a1_2) ∧ w'.cell? ⟨gb102, 3, none⟩ = some (.slice A1_3 l1_3.length c1_3)) (ds := []) #[false, false, false, false, false, false] (by kernel_rfl) rfl rfl ⟨(blk_cell BK101.out 0).trans rfl, (blk_cell BK101.out 1).trans rfl, (blk_cell BK101.out 2).trans rfl, (blk_cell BK101.out 3).trans rfl, (blk_cell BK102.out 0).trans rfl, (blk_cell BK102.out 1).trans rfl, (blk_cell BK102.out 2).trans rfl, (blk_cell BK102.out 3).trans rfl⟩ (fun hHeld => ?_)
     generalize w144.drew = w145 at BK101 BK102 HB hHeld ⊢
     refine take_ (i := 0) (N := some 20) (v := ?_) (a' := ?_) #[true, false, false, false, false, false] rfl rfl (by kernel_rfl) (fun _ _ _ h => h) (Or.inl ⟨by rfl, ?_⟩) hHeld ?_ ?_
     rotate_left
     ·rintro w' ⟨s0, s1, s2, s3, s4, s5, s6, s7⟩
      go_simp
      with_reducible rfl
     rotate_left
     ·simp only [Act.put, List.setIfInBounds_toArray, List.set_cons_zero, List.set_cons_succ, i64_w, i32_w]
      rfl
     refine take_ (i := 2) (N := some 22) (v := ?_) (a' := ?_) #[true, false, true, false, false, false] rfl rfl (by kernel_rfl) (fun _ _ _ h => h) (Or.inl ⟨by rfl, ?_⟩) hHeld ?_ ?_
     rotate_left
     ·rintro w' ⟨s0, s1, s2, s3, s4, s5, s6, s7⟩
      go_simp
      with_reducible rfl
     rotate_left
     ·simp only [Act.put, List.setIfInBounds_toArray, List.set_cons_zero, List.set_cons_succ, i64_w, i32_w]
      rfl
     refine one_ (i := 1) (N := some 21) #[true, true, true, false, false, false] rfl rfl (by kernel_rfl) (by decide) (fun K hK => ?_)
     refine goes_ Try.func10 (by kernel_rfl) rfl #[.agg #[.int .i64 a0_0, .int .i64 a0_1, .int .i64 a0_2, .slice A0_3 l0_3.length c0_3]] (by rfl) rfl rfl (by (try simp only [List.map_toArray, List.map_cons, List.map_nil]);first | done | rfl | (simp only [List.length_drop, List.length_take];rfl)) ?_
     with_reducible refine (laws_toEx.calls k a0_0 a0_1 a0_2 _ _ l0_3 t105 t106 t107 t108 _ ?side1 ?side2 A19.out).mono ?_
     (case side1 => repeat (first | exact (Kd.C_below HR0_3.out HB.out) | (with_reducible refine Kd.C_alloc ?_ _) | (with_reducible refine Kd.C_drewN ?_ _) | (with_reducible refine Kd.C_drew ?_)))
     (case side2 => exact HC0_3.out)
     rintro e w146 ⟨v109, rfl, ho0, hb⟩
     refine ⟨_, rfl, ?_⟩
     have n0_ := Aside0.mk (Kd.R_lower ho0 (below_size (by exact HB.out)))
     have n1_ := Aside0.mk (blk_below BK101.out hb)
     have n2_ := Aside0.mk (blk_below BK102.out hb)
     have n3_ := Aside0.mk (below_step (by exact HB.out) hb)
     clear BK101
     clear BK102
     clear HB
     have HO110 := n0_
     have BK101 := n1_
     have BK102 := n2_
     have HB := n3_
     clear n0_ n1_ n2_ n3_
     (try clear hb)
     (try clear hb2)
     (try clear hk)
     (try clear hi)
     (try clear ho0)
     refine hK.out _ _ ⟨(blk_cell BK101.out 0).trans rfl, (blk_cell BK101.out 1).trans rfl, (blk_cell BK101.out 2).trans rfl, (blk_cell BK101.out 3).trans rfl, (blk_cell BK102.out 0).trans rfl, (blk_cell BK102.out 1).trans rfl, (blk_cell BK102.out 2).trans rfl, (blk_cell BK102.out 3).trans rfl⟩ (fun hHeld => ?_)
     clear hK K
     refine norm_ (a' := ?_) ?_ ?_
     rotate_left
     ·show Act.put _ (some 21) _ = _
      simp only [Act.put, List.setIfInBounds_toArray, List.set_cons_zero, List.set_cons_succ, i64_w, i32_w]
      rfl
     refine one_ (i := 3) (N := some 23) #[true, true, true, true, false, false] rfl rfl (by kernel_rfl) (by decide) (fun K hK => ?_)
     refine goes_ Try.func10 (by kernel_rfl) rfl #[.agg #[.int .i64 a1_0, .int .i64 a1_1, .int .i64 a1_2, .slice A1_3 l1_3.length c1_3]] (by rfl) rfl rfl (by (try simp only [List.map_toArray, List.map_cons, List.map_nil]);first | done | rfl | (simp only [List.length_drop, List.length_take];rfl)) ?_
     with_reducible refine (laws_toEx.calls k a1_0 a1_1 a1_2 _ _ l1_3 t111 t112 t113 t114 _ ?side1 ?side2 A20.out).mono ?_
     (case side1 => repeat (first | exact (Kd.C_below HR1_3.out HB.out) | (with_reducible refine Kd.C_alloc ?_ _) | (with_reducible refine Kd.C_drewN ?_ _) | (with_reducible refine Kd.C_drew ?_)))
     (case side2 => exact HC1_3.out)
     rintro e w147 ⟨v115, rfl, ho0, hb⟩
     refine ⟨_, rfl, ?_⟩
     have n0_ := Aside0.mk (Kd.R_elder' (by (with_reducible repeat (first | apply Kd.R_alloc | apply Kd.R_drewN | apply Kd.R_drew));exact HO110.out) (Kd.R_base ho0) hb)
     have n1_ := Aside0.mk (Kd.R_lower (Kd.R_new' ho0 (Kd.R_lt (by (with_reducible repeat (first | apply Kd.R_alloc | apply Kd.R_drewN | apply Kd.R_drew));exact HO110.out))) (below_size (by exact HB.out)))
     have n2_ := Aside0.mk (blk_below BK101.out hb)
     have n3_ := Aside0.mk (blk_below BK102.out hb)
     have n4_ := Aside0.mk (below_step (by exact HB.out) hb)
     clear HO110
     clear BK101
     clear BK102
     clear HB
     have HO110 := n0_
     have HO116 := n1_
     have BK101 := n2_
     have BK102 := n3_
     have HB := n4_
     clear n0_ n1_ n2_ n3_ n4_
     (try clear hb)
     (try clear hb2)
     (try clear hk)
     (try clear hi)
     (try clear ho0)
     obtain ⟨Ao148, co148, eo148⟩ := Kd.R_slice HO110.out
     (first | subst eo148 | (injection eo148 with f1_ f2_ f3_;have f4_ := f1_.symm;have f5_ := f3_.symm;clear f1_ f2_ f3_;subst f4_;subst f5_))
     obtain ⟨Ao149, co149, eo149⟩ := Kd.R_slice HO116.out
     (first | subst eo149 | (injection eo149 with f1_ f2_ f3_;have f4_ := f1_.symm;have f5_ := f3_.symm;clear f1_ f2_ f3_;subst f4_;subst f5_))
     refine hK.out _ _ ⟨(blk_cell BK101.out 0).trans rfl, (blk_cell BK101.out 1).trans rfl, (blk_cell BK101.out 2).trans rfl, (blk_cell BK101.out 3).trans rfl, (blk_cell BK102.out 0).trans rfl, (blk_cell BK102.out 1).trans rfl, (blk_cell BK102.out 2).trans rfl, (blk_cell BK102.out 3).trans rfl⟩ (fun hHeld => ?_)
     clear hK K
     refine norm_ (a' := ?_) ?_ ?_
     rotate_left
     ·show Act.put _ (some 23) _ = _
      simp only [Act.put, List.setIfInBounds_toArray, List.set_cons_zero, List.set_cons_succ, i64_w, i32_w]
      rfl
     refine one_ (i := 4) (N := some 24) #[true, true, true, true, true, false] rfl rfl (by kernel_rfl) (by decide) (fun K hK => ?_)
     refine goes_ Try.func9 (by kernel_rfl) rfl #[.agg #[.int .i64 t105, .int .i64 t106, .int .i64 t107, .slice Ao148 t108.length co148], .agg #[.int .i64 t111, .int .i64 t112, .int .i64 t113, .slice Ao149 t114.length co149]] (by rfl) rfl rfl (by (try simp only [List.map_toArray, List.map_cons, List.map_nil]);first | done | rfl | (simp only [List.length_drop, List.length_take];rfl)) ?_
     with_reducible refine (spec_ExSame.calls k t105 t106 t107 _ _ t108 t111 t112 t113 _ _ t114 t117 _ ?side1 ?side2 ?side3 ?side4 A21.out).mono ?_
     (case side1 => repeat (first | exact (Kd.R_reads' HO110.out).2.2 | (with_reducible refine Kd.C_alloc ?_ _) | (with_reducible refine Kd.C_drewN ?_ _) | (with_reducible refine Kd.C_drew ?_)))
     (case side2 => exact (Kd.R_reads' HO110.out).2.1)
     (case side3 => repeat (first | exact (Kd.R_reads' HO116.out).2.2 | (with_reducible refine Kd.C_alloc ?_ _) | (with_reducible refine Kd.C_drewN ?_ _) | (with_reducible refine Kd.C_drew ?_)))
     (case side4 => exact (Kd.R_reads' HO116.out).2.1)
     rintro e w150 ⟨rfl, hb⟩
     refine ⟨_, rfl, ?_⟩
     have n0_ := Aside0.mk (Kd.R_below (by (with_reducible repeat (first | apply Kd.R_alloc | apply Kd.R_drewN | apply Kd.R_drew));exact HO110.out) hb)
     have n1_ := Aside0.mk (Kd.R_below (by (with_reducible repeat (first | apply Kd.R_alloc | apply Kd.R_drewN | apply Kd.R_drew));exact HO116.out) hb)
     have n2_ := Aside0.mk (blk_below BK101.out hb)
     have n3_ := Aside0.mk (blk_below BK102.out hb)
     have n4_ := Aside0.mk (below_step (by exact HB.out) hb)
     clear HO110
     clear HO116
     clear BK101
     clear BK102
     clear HB
     have HO110 := n0_
     have HO116 := n1_
     have BK101 := n2_
     have BK102 := n3_
     have HB := n4_
     clear n0_ n1_ n2_ n3_ n4_
     (try clear hb)
     (try clear hb2)
     (try clear hk)
     (try clear hi)
     refine hK.out _ _ ⟨(blk_cell BK101.out 0).trans rfl, (blk_cell BK101.out 1).trans rfl, (blk_cell BK101.out 2).trans rfl, (blk_cell BK101.out 3).trans rfl, (blk_cell BK102.out 0).trans rfl, (blk_cell BK102.out 1).trans rfl, (blk_cell BK102.out 2).trans rfl, (blk_cell BK102.out 3).trans rfl⟩ (fun hHeld => ?_)
     clear hK K
     refine norm_ (a' := ?_) ?_ ?_
     rotate_left
     ·show Act.put _ (some 24) _ = _
      simp only [Act.put, List.setIfInBounds_toArray, List.set_cons_zero, List.set_cons_succ, i64_w, i32_w]
      rfl
     refine pure_ (i := 5) (N := some 6) (v := ?_) (a' := ?_) #[true, true, true, true, true, true] rfl rfl (by kernel_rfl) (fun _ _ _ h => h) (Or.inl ⟨by rfl, ?_⟩) ?_ ?_
     rotate_left
     ·intro w'
      go_simp
      with_reducible rfl
     rotate_left
     ·simp only [Act.put, List.setIfInBounds_toArray, List.set_cons_zero, List.set_cons_succ, i64_w, i32_w]
      rfl
     refine done_ (by kernel_rfl) ?_
     have hcz151_0 : w150.cell? ⟨gb101, 0, none⟩ = some (.int .i64 a0_0) := (blk_cell BK101.out 0).trans rfl
     have hcz151_1 : w150.cell? ⟨gb101, 1, none⟩ = some (.int .i64 a0_1) := (blk_cell BK101.out 1).trans rfl
     have hcz151_2 : w150.cell? ⟨gb101, 2, none⟩ = some (.int .i64 a0_2) := (blk_cell BK101.out 2).trans rfl
     have hcz151_3 : w150.cell? ⟨gb101, 3, none⟩ = some (.slice A0_3 l0_3.length c0_3) := (blk_cell BK101.out 3).trans rfl
     have hfz151_0 := blk_frozen BK101.out 0
     have hfz151_1 := blk_frozen BK101.out 1
     have hfz151_2 := blk_frozen BK101.out 2
     have hfz151_3 := blk_frozen BK101.out 3
     try go_wp2_with (first | ((with_reducible refine gate_callee (f := 10) rfl ?_);refine goesL_ (some 26) rfl rfl Try.func10 (by kernel_rfl) rfl #[.agg #[.int .i64 a0_0, .int .i64 a0_1, .int .i64 a0_2, .slice A0_3 l0_3.length c0_3]] rfl (by (try simp only [List.map_toArray, List.map_cons, List.map_nil]);first | done | rfl | (simp only [List.length_drop, List.length_take];rfl)) ?_;(with_reducible refine (laws_toEx.calls k a0_0 a0_1 a0_2 _ _ l0_3 t118 t119 t120 t121 _ ?side1 ?side2 A22.out).mono ?_);(case side1 => repeat (first | exact (Kd.C_below HR0_3.out HB.out) | (with_reducible refine Kd.C_alloc ?_ _) | (with_reducible refine Kd.C_drewN ?_ _) | (with_reducible refine Kd.C_drew ?_)));(case side2 => exact HC0_3.out);rintro e w152 ⟨v122, rfl, ho0, hb⟩;refine ⟨_, rfl, ?_⟩;have n0_ := Aside0.mk (Kd.R_elder' (by (with_reducible repeat (first | apply Kd.R_alloc | apply Kd.R_drewN | apply Kd.R_drew));exact HO110.out) (Kd.R_base ho0) hb);have n1_ := Aside0.mk (Kd.R_elder' (by (with_reducible repeat (first | apply Kd.R_alloc | apply Kd.R_drewN | apply Kd.R_drew));exact HO116.out) (Kd.R_base ho0) hb);have n2_ := Aside0.mk (Kd.R_lower (Kd.R_new' (Kd.R_new' ho0 (Kd.R_lt (by (with_reducible repeat (first | apply Kd.R_alloc | apply Kd.R_drewN | apply Kd.R_drew));exact HO110.out))) (Kd.R_lt (by (with_reducible repeat (first | apply Kd.R_alloc | apply Kd.R_drewN | apply Kd.R_drew));exact HO116.out))) (below_size (by repeat (first | (with_reducible first | exact HB.out | apply below_alloc | apply pw_below_drewN | apply below_drew1 | refine below_set ?_ GE101.out | refine below_set ?_ GE102.out) | exact HB.out))));have n3_ := Aside0.mk (blk_below BK101.out hb);have n4_ := Aside0.mk (blk_below BK102.out hb);have n5_ := Aside0.mk (below_step (by repeat (first | (with_reducible first | exact HB.out | apply below_alloc | apply pw_below_drewN | apply below_drew1 | refine below_set ?_ GE101.out | refine below_set ?_ GE102.out) | exact HB.out)) hb);clear HO110;clear HO116;clear BK101;clear BK102;clear HB;have HO110 := n0_;have HO116 := n1_;have HO123 := n2_;have BK101 := n3_;have BK102 := n4_;have HB := n5_;clear n0_ n1_ n2_ n3_ n4_ n5_;(try clear hb);(try clear hb2);(try clear hk);(try clear hi);(try clear ho0)) | ((with_reducible refine gate_dst (N := 7) rfl ?_);refine box_event ?hg (N := 7) ?hd (cs := #[.int .i64 0, .int .i64 0, .int .i64 0, .slice none 0 0]) (t := 29) ?hr ?_;(case hd => rfl);(case hg => rfl);(case hr => first | (go_simp;done) | (go_simp;rfl));intro gb124 hg w153 hbox hb;have n0_ := Aside0.mk (Kd.R_below (Kd.R_elderB (by (with_reducible repeat (first | apply Kd.R_alloc | apply Kd.R_drewN | apply Kd.R_drew));exact HO110.out) gb124 (Nat.le_of_eq hg.symm)) hb);have n1_ := Aside0.mk (Kd.R_below (Kd.R_elderB (by (with_reducible repeat (first | apply Kd.R_alloc | apply Kd.R_drewN | apply Kd.R_drew));exact HO116.out) gb124 (Nat.le_of_eq hg.symm)) hb);have n2_ := Aside0.mk (Kd.R_below (Kd.R_elderB (by (with_reducible repeat (first | apply Kd.R_alloc | apply Kd.R_drewN | apply Kd.R_drew));exact HO123.out) gb124 (Nat.le_of_eq hg.symm)) hb);have n3_ := Aside0.mk (blk_below BK101.out hb);have n4_ := Aside0.mk (blk_below BK102.out hb);have n5_ := Aside0.mk (below_step (by repeat (first | (with_reducible first | exact HB.out | apply below_alloc | apply pw_below_drewN | apply below_drew1 | refine below_set ?_ GE101.out | refine below_set ?_ GE102.out) | exact HB.out)) hb);have n6_ := Aside0.mk (hbox);have n7_ := Aside0.mk ((by rw [hg];exact (below_size (by repeat (first | (with_reducible first | exact HB.out | apply below_alloc | apply pw_below_drewN | apply below_drew1 | refine below_set ?_ GE101.out | refine below_set ?_ GE102.out) | exact HB.out))) : w.heap.size ≤ gb124));have n8_ := Aside0.mk ((by rw [hg];exact (below_size (by repeat (first | (with_reducible first | exact HB.out | apply below_alloc | apply pw_below_drewN | apply below_drew1 | refine below_set ?_ GE101.out | refine below_set ?_ GE102.out) | exact HB.out))) : w.heap.size ≤ gb124));have n9_ := Aside0.mk ((by rw [hg];exact Nat.ne_of_lt (blk_lt BK101.out) : gb101 ≠ gb124));have n10_ := Aside0.mk ((by rw [hg];exact Nat.ne_of_gt (blk_lt BK101.out) : gb124 ≠ gb101));have n11_ := Aside0.mk ((by rw [hg];exact Nat.ne_of_lt (blk_lt BK102.out) : gb102 ≠ gb124));have n12_ := Aside0.mk ((by rw [hg];exact Nat.ne_of_gt (blk_lt BK102.out) : gb124 ≠ gb102));clear HO110;clear HO116;clear HO123;clear BK101;clear BK102;clear HB;have HO110 := n0_;have HO116 := n1_;have HO123 := n2_;have BK101 := n3_;have BK102 := n4_;have HB := n5_;have BK124 := n6_;have GW124 := n7_;have GE124 := n8_;have NB101_124 := n9_;have NB124_101 := n10_;have NB102_124 := n11_;have NB124_102 := n12_;clear n0_ n1_ n2_ n3_ n4_ n5_ n6_ n7_ n8_ n9_ n10_ n11_ n12_;clear hb hbox hg;have hnb154 := NB124_101.out;have hnc154 := NB101_124.out;have hnb155 := NB124_102.out;have hnc155 := NB102_124.out;have hcz156_0 : w153.cell? ⟨gb124, 0, none⟩ = some (.int .i64 0) := (blk_cell BK124.out 0).trans rfl;have hcz156_1 : w153.cell? ⟨gb124, 1, none⟩ = some (.int .i64 0) := (blk_cell BK124.out 1).trans rfl;have hcz156_2 : w153.cell? ⟨gb124, 2, none⟩ = some (.int .i64 0) := (blk_cell BK124.out 2).trans rfl;have hcz156_3 : w153.cell? ⟨gb124, 3, none⟩ = some (.slice none 0 0) := (blk_cell BK124.out 3).trans rfl;have hfz156_0 := blk_frozen BK124.out 0;have hfz156_1 := blk_frozen BK124.out 1;have hfz156_2 := blk_frozen BK124.out 2;have hfz156_3 := blk_frozen BK124.out 3;obtain ⟨Ao157, co157, eo157⟩ := Kd.R_slice HO123.out;subst eo157;have hcz158_0 : w153.cell? ⟨gb102, 0, none⟩ = some (.int .i64 a1_0) := (blk_cell BK102.out 0).trans rfl;have hcz158_1 : w153.cell? ⟨gb102, 1, none⟩ = some (.int .i64 a1_1) := (blk_cell BK102.out 1).trans rfl;have hcz158_2 : w153.cell? ⟨gb102, 2, none⟩ = some (.int .i64 a1_2) := (blk_cell BK102.out 2).trans rfl;have hcz158_3 : w153.cell? ⟨gb102, 3, none⟩ = some (.slice A1_3 l1_3.length c1_3) := (blk_cell BK102.out 3).trans rfl;have hfz158_0 := blk_frozen BK102.out 0;have hfz158_1 := blk_frozen BK102.out 1;have hfz158_2 := blk_frozen BK102.out 2;have hfz158_3 := blk_frozen BK102.out 3) | ((with_reducible refine gate_callee (f := 10) rfl ?_);refine goesL_ (some 28) rfl rfl Try.func10 (by kernel_rfl) rfl #[.agg #[.int .i64 a1_0, .int .i64 a1_1, .int .i64 a1_2, .slice A1_3 l1_3.length c1_3]] rfl (by (try simp only [List.map_toArray, List.map_cons, List.map_nil]);first | done | rfl | (simp only [List.length_drop, List.length_take];rfl)) ?_;(with_reducible refine (laws_toEx.calls k a1_0 a1_1 a1_2 _ _ l1_3 t125 t126 t127 t128 _ ?side1 ?side2 A23.out).mono ?_);(case side1 => exact Kd.C_below HR1_3.out (by repeat (first | (with_reducible first | exact HB.out | apply below_alloc | apply pw_below_drewN | apply below_drew1 | refine below_set ?_ GE101.out | refine below_set ?_ GE102.out | refine below_set ?_ GE124.out) | exact HB.out)));(case side2 => exact HC1_3.out);rintro e w159 ⟨v129, rfl, ho0, hb⟩;refine ⟨_, rfl, ?_⟩;have n0_ := Aside0.mk (Kd.R_elder' (by (with_reducible repeat (first | apply Kd.R_alloc | apply Kd.R_drewN | apply Kd.R_drew));exact (Kd.R_mono (Kd.R_far (p := ⟨gb124, 3, none⟩) (Kd.R_far (p := ⟨gb124, 2, none⟩) (Kd.R_far (p := ⟨gb124, 1, none⟩) (Kd.R_far (p := ⟨gb124, 0, none⟩) (Kd.R_mono HO110.out (fun k_ hk => (⟨hk, hk.2⟩ : _ ∧ k_ ≠ gb124))) (fun _ hk => hk.2) (.int .i64 t118)) (fun _ hk => hk.2) (.int .i64 t119)) (fun _ hk => hk.2) (.int .i64 t120)) (fun _ hk => hk.2) (.slice Ao157 t121.length co157)) (fun _ h_ => h_.1))) (Kd.R_base ho0) hb);have n1_ := Aside0.mk (Kd.R_elder' (by (with_reducible repeat (first | apply Kd.R_alloc | apply Kd.R_drewN | apply Kd.R_drew));exact (Kd.R_mono (Kd.R_far (p := ⟨gb124, 3, none⟩) (Kd.R_far (p := ⟨gb124, 2, none⟩) (Kd.R_far (p := ⟨gb124, 1, none⟩) (Kd.R_far (p := ⟨gb124, 0, none⟩) (Kd.R_mono HO116.out (fun k_ hk => (⟨hk, hk.2⟩ : _ ∧ k_ ≠ gb124))) (fun _ hk => hk.2) (.int .i64 t118)) (fun _ hk => hk.2) (.int .i64 t119)) (fun _ hk => hk.2) (.int .i64 t120)) (fun _ hk => hk.2) (.slice Ao157 t121.length co157)) (fun _ h_ => h_.1))) (Kd.R_base ho0) hb);have n2_ := Aside0.mk (Kd.R_elder' (by (with_reducible repeat (first | apply Kd.R_alloc | apply Kd.R_drewN | apply Kd.R_drew));exact (Kd.R_mono (Kd.R_far (p := ⟨gb124, 3, none⟩) (Kd.R_far (p := ⟨gb124, 2, none⟩) (Kd.R_far (p := ⟨gb124, 1, none⟩) (Kd.R_far (p := ⟨gb124, 0, none⟩) (Kd.R_mono HO123.out (fun k_ hk => (⟨hk, hk.2⟩ : _ ∧ k_ ≠ gb124))) (fun _ hk => hk.2) (.int .i64 t118)) (fun _ hk => hk.2) (.int .i64 t119)) (fun _ hk => hk.2) (.int .i64 t120)) (fun _ hk => hk.2) (.slice Ao157 t121.length co157)) (fun _ h_ => h_.1))) (Kd.R_base ho0) hb);have n3_ := Aside0.mk (Kd.R_lower (Kd.R_newB (Kd.R_new' (Kd.R_new' (Kd.R_new' ho0 (Kd.R_lt (by (with_reducible repeat (first | apply Kd.R_alloc | apply Kd.R_drewN | apply Kd.R_drew));exact (Kd.R_mono (Kd.R_far (p := ⟨gb124, 3, none⟩) (Kd.R_far (p := ⟨gb124, 2, none⟩) (Kd.R_far (p := ⟨gb124, 1, none⟩) (Kd.R_far (p := ⟨gb124, 0, none⟩) (Kd.R_mono HO110.out (fun k_ hk => (⟨hk, hk.2⟩ : _ ∧ k_ ≠ gb124))) (fun _ hk => hk.2) (.int .i64 t118)) (fun _ hk => hk.2) (.int .i64 t119)) (fun _ hk => hk.2) (.int .i64 t120)) (fun _ hk => hk.2) (.slice Ao157 t121.length co157)) (fun _ h_ => h_.1))))) (Kd.R_lt (by (with_reducible repeat (first | apply Kd.R_alloc | apply Kd.R_drewN | apply Kd.R_drew));exact (Kd.R_mono (Kd.R_far (p := ⟨gb124, 3, none⟩) (Kd.R_far (p := ⟨gb124, 2, none⟩) (Kd.R_far (p := ⟨gb124, 1, none⟩) (Kd.R_far (p := ⟨gb124, 0, none⟩) (Kd.R_mono HO116.out (fun k_ hk => (⟨hk, hk.2⟩ : _ ∧ k_ ≠ gb124))) (fun _ hk => hk.2) (.int .i64 t118)) (fun _ hk => hk.2) (.int .i64 t119)) (fun _ hk => hk.2) (.int .i64 t120)) (fun _ hk => hk.2) (.slice Ao157 t121.length co157)) (fun _ h_ => h_.1))))) (Kd.R_lt (by (with_reducible repeat (first | apply Kd.R_alloc | apply Kd.R_drewN | apply Kd.R_drew));exact (Kd.R_mono (Kd.R_far (p := ⟨gb124, 3, none⟩) (Kd.R_far (p := ⟨gb124, 2, none⟩) (Kd.R_far (p := ⟨gb124, 1, none⟩) (Kd.R_far (p := ⟨gb124, 0, none⟩) (Kd.R_mono HO123.out (fun k_ hk => (⟨hk, hk.2⟩ : _ ∧ k_ ≠ gb124))) (fun _ hk => hk.2) (.int .i64 t118)) (fun _ hk => hk.2) (.int .i64 t119)) (fun _ hk => hk.2) (.int .i64 t120)) (fun _ hk => hk.2) (.slice Ao157 t121.length co157)) (fun _ h_ => h_.1))))) (g := gb124) (o := .cells #[.int .i64 t118, .int .i64 t119, .int .i64 t120, .slice Ao157 t121.length co157] 29 (0, 0)) (by (with_reducible repeat (first | refine blk_drewN ?_ _ | refine blk_drew ?_ | refine blk_alloc ?_ _));refine blk_put (cs := #[.int .i64 t118, .int .i64 t119, .int .i64 t120, .slice none 0 0]) ?_ 3 _ rfl;(with_reducible repeat (first | refine blk_drewN ?_ _ | refine blk_drew ?_ | refine blk_alloc ?_ _));refine blk_put (cs := #[.int .i64 t118, .int .i64 t119, .int .i64 0, .slice none 0 0]) ?_ 2 _ rfl;(with_reducible repeat (first | refine blk_drewN ?_ _ | refine blk_drew ?_ | refine blk_alloc ?_ _));refine blk_put (cs := #[.int .i64 t118, .int .i64 0, .int .i64 0, .slice none 0 0]) ?_ 1 _ rfl;(with_reducible repeat (first | refine blk_drewN ?_ _ | refine blk_drew ?_ | refine blk_alloc ?_ _));refine blk_put (cs := #[.int .i64 0, .int .i64 0, .int .i64 0, .slice none 0 0]) ?_ 0 _ rfl;(with_reducible repeat (first | refine blk_drewN ?_ _ | refine blk_drew ?_ | refine blk_alloc ?_ _));exact BK124.out)) (below_size (by repeat (first | (with_reducible first | exact HB.out | apply below_alloc | apply pw_below_drewN | apply below_drew1 | refine below_set ?_ GE101.out | refine below_set ?_ GE102.out | refine below_set ?_ GE124.out) | exact HB.out))));have n4_ := Aside0.mk (blk_below (g := gb101) (o := .cells #[.int .i64 a0_0, .int .i64 a0_1, .int .i64 a0_2, .slice A0_3 l0_3.length c0_3] 24 (0, 0)) (by (with_reducible repeat (first | refine blk_drewN ?_ _ | refine blk_drew ?_ | refine blk_alloc ?_ _));refine blk_far ?_ NB101_124.out _;(with_reducible repeat (first | refine blk_drewN ?_ _ | refine blk_drew ?_ | refine blk_alloc ?_ _));refine blk_far ?_ NB101_124.out _;(with_reducible repeat (first | refine blk_drewN ?_ _ | refine blk_drew ?_ | refine blk_alloc ?_ _));refine blk_far ?_ NB101_124.out _;(with_reducible repeat (first | refine blk_drewN ?_ _ | refine blk_drew ?_ | refine blk_alloc ?_ _));refine blk_far ?_ NB101_124.out _;(with_reducible repeat (first | refine blk_drewN ?_ _ | refine blk_drew ?_ | refine blk_alloc ?_ _));exact BK101.out) hb);have n5_ := Aside0.mk (blk_below (g := gb102) (o := .cells #[.int .i64 a1_0, .int .i64 a1_1, .int .i64 a1_2, .slice A1_3 l1_3.length c1_3] 24 (0, 0)) (by (with_reducible repeat (first | refine blk_drewN ?_ _ | refine blk_drew ?_ | refine blk_alloc ?_ _));refine blk_far ?_ NB102_124.out _;(with_reducible repeat (first | refine blk_drewN ?_ _ | refine blk_drew ?_ | refine blk_alloc ?_ _));refine blk_far ?_ NB102_124.out _;(with_reducible repeat (first | refine blk_drewN ?_ _ | refine blk_drew ?_ | refine blk_alloc ?_ _));refine blk_far ?_ NB102_124.out _;(with_reducible repeat (first | refine blk_drewN ?_ _ | refine blk_drew ?_ | refine blk_alloc ?_ _));refine blk_far ?_ NB102_124.out _;(with_reducible repeat (first | refine blk_drewN ?_ _ | refine blk_drew ?_ | refine blk_alloc ?_ _));exact BK102.out) hb);have n6_ := Aside0.mk (blk_below (g := gb124) (o := .cells #[.int .i64 t118, .int .i64 t119, .int .i64 t120, .slice Ao157 t121.length co157] 29 (0, 0)) (by (with_reducible repeat (first | refine blk_drewN ?_ _ | refine blk_drew ?_ | refine blk_alloc ?_ _));refine blk_put (cs := #[.int .i64 t118, .int .i64 t119, .int .i64 t120, .slice none 0 0]) ?_ 3 _ rfl;(with_reducible repeat (first | refine blk_drewN ?_ _ | refine blk_drew ?_ | refine blk_alloc ?_ _));refine blk_put (cs := #[.int .i64 t118, .int .i64 t119, .int .i64 0, .slice none 0 0]) ?_ 2 _ rfl;(with_reducible repeat (first | refine blk_drewN ?_ _ | refine blk_drew ?_ | refine blk_alloc ?_ _));refine blk_put (cs := #[.int .i64 t118, .int .i64 0, .int .i64 0, .slice none 0 0]) ?_ 1 _ rfl;(with_reducible repeat (first | refine blk_drewN ?_ _ | refine blk_drew ?_ | refine blk_alloc ?_ _));refine blk_put (cs := #[.int .i64 0, .int .i64 0, .int .i64 0, .slice none 0 0]) ?_ 0 _ rfl;(with_reducible repeat (first | refine blk_drewN ?_ _ | refine blk_drew ?_ | refine blk_alloc ?_ _));exact BK124.out) hb);have n7_ := Aside0.mk (below_step (by repeat (first | (with_reducible first | exact HB.out | apply below_alloc | apply pw_below_drewN | apply below_drew1 | refine below_set ?_ GE101.out | refine below_set ?_ GE102.out | refine below_set ?_ GE124.out) | exact HB.out)) hb);clear HO110;clear HO116;clear HO123;clear BK101;clear BK102;clear BK124;clear HB;have HO110 := n0_;have HO116 := n1_;have HO123 := n2_;have HO130 := n3_;have BK101 := n4_;have BK102 := n5_;have BK124 := n6_;have HB := n7_;clear n0_ n1_ n2_ n3_ n4_ n5_ n6_ n7_;(try clear hb);(try clear hb2);(try clear hk);(try clear hi);(try clear ho0)) | ((with_reducible refine gate_dst (N := 8) rfl ?_);refine box_event ?hg (N := 8) ?hd (cs := #[.int .i64 0, .int .i64 0, .int .i64 0, .slice none 0 0]) (t := 29) ?hr ?_;(case hd => rfl);(case hg => rfl);(case hr => first | (go_simp;done) | (go_simp;rfl));intro gb131 hg w160 hbox hb;have n0_ := Aside0.mk (Kd.R_below (Kd.R_elderB (by (with_reducible repeat (first | apply Kd.R_alloc | apply Kd.R_drewN | apply Kd.R_drew));exact HO110.out) gb131 (Nat.le_of_eq hg.symm)) hb);have n1_ := Aside0.mk (Kd.R_below (Kd.R_elderB (by (with_reducible repeat (first | apply Kd.R_alloc | apply Kd.R_drewN | apply Kd.R_drew));exact HO116.out) gb131 (Nat.le_of_eq hg.symm)) hb);have n2_ := Aside0.mk (Kd.R_below (Kd.R_elderB (by (with_reducible repeat (first | apply Kd.R_alloc | apply Kd.R_drewN | apply Kd.R_drew));exact HO123.out) gb131 (Nat.le_of_eq hg.symm)) hb);have n3_ := Aside0.mk (Kd.R_below (Kd.R_elderB (by (with_reducible repeat (first | apply Kd.R_alloc | apply Kd.R_drewN | apply Kd.R_drew));exact HO130.out) gb131 (Nat.le_of_eq hg.symm)) hb);have n4_ := Aside0.mk (blk_below BK101.out hb);have n5_ := Aside0.mk (blk_below BK102.out hb);have n6_ := Aside0.mk (blk_below BK124.out hb);have n7_ := Aside0.mk (below_step (by repeat (first | (with_reducible first | exact HB.out | apply below_alloc | apply pw_below_drewN | apply below_drew1 | refine below_set ?_ GE101.out | refine below_set ?_ GE102.out | refine below_set ?_ GE124.out) | exact HB.out)) hb);have n8_ := Aside0.mk (hbox);have n9_ := Aside0.mk ((by rw [hg];exact (below_size (by repeat (first | (with_reducible first | exact HB.out | apply below_alloc | apply pw_below_drewN | apply below_drew1 | refine below_set ?_ GE101.out | refine below_set ?_ GE102.out | refine below_set ?_ GE124.out) | exact HB.out))) : w.heap.size ≤ gb131));have n10_ := Aside0.mk ((by rw [hg];exact (below_size (by repeat (first | (with_reducible first | exact HB.out | apply below_alloc | apply pw_below_drewN | apply below_drew1 | refine below_set ?_ GE101.out | refine below_set ?_ GE102.out | refine below_set ?_ GE124.out) | exact HB.out))) : w.heap.size ≤ gb131));have n11_ := Aside0.mk ((by rw [hg];exact Nat.ne_of_lt (blk_lt BK101.out) : gb101 ≠ gb131));have n12_ := Aside0.mk ((by rw [hg];exact Nat.ne_of_gt (blk_lt BK101.out) : gb131 ≠ gb101));have n13_ := Aside0.mk ((by rw [hg];exact Nat.ne_of_lt (blk_lt BK102.out) : gb102 ≠ gb131));have n14_ := Aside0.mk ((by rw [hg];exact Nat.ne_of_gt (blk_lt BK102.out) : gb131 ≠ gb102));have n15_ := Aside0.mk ((by rw [hg];exact Nat.ne_of_lt (blk_lt BK124.out) : gb124 ≠ gb131));have n16_ := Aside0.mk ((by rw [hg];exact Nat.ne_of_gt (blk_lt BK124.out) : gb131 ≠ gb124));clear HO110;clear HO116;clear HO123;clear HO130;clear BK101;clear BK102;clear BK124;clear HB;have HO110 := n0_;have HO116 := n1_;have HO123 := n2_;have HO130 := n3_;have BK101 := n4_;have BK102 := n5_;have BK124 := n6_;have HB := n7_;have BK131 := n8_;have GW131 := n9_;have GE131 := n10_;have NB101_131 := n11_;have NB131_101 := n12_;have NB102_131 := n13_;have NB131_102 := n14_;have NB124_131 := n15_;have NB131_124 := n16_;clear n0_ n1_ n2_ n3_ n4_ n5_ n6_ n7_ n8_ n9_ n10_ n11_ n12_ n13_ n14_ n15_ n16_;clear hb hbox hg;have hnb161 := NB131_101.out;have hnc161 := NB101_131.out;have hnb162 := NB131_102.out;have hnc162 := NB102_131.out;have hnb163 := NB131_124.out;have hnc163 := NB124_131.out;have hcz164_0 : w160.cell? ⟨gb131, 0, none⟩ = some (.int .i64 0) := (blk_cell BK131.out 0).trans rfl;have hcz164_1 : w160.cell? ⟨gb131, 1, none⟩ = some (.int .i64 0) := (blk_cell BK131.out 1).trans rfl;have hcz164_2 : w160.cell? ⟨gb131, 2, none⟩ = some (.int .i64 0) := (blk_cell BK131.out 2).trans rfl;have hcz164_3 : w160.cell? ⟨gb131, 3, none⟩ = some (.slice none 0 0) := (blk_cell BK131.out 3).trans rfl;have hfz164_0 := blk_frozen BK131.out 0;have hfz164_1 := blk_frozen BK131.out 1;have hfz164_2 := blk_frozen BK131.out 2;have hfz164_3 := blk_frozen BK131.out 3;obtain ⟨Ao165, co165, eo165⟩ := Kd.R_slice HO130.out;subst eo165;have hcz166_0 : w160.cell? ⟨gb124, 0, none⟩ = some (.int .i64 t118) := (blk_cell BK124.out 0).trans rfl;have hcz166_1 : w160.cell? ⟨gb124, 1, none⟩ = some (.int .i64 t119) := (blk_cell BK124.out 1).trans rfl;have hcz166_2 : w160.cell? ⟨gb124, 2, none⟩ = some (.int .i64 t120) := (blk_cell BK124.out 2).trans rfl;have hcz166_3 : w160.cell? ⟨gb124, 3, none⟩ = some (.slice Ao157 t121.length co157) := (blk_cell BK124.out 3).trans rfl;have hfz166_0 := blk_frozen BK124.out 0;have hfz166_1 := blk_frozen BK124.out 1;have hfz166_2 := blk_frozen BK124.out 2;have hfz166_3 := blk_frozen BK124.out 3) | ((with_reducible refine gate_callee (f := 11) rfl ?_);refine goesL_ (some 31) rfl rfl Try.func11 (by kernel_rfl) rfl #[.agg #[.int .i64 t118, .int .i64 t119, .int .i64 t120, .slice Ao157 t121.length co157], .agg #[.int .i64 t125, .int .i64 t126, .int .i64 t127, .slice Ao165 t128.length co165]] rfl (by (try simp only [List.map_toArray, List.map_cons, List.map_nil]);first | done | rfl | (simp only [List.length_drop, List.length_take];rfl)) ?_;(with_reducible refine (impl_ExSame.calls k t118 t119 t120 _ _ t121 t125 t126 t127 _ _ t128 t132 _ ?side1 ?side2 ?side3 ?side4 A24.out).mono ?_);(case side1 => refine (Kd.R_reads' (e := 29) (base := w.heap.size) (ok := fun k_ => (((((True ∧ some k_ ≠ (.slice Ao148 t108.length co148 : Value).ownBlock) ∧ some k_ ≠ (.slice Ao149 t114.length co149 : Value).ownBlock) ∧ k_ ≠ gb124) ∧ some k_ ≠ (.slice Ao165 t128.length co165 : Value).ownBlock) ∧ k_ ≠ gb131)) (n := t121.length) (c := co157) ?_).2.2;exact (by (with_reducible repeat (first | apply Kd.R_alloc | apply Kd.R_drewN | apply Kd.R_drew));exact (Kd.R_mono (Kd.R_far (p := ⟨gb131, 3, none⟩) (Kd.R_far (p := ⟨gb131, 2, none⟩) (Kd.R_far (p := ⟨gb131, 1, none⟩) (Kd.R_far (p := ⟨gb131, 0, none⟩) (Kd.R_mono HO123.out (fun k_ hk => (⟨hk, hk.2⟩ : _ ∧ k_ ≠ gb131))) (fun _ hk => hk.2) (.int .i64 t125)) (fun _ hk => hk.2) (.int .i64 t126)) (fun _ hk => hk.2) (.int .i64 t127)) (fun _ hk => hk.2) (.slice Ao165 t128.length co165)) (fun _ h_ => h_.1))));(case side2 => exact (Kd.R_reads' HO123.out).2.1);(case side3 => refine (Kd.R_reads' (e := 29) (base := w.heap.size) (ok := fun k_ => (((((True ∧ some k_ ≠ (.slice Ao148 t108.length co148 : Value).ownBlock) ∧ some k_ ≠ (.slice Ao149 t114.length co149 : Value).ownBlock) ∧ some k_ ≠ (.slice Ao157 t121.length co157 : Value).ownBlock) ∧ k_ ≠ gb124) ∧ k_ ≠ gb131)) (n := t128.length) (c := co165) ?_).2.2;exact (by (with_reducible repeat (first | apply Kd.R_alloc | apply Kd.R_drewN | apply Kd.R_drew));exact (Kd.R_mono (Kd.R_far (p := ⟨gb131, 3, none⟩) (Kd.R_far (p := ⟨gb131, 2, none⟩) (Kd.R_far (p := ⟨gb131, 1, none⟩) (Kd.R_far (p := ⟨gb131, 0, none⟩) (Kd.R_mono HO130.out (fun k_ hk => (⟨hk, hk.2⟩ : _ ∧ k_ ≠ gb131))) (fun _ hk => hk.2) (.int .i64 t125)) (fun _ hk => hk.2) (.int .i64 t126)) (fun _ hk => hk.2) (.int .i64 t127)) (fun _ hk => hk.2) (.slice Ao165 t128.length co165)) (fun _ h_ => h_.1))));(case side4 => exact (Kd.R_reads' HO130.out).2.1);rintro e w167 ⟨rfl, hb⟩;refine ⟨_, rfl, ?_⟩;have n0_ := Aside0.mk (Kd.R_below (by (with_reducible repeat (first | apply Kd.R_alloc | apply Kd.R_drewN | apply Kd.R_drew));exact (Kd.R_mono (Kd.R_far (p := ⟨gb131, 3, none⟩) (Kd.R_far (p := ⟨gb131, 2, none⟩) (Kd.R_far (p := ⟨gb131, 1, none⟩) (Kd.R_far (p := ⟨gb131, 0, none⟩) (Kd.R_mono HO110.out (fun k_ hk => (⟨hk, hk.2⟩ : _ ∧ k_ ≠ gb131))) (fun _ hk => hk.2) (.int .i64 t125)) (fun _ hk => hk.2) (.int .i64 t126)) (fun _ hk => hk.2) (.int .i64 t127)) (fun _ hk => hk.2) (.slice Ao165 t128.length co165)) (fun _ h_ => h_.1))) hb);have n1_ := Aside0.mk (Kd.R_below (by (with_reducible repeat (first | apply Kd.R_alloc | apply Kd.R_drewN | apply Kd.R_drew));exact (Kd.R_mono (Kd.R_far (p := ⟨gb131, 3, none⟩) (Kd.R_far (p := ⟨gb131, 2, none⟩) (Kd.R_far (p := ⟨gb131, 1, none⟩) (Kd.R_far (p := ⟨gb131, 0, none⟩) (Kd.R_mono HO116.out (fun k_ hk => (⟨hk, hk.2⟩ : _ ∧ k_ ≠ gb131))) (fun _ hk => hk.2) (.int .i64 t125)) (fun _ hk => hk.2) (.int .i64 t126)) (fun _ hk => hk.2) (.int .i64 t127)) (fun _ hk => hk.2) (.slice Ao165 t128.length co165)) (fun _ h_ => h_.1))) hb);have n2_ := Aside0.mk (Kd.R_below (by (with_reducible repeat (first | apply Kd.R_alloc | apply Kd.R_drewN | apply Kd.R_drew));exact (Kd.R_mono (Kd.R_far (p := ⟨gb131, 3, none⟩) (Kd.R_far (p := ⟨gb131, 2, none⟩) (Kd.R_far (p := ⟨gb131, 1, none⟩) (Kd.R_far (p := ⟨gb131, 0, none⟩) (Kd.R_mono HO123.out (fun k_ hk => (⟨hk, hk.2⟩ : _ ∧ k_ ≠ gb131))) (fun _ hk => hk.2) (.int .i64 t125)) (fun _ hk => hk.2) (.int .i64 t126)) (fun _ hk => hk.2) (.int .i64 t127)) (fun _ hk => hk.2) (.slice Ao165 t128.length co165)) (fun _ h_ => h_.1))) hb);have n3_ := Aside0.mk (Kd.R_below (by (with_reducible repeat (first | apply Kd.R_alloc | apply Kd.R_drewN | apply Kd.R_drew));exact (Kd.R_mono (Kd.R_far (p := ⟨gb131, 3, none⟩) (Kd.R_far (p := ⟨gb131, 2, none⟩) (Kd.R_far (p := ⟨gb131, 1, none⟩) (Kd.R_far (p := ⟨gb131, 0, none⟩) (Kd.R_mono HO130.out (fun k_ hk => (⟨hk, hk.2⟩ : _ ∧ k_ ≠ gb131))) (fun _ hk => hk.2) (.int .i64 t125)) (fun _ hk => hk.2) (.int .i64 t126)) (fun _ hk => hk.2) (.int .i64 t127)) (fun _ hk => hk.2) (.slice Ao165 t128.length co165)) (fun _ h_ => h_.1))) hb);have n4_ := Aside0.mk (blk_below (g := gb101) (o := .cells #[.int .i64 a0_0, .int .i64 a0_1, .int .i64 a0_2, .slice A0_3 l0_3.length c0_3] 24 (0, 0)) (by (with_reducible repeat (first | refine blk_drewN ?_ _ | refine blk_drew ?_ | refine blk_alloc ?_ _));refine blk_far ?_ NB101_131.out _;(with_reducible repeat (first | refine blk_drewN ?_ _ | refine blk_drew ?_ | refine blk_alloc ?_ _));refine blk_far ?_ NB101_131.out _;(with_reducible repeat (first | refine blk_drewN ?_ _ | refine blk_drew ?_ | refine blk_alloc ?_ _));refine blk_far ?_ NB101_131.out _;(with_reducible repeat (first | refine blk_drewN ?_ _ | refine blk_drew ?_ | refine blk_alloc ?_ _));refine blk_far ?_ NB101_131.out _;(with_reducible repeat (first | refine blk_drewN ?_ _ | refine blk_drew ?_ | refine blk_alloc ?_ _));exact BK101.out) hb);have n5_ := Aside0.mk (blk_below (g := gb102) (o := .cells #[.int .i64 a1_0, .int .i64 a1_1, .int .i64 a1_2, .slice A1_3 l1_3.length c1_3] 24 (0, 0)) (by (with_reducible repeat (first | refine blk_drewN ?_ _ | refine blk_drew ?_ | refine blk_alloc ?_ _));refine blk_far ?_ NB102_131.out _;(with_reducible repeat (first | refine blk_drewN ?_ _ | refine blk_drew ?_ | refine blk_alloc ?_ _));refine blk_far ?_ NB102_131.out _;(with_reducible repeat (first | refine blk_drewN ?_ _ | refine blk_drew ?_ | refine blk_alloc ?_ _));refine blk_far ?_ NB102_131.out _;(with_reducible repeat (first | refine blk_drewN ?_ _ | refine blk_drew ?_ | refine blk_alloc ?_ _));refine blk_far ?_ NB102_131.out _;(with_reducible repeat (first | refine blk_drewN ?_ _ | refine blk_drew ?_ | refine blk_alloc ?_ _));exact BK102.out) hb);have n6_ := Aside0.mk (blk_below (g := gb124) (o := .cells #[.int .i64 t118, .int .i64 t119, .int .i64 t120, .slice Ao157 t121.length co157] 29 (0, 0)) (by (with_reducible repeat (first | refine blk_drewN ?_ _ | refine blk_drew ?_ | refine blk_alloc ?_ _));refine blk_far ?_ NB124_131.out _;(with_reducible repeat (first | refine blk_drewN ?_ _ | refine blk_drew ?_ | refine blk_alloc ?_ _));refine blk_far ?_ NB124_131.out _;(with_reducible repeat (first | refine blk_drewN ?_ _ | refine blk_drew ?_ | refine blk_alloc ?_ _));refine blk_far ?_ NB124_131.out _;(with_reducible repeat (first | refine blk_drewN ?_ _ | refine blk_drew ?_ | refine blk_alloc ?_ _));refine blk_far ?_ NB124_131.out _;(with_reducible repeat (first | refine blk_drewN ?_ _ | refine blk_drew ?_ | refine blk_alloc ?_ _));exact BK124.out) hb);have n7_ := Aside0.mk (blk_below (g := gb131) (o := .cells #[.int .i64 t125, .int .i64 t126, .int .i64 t127, .slice Ao165 t128.length co165] 29 (0, 0)) (by (with_reducible repeat (first | refine blk_drewN ?_ _ | refine blk_drew ?_ | refine blk_alloc ?_ _));refine blk_put (cs := #[.int .i64 t125, .int .i64 t126, .int .i64 t127, .slice none 0 0]) ?_ 3 _ rfl;(with_reducible repeat (first | refine blk_drewN ?_ _ | refine blk_drew ?_ | refine blk_alloc ?_ _));refine blk_put (cs := #[.int .i64 t125, .int .i64 t126, .int .i64 0, .slice none 0 0]) ?_ 2 _ rfl;(with_reducible repeat (first | refine blk_drewN ?_ _ | refine blk_drew ?_ | refine blk_alloc ?_ _));refine blk_put (cs := #[.int .i64 t125, .int .i64 0, .int .i64 0, .slice none 0 0]) ?_ 1 _ rfl;(with_reducible repeat (first | refine blk_drewN ?_ _ | refine blk_drew ?_ | refine blk_alloc ?_ _));refine blk_put (cs := #[.int .i64 0, .int .i64 0, .int .i64 0, .slice none 0 0]) ?_ 0 _ rfl;(with_reducible repeat (first | refine blk_drewN ?_ _ | refine blk_drew ?_ | refine blk_alloc ?_ _));exact BK131.out) hb);have n8_ := Aside0.mk (below_step (by repeat (first | (with_reducible first | exact HB.out | apply below_alloc | apply pw_below_drewN | apply below_drew1 | refine below_set ?_ GE101.out | refine below_set ?_ GE102.out | refine below_set ?_ GE124.out | refine below_set ?_ GE131.out) | exact HB.out)) hb);clear HO110;clear HO116;clear HO123;clear HO130;clear BK101;clear BK102;clear BK124;clear BK131;clear HB;have HO110 := n0_;have HO116 := n1_;have HO123 := n2_;have HO130 := n3_;have BK101 := n4_;have BK102 := n5_;have BK124 := n6_;have BK131 := n7_;have HB := n8_;clear n0_ n1_ n2_ n3_ n4_ n5_ n6_ n7_ n8_;(try clear hb);(try clear hb2);(try clear hk);(try clear hi)))
     have n0_ := Aside0.mk (Kd.R_drew HO110.out)
     have n1_ := Aside0.mk (Kd.R_drew HO116.out)
     have n2_ := Aside0.mk (Kd.R_drew HO123.out)
     have n3_ := Aside0.mk (Kd.R_drew HO130.out)
     have n4_ := Aside0.mk (blk_drew BK101.out)
     have n5_ := Aside0.mk (blk_drew BK102.out)
     have n6_ := Aside0.mk (blk_drew BK124.out)
     have n7_ := Aside0.mk (blk_drew BK131.out)
     have n8_ := Aside0.mk (below_drew1 HB.out)
     clear HO110
     clear HO116
     clear HO123
     clear HO130
     clear BK101
     clear BK102
     clear BK124
     clear BK131
     clear HB
     have HO110 := n0_
     have HO116 := n1_
     have HO123 := n2_
     have HO130 := n3_
     have BK101 := n4_
     have BK102 := n5_
     have BK124 := n6_
     have BK131 := n7_
     have HB := n8_
     clear n0_ n1_ n2_ n3_ n4_ n5_ n6_ n7_ n8_
     refine start_ (n := 5) (S := fun w' => w'.cell? ⟨gb124, 0, none⟩ = some (.int .i64 t118) ∧ w'.cell? ⟨gb124, 1, none⟩ = some (.int .i64 t119) ∧ w'.cell? ⟨gb124, 2, none⟩ = some (.int .i64 t120) ∧ w'.cell? ⟨gb124, 3, none⟩ = some (.slice Ao157 t121.length co157) ∧ w'.cell? ⟨gb101, 0, none⟩ = some (.int .i64 a0_0) ∧ w'.cell? ⟨gb101, 1, none⟩ = some (.int .i64 a0_1) ∧ w'.cell? ⟨gb101, 2, none⟩ = some (.int .i64 a0_2) ∧ w'.cell? ⟨gb101, 3, none⟩ = some (.slice A0_3 l0_3.length c0_3)) (ds := []) #[false, false, false, false, false] (by kernel_rfl) rfl rfl ⟨(blk_cell BK124.out 0).trans rfl, (blk_cell BK124.out 1).trans rfl, (blk_cell BK124.out 2).trans rfl, (blk_cell BK124.out 3).trans rfl, (blk_cell BK101.out 0).trans rfl, (blk_cell BK101.out 1).trans rfl, (blk_cell BK101.out 2).trans rfl, (blk_cell BK101.out 3).trans rfl⟩ (fun hHeld => ?_)
     generalize w167.drew = w168 at HO110 HO116 HO123 HO130 BK101 BK102 BK124 BK131 HB hHeld ⊢
     refine take_ (i := 0) (N := some 35) (v := ?_) (a' := ?_) #[true, false, false, false, false] rfl rfl (by kernel_rfl) (fun _ _ _ h => h) (Or.inl ⟨by rfl, ?_⟩) hHeld ?_ ?_
     rotate_left
     ·rintro w' ⟨s0, s1, s2, s3, s4, s5, s6, s7⟩
      go_simp
      with_reducible rfl
     rotate_left
     ·simp only [Act.put, List.setIfInBounds_toArray, List.set_cons_zero, List.set_cons_succ, i64_w, i32_w]
      rfl
     refine take_ (i := 1) (N := some 36) (v := ?_) (a' := ?_) #[true, true, false, false, false] rfl rfl (by kernel_rfl) (fun _ _ _ h => h) (Or.inl ⟨by rfl, ?_⟩) hHeld ?_ ?_
     rotate_left
     ·rintro w' ⟨s0, s1, s2, s3, s4, s5, s6, s7⟩
      go_simp
      with_reducible rfl
     rotate_left
     ·simp only [Act.put, List.setIfInBounds_toArray, List.set_cons_zero, List.set_cons_succ, i64_w, i32_w]
      rfl
     refine one_ (i := 2) (N := some 37) #[true, true, true, false, false] rfl rfl (by kernel_rfl) (by decide) (fun K hK => ?_)
     refine goes_ Try.func10 (by kernel_rfl) rfl #[.agg #[.int .i64 a0_0, .int .i64 a0_1, .int .i64 a0_2, .slice A0_3 l0_3.length c0_3]] (by rfl) rfl rfl (by (try simp only [List.map_toArray, List.map_cons, List.map_nil]);first | done | rfl | (simp only [List.length_drop, List.length_take];rfl)) ?_
     with_reducible refine (laws_toEx.calls k a0_0 a0_1 a0_2 _ _ l0_3 t133 t134 t135 t136 _ ?side1 ?side2 A56.out).mono ?_
     (case side1 => repeat (first | exact (Kd.C_below HR0_3.out HB.out) | (with_reducible refine Kd.C_alloc ?_ _) | (with_reducible refine Kd.C_drewN ?_ _) | (with_reducible refine Kd.C_drew ?_)))
     (case side2 => exact HC0_3.out)
     rintro e w169 ⟨v137, rfl, ho0, hb⟩
     refine ⟨_, rfl, ?_⟩
     have n0_ := Aside0.mk (Kd.R_elder' (by (with_reducible repeat (first | apply Kd.R_alloc | apply Kd.R_drewN | apply Kd.R_drew));exact HO110.out) (Kd.R_base ho0) hb)
     have n1_ := Aside0.mk (Kd.R_elder' (by (with_reducible repeat (first | apply Kd.R_alloc | apply Kd.R_drewN | apply Kd.R_drew));exact HO116.out) (Kd.R_base ho0) hb)
     have n2_ := Aside0.mk (Kd.R_elder' (by (with_reducible repeat (first | apply Kd.R_alloc | apply Kd.R_drewN | apply Kd.R_drew));exact HO123.out) (Kd.R_base ho0) hb)
     have n3_ := Aside0.mk (Kd.R_elder' (by (with_reducible repeat (first | apply Kd.R_alloc | apply Kd.R_drewN | apply Kd.R_drew));exact HO130.out) (Kd.R_base ho0) hb)
     have n4_ := Aside0.mk (Kd.R_lower (Kd.R_newB (Kd.R_newB (Kd.R_new' (Kd.R_new' (Kd.R_new' (Kd.R_new' ho0 (Kd.R_lt (by (with_reducible repeat (first | apply Kd.R_alloc | apply Kd.R_drewN | apply Kd.R_drew));exact HO110.out))) (Kd.R_lt (by (with_reducible repeat (first | apply Kd.R_alloc | apply Kd.R_drewN | apply Kd.R_drew));exact HO116.out))) (Kd.R_lt (by (with_reducible repeat (first | apply Kd.R_alloc | apply Kd.R_drewN | apply Kd.R_drew));exact HO123.out))) (Kd.R_lt (by (with_reducible repeat (first | apply Kd.R_alloc | apply Kd.R_drewN | apply Kd.R_drew));exact HO130.out))) BK124.out) BK131.out) (below_size (by exact HB.out)))
     have n5_ := Aside0.mk (blk_below BK101.out hb)
     have n6_ := Aside0.mk (blk_below BK102.out hb)
     have n7_ := Aside0.mk (blk_below BK124.out hb)
     have n8_ := Aside0.mk (blk_below BK131.out hb)
     have n9_ := Aside0.mk (below_step (by exact HB.out) hb)
     clear HO110
     clear HO116
     clear HO123
     clear HO130
     clear BK101
     clear BK102
     clear BK124
     clear BK131
     clear HB
     have HO110 := n0_
     have HO116 := n1_
     have HO123 := n2_
     have HO130 := n3_
     have HO138 := n4_
     have BK101 := n5_
     have BK102 := n6_
     have BK124 := n7_
     have BK131 := n8_
     have HB := n9_
     clear n0_ n1_ n2_ n3_ n4_ n5_ n6_ n7_ n8_ n9_
     (try clear hb)
     (try clear hb2)
     (try clear hk)
     (try clear hi)
     (try clear ho0)
     obtain ⟨Ao170, co170, eo170⟩ := Kd.R_slice HO138.out
     (first | subst eo170 | (injection eo170 with f1_ f2_ f3_;have f4_ := f1_.symm;have f5_ := f3_.symm;clear f1_ f2_ f3_;subst f4_;subst f5_))
     refine hK.out _ _ ⟨(blk_cell BK124.out 0).trans rfl, (blk_cell BK124.out 1).trans rfl, (blk_cell BK124.out 2).trans rfl, (blk_cell BK124.out 3).trans rfl, (blk_cell BK101.out 0).trans rfl, (blk_cell BK101.out 1).trans rfl, (blk_cell BK101.out 2).trans rfl, (blk_cell BK101.out 3).trans rfl⟩ (fun hHeld => ?_)
     clear hK K
     refine norm_ (a' := ?_) ?_ ?_
     rotate_left
     ·show Act.put _ (some 37) _ = _
      simp only [Act.put, List.setIfInBounds_toArray, List.set_cons_zero, List.set_cons_succ, i64_w, i32_w]
      rfl
     refine one_ (i := 3) (N := some 38) #[true, true, true, true, false] rfl rfl (by kernel_rfl) (by decide) (fun K hK => ?_)
     refine goes_ Try.func12 (by kernel_rfl) rfl #[.agg #[.int .i64 t118, .int .i64 t119, .int .i64 t120, .slice Ao157 t121.length co157], .agg #[.int .i64 t133, .int .i64 t134, .int .i64 t135, .slice Ao170 t136.length co170]] (by rfl) rfl rfl (by (try simp only [List.map_toArray, List.map_cons, List.map_nil]);first | done | rfl | (simp only [List.length_drop, List.length_take];rfl)) ?_
     with_reducible refine (laws_eqEx.calls k t118 t119 t120 _ _ t121 t133 t134 t135 _ _ t136 false _ ?side1 ?side2 ?side3 ?side4 A57.out).mono ?_
     (case side1 => repeat (first | exact (Kd.R_reads' HO123.out).2.2 | (with_reducible refine Kd.C_alloc ?_ _) | (with_reducible refine Kd.C_drewN ?_ _) | (with_reducible refine Kd.C_drew ?_)))
     (case side2 => exact (Kd.R_reads' HO123.out).2.1)
     (case side3 => repeat (first | exact (Kd.R_reads' HO138.out).2.2 | (with_reducible refine Kd.C_alloc ?_ _) | (with_reducible refine Kd.C_drewN ?_ _) | (with_reducible refine Kd.C_drew ?_)))
     (case side4 => exact (Kd.R_reads' HO138.out).2.1)
     rintro e w171 ⟨rfl, hb⟩
     refine ⟨_, rfl, ?_⟩
     have n0_ := Aside0.mk (Kd.R_below (by (with_reducible repeat (first | apply Kd.R_alloc | apply Kd.R_drewN | apply Kd.R_drew));exact HO110.out) hb)
     have n1_ := Aside0.mk (Kd.R_below (by (with_reducible repeat (first | apply Kd.R_alloc | apply Kd.R_drewN | apply Kd.R_drew));exact HO116.out) hb)
     have n2_ := Aside0.mk (Kd.R_below (by (with_reducible repeat (first | apply Kd.R_alloc | apply Kd.R_drewN | apply Kd.R_drew));exact HO123.out) hb)
     have n3_ := Aside0.mk (Kd.R_below (by (with_reducible repeat (first | apply Kd.R_alloc | apply Kd.R_drewN | apply Kd.R_drew));exact HO130.out) hb)
     have n4_ := Aside0.mk (Kd.R_below (by (with_reducible repeat (first | apply Kd.R_alloc | apply Kd.R_drewN | apply Kd.R_drew));exact HO138.out) hb)
     have n5_ := Aside0.mk (blk_below BK101.out hb)
     have n6_ := Aside0.mk (blk_below BK102.out hb)
     have n7_ := Aside0.mk (blk_below BK124.out hb)
     have n8_ := Aside0.mk (blk_below BK131.out hb)
     have n9_ := Aside0.mk (below_step (by exact HB.out) hb)
     clear HO110
     clear HO116
     clear HO123
     clear HO130
     clear HO138
     clear BK101
     clear BK102
     clear BK124
     clear BK131
     clear HB
     have HO110 := n0_
     have HO116 := n1_
     have HO123 := n2_
     have HO130 := n3_
     have HO138 := n4_
     have BK101 := n5_
     have BK102 := n6_
     have BK124 := n7_
     have BK131 := n8_
     have HB := n9_
     clear n0_ n1_ n2_ n3_ n4_ n5_ n6_ n7_ n8_ n9_
     (try clear hb)
     (try clear hb2)
     (try clear hk)
     (try clear hi)
     refine hK.out _ _ ⟨(blk_cell BK124.out 0).trans rfl, (blk_cell BK124.out 1).trans rfl, (blk_cell BK124.out 2).trans rfl, (blk_cell BK124.out 3).trans rfl, (blk_cell BK101.out 0).trans rfl, (blk_cell BK101.out 1).trans rfl, (blk_cell BK101.out 2).trans rfl, (blk_cell BK101.out 3).trans rfl⟩ (fun hHeld => ?_)
     clear hK K
     refine norm_ (a' := ?_) ?_ ?_
     rotate_left
     ·show Act.put _ (some 38) _ = _
      simp only [Act.put, List.setIfInBounds_toArray, List.set_cons_zero, List.set_cons_succ, i64_w, i32_w]
      rfl
     refine pure_ (i := 4) (N := some 39) (v := ?_) (a' := ?_) #[true, true, true, true, true] rfl rfl (by kernel_rfl) (fun _ _ _ h => h) (Or.inl ⟨by rfl, ?_⟩) ?_ ?_
     rotate_left
     ·intro w'
      go_simp
      with_reducible rfl
     rotate_left
     ·simp only [Act.put, List.setIfInBounds_toArray, List.set_cons_zero, List.set_cons_succ, i64_w, i32_w]
      rfl
     refine done_ (by kernel_rfl) ?_
     try go_wp2
     go_ret
     exact ⟨by first | rfl | (simp [errW_none, errW_some] <;> rfl) | (simp [*, errW_none, errW_some] <;> rfl), by repeat (first | (with_reducible first | exact HB.out | apply below_alloc | apply pw_below_drewN | apply below_drew1 | refine below_set ?_ GE101.out | refine below_set ?_ GE102.out | refine below_set ?_ GE124.out | refine below_set ?_ GE131.out) | exact HB.out)⟩

end Go.Proofs.Ytbcdfbiggjfmlaa.M
namespace Go.Proofs.Ytbcdfbiggjfmlaa.M
set_option linter.unusedVariables false
set_option linter.unusedSimpArgs false
open Go.RowKit Go.Proofs.YtbcdfbiggjfmlaaW.PrintWords Go.Proofs.YtbcdfbiggjfmlaaW.PrintLast

theorem w_small {i : Int} (h0 : -9223372036854775808 ≤ i) (h1 : i ≤ 9223372036854775807) : wrap64 i = i := by
  unfold wrap64
  omega
theorem w_succ {n : Nat} (h : n < 9223372036854775807) : wrap64 ((n : Int) + 1) = ((n + 1 : Nat) : Int) := by
  unfold wrap64
  omega
theorem drop_at {α : Type} (xs : List α) (z : α) (n : Nat) (h : n < xs.length) : xs.drop n = xs.getD n z :: xs.drop (n + 1) := by
  rw [List.drop_eq_getElem_cons h, List.getD_eq_getElem?_getD, List.getElem?_eq_getElem h]
  rfl
theorem Ev.one {α : Type} {g : Nat → Option α} {r : α} (h : ∀ k, g k = some r) : Ev g r := ⟨0, fun k _ => h k⟩
theorem Ev.last {α : Type} {g : Nat → Option α} {r : α} (h : ∀ k, g (k + 1) = some r) : Ev g r := Ev.step (f := fun _ => some r) h (Ev.now r)
theorem Ev.bindS {α β : Type} {g : Nat → Option α} {f : α → Option β} {a : α} {r : β} (h : Ev g a) (k : f a = some r) : Ev (fun n => (g n).bind f) r := Ev.bind (f := fun _ => f) h (Ev.one (fun _ => k))
theorem bind_some' {α β : Type} {a : Option α} {x : α} {f : α → Option β} {r : Option β} (h : a = some x) (k : f x = r) : a.bind f = r := by rw [h]; exact k
theorem Ev.pos {α : Type} {c : Prop} [Decidable c] {g f : Nat → Option α} {r : α} (h : c) (k : Ev g r) : Ev (fun n => if c then g n else f n) r := Ev.congr (fun _ => if_pos h) k
theorem Ev.neg {α : Type} {c : Prop} [Decidable c] {g f : Nat → Option α} {r : α} (h : ¬ c) (k : Ev f r) : Ev (fun n => if c then g n else f n) r := Ev.congr (fun _ => if_neg h) k
theorem Ev.val {α : Type} {g : Nat → Option α} {r r' : α} (h : Ev g r) (e : r = r') : Ev g r' := e ▸ h
theorem Ev.uniq {α : Type} {g : Nat → Option α} {r r' : α} (h : Ev g r) (h' : Ev g r') : r = r' := by
  obtain ⟨K, h⟩ := h
  obtain ⟨K', h'⟩ := h'
  have h1 := h (max K K') (by omega)
  have h2 := h' (max K K') (by omega)
  rw [h1] at h2
  exact Option.some.inj h2
theorem take_set {α : Type} (xs : List α) (n : Nat) (v : α) (h : n < xs.length) : (xs.set n v).take (n + 1) = xs.take n ++ [v] := by
  rw [List.take_succ_eq_append_getElem (by simpa using h), List.getElem_set_self, List.take_set_of_le (Nat.le_refl n)]
theorem filter_snoc {α : Type} (p : α → Bool) (xs : List α) (x : α) : (xs ++ [x]).filter p = xs.filter p ++ if p x then [x] else [] := by
  rw [List.filter_append]
  by_cases h : p x = true
  · simp [h]
  · simp [h]
theorem if_false' {α : Type} {a b : α} : (if false = true then a else b) = b := if_neg (by decide)
theorem if_true' {α : Type} {a b : α} : (if true = true then a else b) = a := if_pos rfl
end Go.Proofs.Ytbcdfbiggjfmlaa.M
namespace Go.Proofs.Ytbcdfbiggjfmlaa.M
set_option linter.unusedVariables false
set_option linter.unusedSimpArgs false
open Go.RowKit Go.Proofs.YtbcdfbiggjfmlaaW.PrintWords Go.Proofs.YtbcdfbiggjfmlaaW.PrintLast

theorem maxLen_le {n : Nat} (h : n ≤ maxLen) : n ≤ 9223372036854775807 := by unfold maxLen at h; omega
theorem indL {P : S24 → Prop} (h : ∀ x, (∀ y ∈ x.f3, P y) → P x) : ∀ x, P x := by
  have key : ∀ n, ∀ x : S24, SizeOf.sizeOf x ≤ n → P x := by
    intro n
    induction n with
    | zero => intro x hx; cases x; simp at hx
    | succ n ih =>
      intro x hx
      refine h x (fun y hy => ih y ?_)
      have := List.sizeOf_lt_of_mem hy
      cases x
      simp at *
      omega
  exact fun x => key _ x (Nat.le_refl _)
theorem indI {P : S29 → Prop} (h : ∀ x, (∀ y ∈ x.f3, P y) → P x) : ∀ x, P x := by
  have key : ∀ n, ∀ x : S29, SizeOf.sizeOf x ≤ n → P x := by
    intro n
    induction n with
    | zero => intro x hx; cases x; simp at hx
    | succ n ih =>
      intro x hx
      refine h x (fun y hy => ih y ?_)
      have := List.sizeOf_lt_of_mem hy
      cases x
      simp at *
      omega
  exact fun x => key _ x (Nat.le_refl _)

mutual
def allX : S24 → Nat
  | ⟨_, _, _, l⟩ => l.length + kidsX l
def kidsX : List S24 → Nat
  | [] => 0
  | x :: xs => allX x + kidsX xs
end
theorem allX_is (x : S24) : allX x = x.f3.length + kidsX x.f3 := by cases x; simp [allX]
theorem kidsX_cons (x : S24) (l : List S24) : kidsX (x :: l) = allX x + kidsX l := by simp [kidsX]
theorem kidsX_nil : kidsX [] = 0 := by simp [kidsX]
def leftOf (a : Int) (n : Nat) : Int := if (n : Int) ≤ a then a - n else -1
theorem leftOf_neg {a : Int} {n : Nat} (h : ¬ (n : Int) ≤ a) : leftOf a n = -1 := if_neg h
theorem leftOf_pos {a : Int} {n : Nat} (h : (n : Int) ≤ a) : leftOf a n = a - n := if_pos h

def SzOk (x : S24) : Prop := ∀ a : Int, 0 ≤ a → a ≤ 1048576 → Ev (fun k => laws_szEx.f k x.f0 x.f1 x.f2 x.f3 a) (leftOf a (allX x))
theorem szExS_l0_ev (l : List S24) (hl : l.length ≤ 9223372036854775807) (hs : ∀ x ∈ l, SzOk x) : ∀ (d n : Nat) (a : Int), n + d = l.length → 0 ≤ a → a ≤ 1048576 → Ev (fun k => laws_szExS.l0 k l a (n : Int)) (leftOf a (kidsX (l.drop n))) := by
  intro d
  induction d with
  | zero =>
    intro n a hn h0 h1
    rw [List.drop_of_length_le (by omega), kidsX_nil, leftOf_pos (by omega)]
    exact Ev.last (fun k => by simp only [laws_szExS.l0]; rw [if_neg (by omega)]; simp)
  | succ d ih =>
    intro n a hn h0 h1
    have hr : rd_T24 l (n : Int) = l.getD n z24 := rfl
    have hx : SzOk (l.getD n z24) := by
      rw [List.getD_eq_getElem?_getD, List.getElem?_eq_getElem (by omega)]
      exact hs _ (List.getElem_mem _)
    rw [drop_at l z24 n (by omega)]
    refine Ev.step (fun k => by simp only [laws_szExS.l0]; rw [if_pos (by omega), if_pos (by omega), hr, w_succ (by omega)]) ?_
    generalize l.getD n z24 = x at *
    refine Ev.bind (hx a h0 h1) ?_
    rw [kidsX_cons]
    by_cases h : (allX x : Int) ≤ a
    · rw [leftOf_pos h]
      refine Ev.neg (by omega) (Ev.val (ih (n + 1) (a - allX x) (by omega) (by omega) (by omega)) ?_)
      unfold leftOf
      by_cases h2 : ((kidsX (l.drop (n + 1)) : Nat) : Int) ≤ a - allX x
      · rw [if_pos h2, if_pos (by omega)]
        omega
      · rw [if_neg h2, if_neg (by omega)]
    · rw [leftOf_neg h, leftOf_neg (by omega)]
      exact Ev.pos (by omega) (Ev.now _)
theorem szEx_ev : ∀ x : S24, good24 x → SzOk x := by
  refine indL (fun x ih g a h0 h1 => ?_)
  have hl := maxLen_le g.fields.2.2.2.1
  have hk : ∀ y ∈ x.f3, SzOk y := fun y hy => ih y hy (g.fields.2.2.2.2 y hy)
  have hS : Ev (fun k => laws_szExS.f k x.f3 a) (leftOf a (allX x)) := by
    rw [allX_is]
    have hw : wrap64 (a - (x.f3.length : Int)) = a - x.f3.length := w_small (by omega) (by omega)
    refine Ev.step (fun k => by simp only [laws_szExS.f]; rw [hw]) ?_
    by_cases h : (x.f3.length : Int) ≤ a
    · refine Ev.neg (by omega) (Ev.val (szExS_l0_ev x.f3 hl hk x.f3.length 0 (a - x.f3.length) (by omega) (by omega) (by omega)) ?_)
      rw [List.drop_zero]
      unfold leftOf
      by_cases h2 : ((kidsX x.f3 : Nat) : Int) ≤ a - x.f3.length
      · rw [if_pos h2, if_pos (by omega)]
        omega
      · rw [if_neg h2, if_neg (by omega)]
    · rw [leftOf_neg (by omega)]
      exact Ev.pos (by omega) (Ev.now _)
  refine Ev.step (fun k => by simp only [laws_szEx.f]; rfl) (Ev.bind hS ?_)
  by_cases h : (allX x : Int) ≤ a
  · rw [leftOf_pos h]
    exact Ev.neg (by omega) (Ev.now _)
  · rw [leftOf_neg h]
    exact Ev.pos (by omega) (Ev.now _)

mutual
def cvX : S24 → S29
  | ⟨a, b, c, l⟩ => ⟨a, b, c, cvXs l⟩
def cvXs : List S24 → List S29
  | [] => []
  | x :: xs => cvX x :: cvXs xs
end
theorem cvXs_map (l : List S24) : cvXs l = l.map cvX := by
  induction l with
  | nil => simp [cvXs]
  | cons x l ih => simp [cvXs, ih]
theorem cvX_f0 (x : S24) : (cvX x).f0 = x.f0 := by cases x; simp [cvX]
theorem cvX_f1 (x : S24) : (cvX x).f1 = x.f1 := by cases x; simp [cvX]
theorem cvX_f2 (x : S24) : (cvX x).f2 = x.f2 := by cases x; simp [cvX]
theorem cvX_f3 (x : S24) : (cvX x).f3 = x.f3.map cvX := by cases x; simp [cvX, cvXs_map]
theorem kidsX_mem {l : List S24} {x : S24} (h : x ∈ l) : allX x ≤ kidsX l := by
  induction l with
  | nil => simp at h
  | cons y l ih =>
    rw [kidsX_cons]
    rcases List.mem_cons.1 h with rfl | h
    · omega
    · have := ih h
      omega
theorem allX_mem {x y : S24} (h : y ∈ x.f3) : allX y + 1 ≤ allX x := by
  have := kidsX_mem h
  have h2 := List.length_pos_of_mem h
  rw [allX_is x]
  omega
def ToOk (x : S24) : Prop := Ev (fun k => laws_toEx.f k x.f0 x.f1 x.f2 x.f3) ((cvX x).f0, (cvX x).f1, (cvX x).f2, (cvX x).f3)
theorem toExS_l0_ev (l : List S24) (hl : l.length ≤ 1048576) (hs : ∀ x ∈ l, ToOk x) : ∀ (d n : Nat) (m : List S29), n + d = l.length → m.length = l.length → m.take n = (l.take n).map cvX → Ev (fun k => laws_toExS.l0 k l m (n : Int)) (l.map cvX) := by
  intro d
  induction d with
  | zero =>
    intro n m hn hm ht
    refine Ev.last (fun k => by simp only [laws_toExS.l0]; rw [if_neg (by omega)]; rw [List.take_of_length_le (by omega), List.take_of_length_le (by omega)] at ht; rw [ht])
  | succ d ih =>
    intro n m hn hm ht
    have hr : rd_T24 l (n : Int) = l.getD n z24 := rfl
    have hn' : n < l.length := by omega
    have hg : l.getD n z24 = l[n] := by rw [List.getD_eq_getElem?_getD, List.getElem?_eq_getElem hn']; rfl
    have hx : ToOk (l.getD n z24) := by
      rw [hg]
      exact hs _ (List.getElem_mem _)
    refine Ev.step (fun k => by simp only [laws_toExS.l0]; rw [if_pos (by omega), if_pos (by omega), hr, w_succ (by omega)]) ?_
    refine Ev.bind hx ?_
    refine Ev.pos (by omega) ?_
    refine ih (n + 1) _ (by omega) (by simp [hm]) ?_
    rw [Int.toNat_natCast, take_set _ _ _ (by omega), ht, List.take_succ_eq_append_getElem hn', List.map_append, hg]
    show _ ++ [(⟨(cvX l[n]).f0, (cvX l[n]).f1, (cvX l[n]).f2, (cvX l[n]).f3⟩ : S29)] = _ ++ [cvX l[n]]
    cases cvX l[n]
    rfl
theorem toEx_ev : ∀ x : S24, allX x ≤ 1048576 → ToOk x := by
  refine indL (fun x ih g => ?_)
  have hk : ∀ y ∈ x.f3, ToOk y := fun y hy => ih y hy (by have := allX_mem hy; omega)
  have hl : x.f3.length ≤ 1048576 := by rw [allX_is] at g; omega
  have hS : Ev (fun k => laws_toExS.f k x.f3) (x.f3.map cvX) := by
    refine Ev.step (fun k => by simp only [laws_toExS.f]; rw [if_pos (by omega), if_pos (by omega), Int.toNat_natCast]) ?_
    exact toExS_l0_ev x.f3 hl hk x.f3.length 0 _ (by omega) (by simp) (by simp)
  unfold ToOk
  rw [cvX_f0, cvX_f1, cvX_f2, cvX_f3]
  exact Ev.step (fun k => by simp only [laws_toEx.f]; rfl) (Ev.bindS hS rfl)

mutual
def allY : S29 → Nat
  | ⟨_, _, _, l⟩ => l.length + kidsY l
def kidsY : List S29 → Nat
  | [] => 0
  | x :: xs => allY x + kidsY xs
end
theorem allY_is (x : S29) : allY x = x.f3.length + kidsY x.f3 := by cases x; simp [allY]
theorem kidsY_cons (x : S29) (l : List S29) : kidsY (x :: l) = allY x + kidsY l := by simp [kidsY]
theorem kidsY_nil : kidsY [] = 0 := by simp [kidsY]
theorem kidsY_mem {l : List S29} {x : S29} (h : x ∈ l) : allY x ≤ kidsY l := by
  induction l with
  | nil => simp at h
  | cons y l ih =>
    rw [kidsY_cons]
    rcases List.mem_cons.1 h with rfl | h
    · omega
    · have := ih h
      omega
theorem allY_mem {x y : S29} (h : y ∈ x.f3) : allY y + 1 ≤ allY x := by
  have := kidsY_mem h
  have h2 := List.length_pos_of_mem h
  rw [allY_is x]
  omega
theorem allY_len {x : S29} : x.f3.length ≤ allY x := by rw [allY_is]; omega
theorem kidsY_map (l : List S24) (h : ∀ x ∈ l, allY (cvX x) = allX x) : kidsY (l.map cvX) = kidsX l := by
  induction l with
  | nil => simp [kidsX_nil, kidsY_nil]
  | cons x l ih =>
    rw [List.map_cons, kidsX_cons, kidsY_cons, h x (by simp), ih (fun y hy => h y (by simp [hy]))]
theorem allY_cv : ∀ x : S24, allY (cvX x) = allX x := by
  refine indL (fun x ih => ?_)
  rw [allY_is, allX_is, cvX_f3, kidsY_map _ ih, List.length_map]
theorem rdI (l : List S29) (n : Nat) (h : n < l.length) : rd_T29 l (n : Int) = l[n] := by
  show l.getD n z29 = _
  rw [List.getD_eq_getElem?_getD, List.getElem?_eq_getElem h]
  rfl

def EqOk (x : S29) : Prop := Ev (fun k => laws_eqEx.f k x.f0 x.f1 x.f2 x.f3 x.f0 x.f1 x.f2 x.f3) true
theorem eqExS_l0_ev (l : List S29) (hl : l.length ≤ 1048576) (hs : ∀ x ∈ l, EqOk x) : ∀ (d n : Nat), n + d = l.length → Ev (fun k => laws_eqExS.l0 k l l (n : Int)) true := by
  intro d
  induction d with
  | zero =>
    intro n hn
    exact Ev.last (fun k => by simp only [laws_eqExS.l0]; rw [if_neg (by omega)])
  | succ d ih =>
    intro n hn
    have hx : EqOk l[n] := hs _ (List.getElem_mem _)
    refine Ev.step (fun k => by simp only [laws_eqExS.l0]; rw [if_pos (by omega), if_pos (by omega), if_pos (by omega), rdI l n (by omega), w_succ (by omega)]) ?_
    exact Ev.bind hx (Ev.pos rfl (ih (n + 1) (by omega)))
theorem eqEx_ev : ∀ x : S29, allY x ≤ 1048576 → EqOk x := by
  refine indI (fun x ih g => ?_)
  have hk : ∀ y ∈ x.f3, EqOk y := fun y hy => ih y hy (by have := allY_mem hy; omega)
  have hl : x.f3.length ≤ 1048576 := by have := allY_len (x := x); omega
  have hS : Ev (fun k => laws_eqExS.f k x.f3 x.f3) true := by
    refine Ev.step (fun k => by simp only [laws_eqExS.f]; rw [if_pos trivial]) ?_
    exact eqExS_l0_ev x.f3 hl hk x.f3.length 0 (by omega)
  unfold EqOk
  refine Ev.step (fun k => by simp only [laws_eqEx.f]; rw [if_pos trivial, if_pos trivial, if_pos trivial]) ?_
  exact Ev.bindS hS rfl
end Go.Proofs.Ytbcdfbiggjfmlaa.M
namespace Go.Proofs.Ytbcdfbiggjfmlaa.M
set_option linter.unusedVariables false
set_option linter.unusedSimpArgs false
open Go.RowKit Go.Proofs.YtbcdfbiggjfmlaaW.PrintWords Go.Proofs.YtbcdfbiggjfmlaaW.PrintLast

def SameOk (a : S29) : Prop := ∀ b : S29, ∃ r, Ev (fun k => spec_ExSame.f k a.f0 a.f1 a.f2 a.f3 b.f0 b.f1 b.f2 b.f3) r ∧ Ev (fun k => impl_ExSame.f k a.f0 a.f1 a.f2 a.f3 b.f0 b.f1 b.f2 b.f3) r
theorem same_l0_ev (l m : List S29) (hl : l.length ≤ 1048576) (hm : l.length = m.length) (hs : ∀ x ∈ l, SameOk x) (p q r p' q' r' : Int) : ∀ (d n : Nat), n + d = l.length → ∃ v, Ev (fun k => spec_ExSame.l0 k (n : Int) p q r l p' q' r' m) v ∧ Ev (fun k => impl_Ex_26.l0 k m l (l.length : Int) (n : Int)) v := by
  intro d
  induction d with
  | zero =>
    intro n hn
    exact ⟨true, Ev.last (fun k => by simp only [spec_ExSame.l0]; rw [if_neg (by omega)]), Ev.last (fun k => by simp only [impl_Ex_26.l0]; rw [if_neg (by omega)])⟩
  | succ d ih =>
    intro n hn
    obtain ⟨v, h1, h2⟩ := hs l[n] (List.getElem_mem _) m[n]
    obtain ⟨v', h3, h4⟩ := ih (n + 1) (by omega)
    cases v with
    | true =>
      refine ⟨v', ?_, ?_⟩
      · refine Ev.step (fun k => by simp only [spec_ExSame.l0]; rw [if_pos (by omega), if_pos (by omega), if_pos (by omega), rdI l n (by omega), rdI m n (by omega), w_succ (by omega)]) ?_
        exact Ev.bind h1 (Ev.pos rfl h3)
      · refine Ev.step (fun k => by simp only [impl_Ex_26.l0]; rw [if_pos (by omega), if_pos (by omega), if_pos (by omega), if_pos (by omega), rdI l n (by omega), rdI m n (by omega), w_succ (by omega)]) ?_
        exact Ev.bind h2 (Ev.pos rfl h4)
    | false =>
      refine ⟨false, ?_, ?_⟩
      · refine Ev.step (fun k => by simp only [spec_ExSame.l0]; rw [if_pos (by omega), if_pos (by omega), if_pos (by omega), rdI l n (by omega), rdI m n (by omega), w_succ (by omega)]) ?_
        exact Ev.bind h1 (Ev.neg (by decide) (Ev.now _))
      · refine Ev.step (fun k => by simp only [impl_Ex_26.l0]; rw [if_pos (by omega), if_pos (by omega), if_pos (by omega), if_pos (by omega), rdI l n (by omega), rdI m n (by omega), w_succ (by omega)]) ?_
        exact Ev.bind h2 (Ev.neg (by decide) (Ev.now _))
theorem same_ev : ∀ a : S29, allY a ≤ 1048576 → SameOk a := by
  refine indI (fun x ih g b => ?_)
  have hk : ∀ y ∈ x.f3, SameOk y := fun y hy => ih y hy (by have := allY_mem hy; omega)
  have hl : x.f3.length ≤ 1048576 := by have := allY_len (x := x); omega
  have bad : Ev (fun k => spec_ExSame.j0 k true x.f0 x.f1 x.f2 x.f3 b.f0 b.f1 b.f2 b.f3) false := Ev.last (fun k => by simp only [spec_ExSame.j0]; rw [if_pos trivial])
  by_cases h0 : x.f0 = b.f0
  · by_cases h1 : x.f1 = b.f1
    · by_cases h2 : x.f2 = b.f2
      · by_cases h3 : x.f3.length = b.f3.length
        · obtain ⟨v, hv, hw⟩ := same_l0_ev x.f3 b.f3 hl h3 hk x.f0 x.f1 x.f2 b.f0 b.f1 b.f2 x.f3.length 0 (by omega)
          refine ⟨v, ?_, ?_⟩
          · have hd : ((x.f3.length : Int) != (b.f3.length : Int)) = false := by rw [h3]; simp
            refine Ev.step (fun k => by simp only [spec_ExSame.f]; rw [if_pos h0, if_pos h1, if_pos h2, hd]) ?_
            refine Ev.step (fun k => by simp only [spec_ExSame.j0]; rw [if_neg (by decide)]) ?_
            exact hv
          · refine Ev.step (fun k => by simp only [impl_ExSame.f]; rw [if_pos h0, if_pos h1, if_pos h2]) ?_
            refine Ev.bindS (Ev.step (fun k => by simp only [impl_Ex_26.f]; rw [if_pos (by omega)]; rfl) hw) rfl
        · have hd : ((x.f3.length : Int) != (b.f3.length : Int)) = true := by simp; omega
          refine ⟨false, ?_, ?_⟩
          · refine Ev.step (fun k => by simp only [spec_ExSame.f]; rw [if_pos h0, if_pos h1, if_pos h2, hd]) ?_
            exact bad
          · refine Ev.step (fun k => by simp only [impl_ExSame.f]; rw [if_pos h0, if_pos h1, if_pos h2]) ?_
            refine Ev.bindS (a := false) (Ev.last (fun k => by simp only [impl_Ex_26.f]; rw [if_neg (by omega)])) rfl
      · exact ⟨false, Ev.step (fun k => by simp only [spec_ExSame.f]; rw [if_pos h0, if_pos h1, if_neg h2]) bad, Ev.last (fun k => by simp only [impl_ExSame.f]; rw [if_pos h0, if_pos h1, if_neg h2])⟩
    · exact ⟨false, Ev.step (fun k => by simp only [spec_ExSame.f]; rw [if_pos h0, if_neg h1]) bad, Ev.last (fun k => by simp only [impl_ExSame.f]; rw [if_pos h0, if_neg h1])⟩
  · exact ⟨false, Ev.step (fun k => by simp only [spec_ExSame.f]; rw [if_neg h0]) bad, Ev.last (fun k => by simp only [impl_ExSame.f]; rw [if_neg h0])⟩
end Go.Proofs.Ytbcdfbiggjfmlaa.M
namespace Go.Proofs.Ytbcdfbiggjfmlaa.M
set_option linter.unusedVariables false
set_option linter.unusedSimpArgs false
open Go.RowKit Go.Proofs.YtbcdfbiggjfmlaaW.PrintWords Go.Proofs.YtbcdfbiggjfmlaaW.PrintLast

theorem FnExactExSame_pure (x : S24) (h : good24 x) (y : S24) (g : good24 y) : ∃ k, laws_FnExactExSame.f k x.f0 x.f1 x.f2 x.f3 y.f0 y.f1 y.f2 y.f3 = some true := by
  refine Ev.rounds (g := fun k => laws_FnExactExSame.f k x.f0 x.f1 x.f2 x.f3 y.f0 y.f1 y.f2 y.f3) ?_
  unfold laws_FnExactExSame.f
  refine Ev.bind (szEx_ev x h 1048576 (by omega) (by omega)) ?_
  by_cases hs : ((allX x : Nat) : Int) ≤ 1048576
  · rw [leftOf_pos hs]
    refine Ev.neg (by omega) (Ev.bind (szEx_ev y g _ (by omega) (by omega)) ?_)
    by_cases hs2 : ((allX y : Nat) : Int) ≤ 1048576 - allX x
    · rw [leftOf_pos hs2]
      refine Ev.neg (by omega) ?_
      have tx := toEx_ev x (by omega)
      have ty := toEx_ev y (by omega)
      have ax := allY_cv x
      have ay := allY_cv y
      obtain ⟨v, hv, hw⟩ := same_ev (cvX x) (by omega) (cvX y)
      refine Ev.bind tx (Ev.bind ty (Ev.bind hv (Ev.bind tx (Ev.bind ty (Ev.bind hw (Ev.neg (by simp) ?_))))))
      refine Ev.bind tx (Ev.bind (eqEx_ev (cvX x) (by omega)) (Ev.pos rfl ?_))
      exact Ev.bind ty (Ev.bindS (eqEx_ev (cvX y) (by omega)) rfl)
    · rw [leftOf_neg hs2]
      exact Ev.pos (by omega) (Ev.now _)
  · rw [leftOf_neg hs]
    exact Ev.pos (by omega) (Ev.now _)
end Go.Proofs.Ytbcdfbiggjfmlaa.M
