/- What the claim's law leans on: the program's functions, what they compute, and the law over plain values; no condition is asked. (Part 3 of 4.) -/
import Derived.Test.YtiplpckgmikmeaaCLawsFnExactSpanSame2
namespace Go.Proofs.Ytiplpckgmikmeaa.M
open Go.RowKit Go.Proofs.YtiplpckgmikmeaaW.PrintWords Go.Proofs.YtiplpckgmikmeaaW.PrintLast Go.Proofs.YtiplpckgmikmeaaW.PrintMore
attribute [local go_sem] max2_int min2_int max_two min_two max_three min_three max_four min_four
set_option linter.unusedVariables false
set_option linter.unusedSimpArgs false

def laws_FnExactSpanSame.f (k : Nat) (l0_0 : List (S24)) (l0_1 : List (S24)) (l1_0 : List (S24)) (l1_1 : List (S24)) : Option (Bool) := (laws_szSpan.f k l0_0 l0_1 1048576).bind fun t103 => (if t103 < 0 then (some true) else ((laws_szSpan.f k l1_0 l1_1 t103).bind fun t104 => (if t104 < 0 then (some true) else ((laws_toSpan.f k l0_0 l0_1).bind fun bt105 => ((laws_toSpan.f k l1_0 l1_1).bind fun bt111 => ((spec_SpanSame.f k bt105.1 bt105.2 bt111.1 bt111.2).bind fun t117 => ((laws_toSpan.f k l0_0 l0_1).bind fun bt118 => ((laws_toSpan.f k l1_0 l1_1).bind fun bt125 => ((impl_SpanSame.f k bt118.1 bt118.2 bt125.1 bt125.2).bind fun t132 => (if (t132 != t117) = true then (some false) else ((laws_toSpan.f k l0_0 l0_1).bind fun bt133 => ((laws_eqSpan.f k bt118.1 bt118.2 bt133.1 bt133.2).bind fun t139 => (if t139 = true then ((laws_toSpan.f k l1_0 l1_1).bind fun bt140 => ((laws_eqSpan.f k bt125.1 bt125.2 bt140.1 bt140.2).bind fun t146 => (if t146 = true then (some true) else (some false)))) else (some false))))))))))))))
theorem laws_FnExactSpanSame.mono : ∀ a0 a1 a2 a3 k, LeO (laws_FnExactSpanSame.f k a0 a1 a2 a3) (laws_FnExactSpanSame.f (k + 1) a0 a1 a2 a3) := by
 intro a0 a1 a2 a3 k
 unfold laws_FnExactSpanSame.f
 repeat' first
   | (with_reducible exact impl_SpanSame.mono _ _ _ _ _)
   | (with_reducible exact laws_eqSpan.mono _ _ _ _ _)
   | (with_reducible exact laws_szSpan.mono _ _ _ _)
   | (with_reducible exact laws_toSpan.mono _ _ _)
   | (with_reducible exact spec_SpanSame.mono _ _ _ _ _)
   | (with_reducible exact LeO.refl _)
   | (with_reducible exact LeO.none _)
   | (with_reducible refine LeO.ite ?_ ?_)
   | (with_reducible refine LeO.bind ?_ (fun _ => ?_))
   | exact impl_SpanSame.mono _ _ _ _ _
   | exact laws_eqSpan.mono _ _ _ _ _
   | exact laws_szSpan.mono _ _ _ _
   | exact laws_toSpan.mono _ _ _
   | exact spec_SpanSame.mono _ _ _ _ _
   | exact LeO.none _
   | refine LeO.ite ?_ ?_
   | refine LeO.bind ?_ (fun _ => ?_)
set_option maxHeartbeats 8000000 in
set_option maxRecDepth 100000 in
theorem laws_FnExactSpanSame.calls (k : Nat) (A0_0 : Option Addr) (c0_0 : Nat) (l0_0 : List (S24)) (A0_1 : Option Addr) (c0_1 : Nat) (l0_1 : List (S24)) (A1_0 : Option Addr) (c1_0 : Nat) (l1_0 : List (S24)) (A1_1 : Option Addr) (c1_1 : Nat) (l1_1 : List (S24)) (r : Bool) (w : World) (hr0_0 : Kd.C k24 w A0_0 l0_0.length l0_0) (hc0_0 : l0_0.length ≤ c0_0) (hr0_1 : Kd.C k24 w A0_1 l0_1.length l0_1) (hc0_1 : l0_1.length ≤ c0_1) (hr1_0 : Kd.C k24 w A1_0 l1_0.length l1_0) (hc1_0 : l1_0.length ≤ c1_0) (hr1_1 : Kd.C k24 w A1_1 l1_1.length l1_1) (hc1_1 : l1_1.length ≤ c1_1) (h : laws_FnExactSpanSame.f k l0_0 l0_1 l1_0 l1_1 = some r) :
  Calls Try.prog 7 #[.agg #[.slice A0_0 l0_0.length c0_0, .slice A0_1 l0_1.length c0_1], .agg #[.slice A1_0 l1_0.length c1_0, .slice A1_1 l1_1.length c1_1]] w fun e w' => e = .returned (.bool r) ∧ Below w.heap.size w w' := by
 have hu48 := Try.underlying48
 have hu52 := Try.underlying52
 have HR0_0 := Aside0.mk hr0_0
 have HC0_0 := Aside0.mk hc0_0
 clear hr0_0 hc0_0
 have HR0_1 := Aside0.mk hr0_1
 have HC0_1 := Aside0.mk hc0_1
 clear hr0_1 hc0_1
 have HR1_0 := Aside0.mk hr1_0
 have HC1_0 := Aside0.mk hc1_0
 clear hr1_0 hc1_0
 have HR1_1 := Aside0.mk hr1_1
 have HC1_1 := Aside0.mk hc1_1
 clear hr1_1 hc1_1
 have HB := Aside0.mk (Below.refl w.heap.size w)
 have H : ((laws_szSpan.f k l0_0 l0_1 1048576).bind fun t103 => (if t103 < 0 then (some true) else ((laws_szSpan.f k l1_0 l1_1 t103).bind fun t104 => (if t104 < 0 then (some true) else ((laws_toSpan.f k l0_0 l0_1).bind fun bt105 => ((laws_toSpan.f k l1_0 l1_1).bind fun bt111 => ((spec_SpanSame.f k bt105.1 bt105.2 bt111.1 bt111.2).bind fun t117 => ((laws_toSpan.f k l0_0 l0_1).bind fun bt118 => ((laws_toSpan.f k l1_0 l1_1).bind fun bt125 => ((impl_SpanSame.f k bt118.1 bt118.2 bt125.1 bt125.2).bind fun t132 => (if (t132 != t117) = true then (some false) else ((laws_toSpan.f k l0_0 l0_1).bind fun bt133 => ((laws_eqSpan.f k bt118.1 bt118.2 bt133.1 bt133.2).bind fun t139 => (if t139 = true then ((laws_toSpan.f k l1_0 l1_1).bind fun bt140 => ((laws_eqSpan.f k bt125.1 bt125.2 bt140.1 bt140.2).bind fun t146 => (if t146 = true then (some true) else (some false)))) else (some false))))))))))))))) = some r := h
 clear h
 replace H := Option.bind_eq_some_iff.mp H
 obtain ⟨t103, A30, H⟩ := H
 replace H : (if t103 < 0 then (some true) else ((laws_szSpan.f k l1_0 l1_1 t103).bind fun t104 => (if t104 < 0 then (some true) else ((laws_toSpan.f k l0_0 l0_1).bind fun bt105 => ((laws_toSpan.f k l1_0 l1_1).bind fun bt111 => ((spec_SpanSame.f k bt105.1 bt105.2 bt111.1 bt111.2).bind fun t117 => ((laws_toSpan.f k l0_0 l0_1).bind fun bt118 => ((laws_toSpan.f k l1_0 l1_1).bind fun bt125 => ((impl_SpanSame.f k bt118.1 bt118.2 bt125.1 bt125.2).bind fun t132 => (if (t132 != t117) = true then (some false) else ((laws_toSpan.f k l0_0 l0_1).bind fun bt133 => ((laws_eqSpan.f k bt118.1 bt118.2 bt133.1 bt133.2).bind fun t139 => (if t139 = true then ((laws_toSpan.f k l1_0 l1_1).bind fun bt140 => ((laws_eqSpan.f k bt125.1 bt125.2 bt140.1 bt140.2).bind fun t146 => (if t146 = true then (some true) else (some false)))) else (some false)))))))))))))) = some r := H
 have A3 := Aside0.mk A30
 clear A30
 by_cases c4 : t103 < 0
 ·rw [if_pos c4] at H
  have c4b0 : decide (t103 < 0) = true := decide_eq_true c4
  clear c4
  obtain rfl := Option.some.inj H
  go_enter Try.func7, Try.ntmps7
  go_wp2_with (first | ((with_reducible refine gate_dst (N := 2) rfl ?_);refine box_event ?hg (N := 2) ?hd (cs := #[.slice A0_0 l0_0.length c0_0, .slice A0_1 l0_1.length c0_1]) (t := 48) ?hr ?_;(case hd => rfl);(case hg => rfl);(case hr => first | (go_simp;done) | (go_simp;rfl));intro gb101 hg w5 hbox hb;have n0_ := Aside0.mk (below_step (by exact HB.out) hb);have n1_ := Aside0.mk (hbox);have n2_ := Aside0.mk ((by rw [hg];exact (below_size (by exact HB.out)) : w.heap.size ≤ gb101));have n3_ := Aside0.mk ((by rw [hg];exact (below_size (by exact HB.out)) : w.heap.size ≤ gb101));clear HB;have HB := n0_;have BK101 := n1_;have GW101 := n2_;have GE101 := n3_;clear n0_ n1_ n2_ n3_;clear hb hbox hg) | ((with_reducible refine gate_dst (N := 3) rfl ?_);refine box_event ?hg (N := 3) ?hd (cs := #[.slice A1_0 l1_0.length c1_0, .slice A1_1 l1_1.length c1_1]) (t := 48) ?hr ?_;(case hd => rfl);(case hg => rfl);(case hr => first | (go_simp;done) | (go_simp;rfl));intro gb102 hg w6 hbox hb;have n0_ := Aside0.mk (blk_below BK101.out hb);have n1_ := Aside0.mk (below_step (by exact HB.out) hb);have n2_ := Aside0.mk (hbox);have n3_ := Aside0.mk ((by rw [hg];exact (below_size (by exact HB.out)) : w.heap.size ≤ gb102));have n4_ := Aside0.mk ((by rw [hg];exact (below_size (by exact HB.out)) : w.heap.size ≤ gb102));have n5_ := Aside0.mk ((by rw [hg];exact Nat.ne_of_lt (blk_lt BK101.out) : gb101 ≠ gb102));have n6_ := Aside0.mk ((by rw [hg];exact Nat.ne_of_gt (blk_lt BK101.out) : gb102 ≠ gb101));clear BK101;clear HB;have BK101 := n0_;have HB := n1_;have BK102 := n2_;have GW102 := n3_;have GE102 := n4_;have NB101_102 := n5_;have NB102_101 := n6_;clear n0_ n1_ n2_ n3_ n4_ n5_ n6_;clear hb hbox hg;have hnb7 := NB101_102.out;have hnc7 := NB102_101.out;have hcz8_0 : w6.cell? ⟨gb101, 0, none⟩ = some (.slice A0_0 l0_0.length c0_0) := (blk_cell BK101.out 0).trans rfl;have hcz8_1 : w6.cell? ⟨gb101, 1, none⟩ = some (.slice A0_1 l0_1.length c0_1) := (blk_cell BK101.out 1).trans rfl;have hfz8_0 := blk_frozen BK101.out 0;have hfz8_1 := blk_frozen BK101.out 1) | ((with_reducible refine gate_callee (f := 35) rfl ?_);refine goesL_ (some 12) rfl rfl Try.func35 (by kernel_rfl) rfl #[.agg #[.slice A0_0 l0_0.length c0_0, .slice A0_1 l0_1.length c0_1], .int .i64 1048576] rfl (by (try simp only [List.map_toArray, List.map_cons, List.map_nil]);first | done | rfl | (simp only [List.length_drop, List.length_take];rfl)) ?_;(with_reducible refine (laws_szSpan.calls k _ _ l0_0 _ _ l0_1 1048576 t103 _ ?side1 ?side2 ?side3 ?side4 A3.out).mono ?_);(case side1 => repeat (first | exact (Kd.C_below HR0_0.out HB.out) | (with_reducible refine Kd.C_alloc ?_ _) | (with_reducible refine Kd.C_drewN ?_ _) | (with_reducible refine Kd.C_drew ?_)));(case side2 => exact HC0_0.out);(case side3 => repeat (first | exact (Kd.C_below HR0_1.out HB.out) | (with_reducible refine Kd.C_alloc ?_ _) | (with_reducible refine Kd.C_drewN ?_ _) | (with_reducible refine Kd.C_drew ?_)));(case side4 => exact HC0_1.out);rintro e w9 ⟨rfl, hb⟩;refine ⟨_, rfl, ?_⟩;have n0_ := Aside0.mk (blk_below BK101.out hb);have n1_ := Aside0.mk (blk_below BK102.out hb);have n2_ := Aside0.mk (below_step (by exact HB.out) hb);clear BK101;clear BK102;clear HB;have BK101 := n0_;have BK102 := n1_;have HB := n2_;clear n0_ n1_ n2_;(try clear hb);(try clear hb2);(try clear hk);(try clear hi)))
  go_ret
  exact ⟨by first | rfl | (simp [errW_none, errW_some] <;> rfl) | (simp [*, errW_none, errW_some] <;> rfl), by repeat (first | (with_reducible first | exact HB.out | apply below_alloc | apply pw_below_drewN | apply below_drew1 | refine below_set ?_ GE101.out | refine below_set ?_ GE102.out) | exact HB.out)⟩
 ·rw [if_neg c4] at H
  have c4b0 : decide (t103 < 0) = false := decide_eq_false c4
  clear c4
  replace H := Option.bind_eq_some_iff.mp H
  obtain ⟨t104, A100, H⟩ := H
  replace H : (if t104 < 0 then (some true) else ((laws_toSpan.f k l0_0 l0_1).bind fun bt105 => ((laws_toSpan.f k l1_0 l1_1).bind fun bt111 => ((spec_SpanSame.f k bt105.1 bt105.2 bt111.1 bt111.2).bind fun t117 => ((laws_toSpan.f k l0_0 l0_1).bind fun bt118 => ((laws_toSpan.f k l1_0 l1_1).bind fun bt125 => ((impl_SpanSame.f k bt118.1 bt118.2 bt125.1 bt125.2).bind fun t132 => (if (t132 != t117) = true then (some false) else ((laws_toSpan.f k l0_0 l0_1).bind fun bt133 => ((laws_eqSpan.f k bt118.1 bt118.2 bt133.1 bt133.2).bind fun t139 => (if t139 = true then ((laws_toSpan.f k l1_0 l1_1).bind fun bt140 => ((laws_eqSpan.f k bt125.1 bt125.2 bt140.1 bt140.2).bind fun t146 => (if t146 = true then (some true) else (some false)))) else (some false)))))))))))) = some r := H
  have A10 := Aside0.mk A100
  clear A100
  by_cases c11 : t104 < 0
  ·rw [if_pos c11] at H
   have c11b0 : decide (t104 < 0) = true := decide_eq_true c11
   clear c11
   obtain rfl := Option.some.inj H
   go_enter Try.func7, Try.ntmps7
   go_wp2_with (first | ((with_reducible refine gate_dst (N := 2) rfl ?_);refine box_event ?hg (N := 2) ?hd (cs := #[.slice A0_0 l0_0.length c0_0, .slice A0_1 l0_1.length c0_1]) (t := 48) ?hr ?_;(case hd => rfl);(case hg => rfl);(case hr => first | (go_simp;done) | (go_simp;rfl));intro gb101 hg w12 hbox hb;have n0_ := Aside0.mk (below_step (by exact HB.out) hb);have n1_ := Aside0.mk (hbox);have n2_ := Aside0.mk ((by rw [hg];exact (below_size (by exact HB.out)) : w.heap.size ≤ gb101));have n3_ := Aside0.mk ((by rw [hg];exact (below_size (by exact HB.out)) : w.heap.size ≤ gb101));clear HB;have HB := n0_;have BK101 := n1_;have GW101 := n2_;have GE101 := n3_;clear n0_ n1_ n2_ n3_;clear hb hbox hg) | ((with_reducible refine gate_dst (N := 3) rfl ?_);refine box_event ?hg (N := 3) ?hd (cs := #[.slice A1_0 l1_0.length c1_0, .slice A1_1 l1_1.length c1_1]) (t := 48) ?hr ?_;(case hd => rfl);(case hg => rfl);(case hr => first | (go_simp;done) | (go_simp;rfl));intro gb102 hg w13 hbox hb;have n0_ := Aside0.mk (blk_below BK101.out hb);have n1_ := Aside0.mk (below_step (by exact HB.out) hb);have n2_ := Aside0.mk (hbox);have n3_ := Aside0.mk ((by rw [hg];exact (below_size (by exact HB.out)) : w.heap.size ≤ gb102));have n4_ := Aside0.mk ((by rw [hg];exact (below_size (by exact HB.out)) : w.heap.size ≤ gb102));have n5_ := Aside0.mk ((by rw [hg];exact Nat.ne_of_lt (blk_lt BK101.out) : gb101 ≠ gb102));have n6_ := Aside0.mk ((by rw [hg];exact Nat.ne_of_gt (blk_lt BK101.out) : gb102 ≠ gb101));clear BK101;clear HB;have BK101 := n0_;have HB := n1_;have BK102 := n2_;have GW102 := n3_;have GE102 := n4_;have NB101_102 := n5_;have NB102_101 := n6_;clear n0_ n1_ n2_ n3_ n4_ n5_ n6_;clear hb hbox hg;have hnb14 := NB101_102.out;have hnc14 := NB102_101.out;have hcz15_0 : w13.cell? ⟨gb101, 0, none⟩ = some (.slice A0_0 l0_0.length c0_0) := (blk_cell BK101.out 0).trans rfl;have hcz15_1 : w13.cell? ⟨gb101, 1, none⟩ = some (.slice A0_1 l0_1.length c0_1) := (blk_cell BK101.out 1).trans rfl;have hfz15_0 := blk_frozen BK101.out 0;have hfz15_1 := blk_frozen BK101.out 1) | ((with_reducible refine gate_callee (f := 35) rfl ?_);refine goesL_ (some 12) rfl rfl Try.func35 (by kernel_rfl) rfl #[.agg #[.slice A0_0 l0_0.length c0_0, .slice A0_1 l0_1.length c0_1], .int .i64 1048576] rfl (by (try simp only [List.map_toArray, List.map_cons, List.map_nil]);first | done | rfl | (simp only [List.length_drop, List.length_take];rfl)) ?_;(with_reducible refine (laws_szSpan.calls k _ _ l0_0 _ _ l0_1 1048576 t103 _ ?side1 ?side2 ?side3 ?side4 A3.out).mono ?_);(case side1 => repeat (first | exact (Kd.C_below HR0_0.out HB.out) | (with_reducible refine Kd.C_alloc ?_ _) | (with_reducible refine Kd.C_drewN ?_ _) | (with_reducible refine Kd.C_drew ?_)));(case side2 => exact HC0_0.out);(case side3 => repeat (first | exact (Kd.C_below HR0_1.out HB.out) | (with_reducible refine Kd.C_alloc ?_ _) | (with_reducible refine Kd.C_drewN ?_ _) | (with_reducible refine Kd.C_drew ?_)));(case side4 => exact HC0_1.out);rintro e w16 ⟨rfl, hb⟩;refine ⟨_, rfl, ?_⟩;have n0_ := Aside0.mk (blk_below BK101.out hb);have n1_ := Aside0.mk (blk_below BK102.out hb);have n2_ := Aside0.mk (below_step (by exact HB.out) hb);clear BK101;clear BK102;clear HB;have BK101 := n0_;have BK102 := n1_;have HB := n2_;clear n0_ n1_ n2_;(try clear hb);(try clear hb2);(try clear hk);(try clear hi);have hcz17_0 : w16.cell? ⟨gb102, 0, none⟩ = some (.slice A1_0 l1_0.length c1_0) := (blk_cell BK102.out 0).trans rfl;have hcz17_1 : w16.cell? ⟨gb102, 1, none⟩ = some (.slice A1_1 l1_1.length c1_1) := (blk_cell BK102.out 1).trans rfl;have hfz17_0 := blk_frozen BK102.out 0;have hfz17_1 := blk_frozen BK102.out 1) | ((with_reducible refine gate_callee (f := 35) rfl ?_);refine goesL_ (some 17) rfl rfl Try.func35 (by kernel_rfl) rfl #[.agg #[.slice A1_0 l1_0.length c1_0, .slice A1_1 l1_1.length c1_1], .int .i64 t103] rfl (by (try simp only [List.map_toArray, List.map_cons, List.map_nil]);first | done | rfl | (simp only [List.length_drop, List.length_take];rfl)) ?_;(with_reducible refine (laws_szSpan.calls k _ _ l1_0 _ _ l1_1 t103 t104 _ ?side1 ?side2 ?side3 ?side4 A10.out).mono ?_);(case side1 => repeat (first | exact (Kd.C_below HR1_0.out HB.out) | (with_reducible refine Kd.C_alloc ?_ _) | (with_reducible refine Kd.C_drewN ?_ _) | (with_reducible refine Kd.C_drew ?_)));(case side2 => exact HC1_0.out);(case side3 => repeat (first | exact (Kd.C_below HR1_1.out HB.out) | (with_reducible refine Kd.C_alloc ?_ _) | (with_reducible refine Kd.C_drewN ?_ _) | (with_reducible refine Kd.C_drew ?_)));(case side4 => exact HC1_1.out);rintro e w18 ⟨rfl, hb⟩;refine ⟨_, rfl, ?_⟩;have n0_ := Aside0.mk (blk_below BK101.out hb);have n1_ := Aside0.mk (blk_below BK102.out hb);have n2_ := Aside0.mk (below_step (by exact HB.out) hb);clear BK101;clear BK102;clear HB;have BK101 := n0_;have BK102 := n1_;have HB := n2_;clear n0_ n1_ n2_;(try clear hb);(try clear hb2);(try clear hk);(try clear hi)))
   go_ret
   exact ⟨by first | rfl | (simp [errW_none, errW_some] <;> rfl) | (simp [*, errW_none, errW_some] <;> rfl), by repeat (first | (with_reducible first | exact HB.out | apply below_alloc | apply pw_below_drewN | apply below_drew1 | refine below_set ?_ GE101.out | refine below_set ?_ GE102.out) | exact HB.out)⟩
  ·rw [if_neg c11] at H
   have c11b0 : decide (t104 < 0) = false := decide_eq_false c11
   clear c11
   replace H := Option.bind_eq_some_iff.mp H
   obtain ⟨⟨t105, t108⟩, A190, H⟩ := H
   replace H : ((laws_toSpan.f k l1_0 l1_1).bind fun bt111 => ((spec_SpanSame.f k t105 t108 bt111.1 bt111.2).bind fun t117 => ((laws_toSpan.f k l0_0 l0_1).bind fun bt118 => ((laws_toSpan.f k l1_0 l1_1).bind fun bt125 => ((impl_SpanSame.f k bt118.1 bt118.2 bt125.1 bt125.2).bind fun t132 => (if (t132 != t117) = true then (some false) else ((laws_toSpan.f k l0_0 l0_1).bind fun bt133 => ((laws_eqSpan.f k bt118.1 bt118.2 bt133.1 bt133.2).bind fun t139 => (if t139 = true then ((laws_toSpan.f k l1_0 l1_1).bind fun bt140 => ((laws_eqSpan.f k bt125.1 bt125.2 bt140.1 bt140.2).bind fun t146 => (if t146 = true then (some true) else (some false)))) else (some false)))))))))) = some r := H
   have A19 := Aside0.mk A190
   clear A190
   replace H := Option.bind_eq_some_iff.mp H
   obtain ⟨⟨t111, t114⟩, A200, H⟩ := H
   replace H : ((spec_SpanSame.f k t105 t108 t111 t114).bind fun t117 => ((laws_toSpan.f k l0_0 l0_1).bind fun bt118 => ((laws_toSpan.f k l1_0 l1_1).bind fun bt125 => ((impl_SpanSame.f k bt118.1 bt118.2 bt125.1 bt125.2).bind fun t132 => (if (t132 != t117) = true then (some false) else ((laws_toSpan.f k l0_0 l0_1).bind fun bt133 => ((laws_eqSpan.f k bt118.1 bt118.2 bt133.1 bt133.2).bind fun t139 => (if t139 = true then ((laws_toSpan.f k l1_0 l1_1).bind fun bt140 => ((laws_eqSpan.f k bt125.1 bt125.2 bt140.1 bt140.2).bind fun t146 => (if t146 = true then (some true) else (some false)))) else (some false))))))))) = some r := H
   have A20 := Aside0.mk A200
   clear A200
   replace H := Option.bind_eq_some_iff.mp H
   obtain ⟨t117, A210, H⟩ := H
   replace H : ((laws_toSpan.f k l0_0 l0_1).bind fun bt118 => ((laws_toSpan.f k l1_0 l1_1).bind fun bt125 => ((impl_SpanSame.f k bt118.1 bt118.2 bt125.1 bt125.2).bind fun t132 => (if (t132 != t117) = true then (some false) else ((laws_toSpan.f k l0_0 l0_1).bind fun bt133 => ((laws_eqSpan.f k bt118.1 bt118.2 bt133.1 bt133.2).bind fun t139 => (if t139 = true then ((laws_toSpan.f k l1_0 l1_1).bind fun bt140 => ((laws_eqSpan.f k bt125.1 bt125.2 bt140.1 bt140.2).bind fun t146 => (if t146 = true then (some true) else (some false)))) else (some false)))))))) = some r := H
   have A21 := Aside0.mk A210
   clear A210
   replace H := Option.bind_eq_some_iff.mp H
   obtain ⟨⟨t118, t121⟩, A220, H⟩ := H
   replace H : ((laws_toSpan.f k l1_0 l1_1).bind fun bt125 => ((impl_SpanSame.f k t118 t121 bt125.1 bt125.2).bind fun t132 => (if (t132 != t117) = true then (some false) else ((laws_toSpan.f k l0_0 l0_1).bind fun bt133 => ((laws_eqSpan.f k t118 t121 bt133.1 bt133.2).bind fun t139 => (if t139 = true then ((laws_toSpan.f k l1_0 l1_1).bind fun bt140 => ((laws_eqSpan.f k bt125.1 bt125.2 bt140.1 bt140.2).bind fun t146 => (if t146 = true then (some true) else (some false)))) else (some false))))))) = some r := H
   have A22 := Aside0.mk A220
   clear A220
   replace H := Option.bind_eq_some_iff.mp H
   obtain ⟨⟨t125, t128⟩, A230, H⟩ := H
   replace H : ((impl_SpanSame.f k t118 t121 t125 t128).bind fun t132 => (if (t132 != t117) = true then (some false) else ((laws_toSpan.f k l0_0 l0_1).bind fun bt133 => ((laws_eqSpan.f k t118 t121 bt133.1 bt133.2).bind fun t139 => (if t139 = true then ((laws_toSpan.f k l1_0 l1_1).bind fun bt140 => ((laws_eqSpan.f k t125 t128 bt140.1 bt140.2).bind fun t146 => (if t146 = true then (some true) else (some false)))) else (some false)))))) = some r := H
   have A23 := Aside0.mk A230
   clear A230
   replace H := Option.bind_eq_some_iff.mp H
   obtain ⟨t132, A240, H⟩ := H
   replace H : (if (t132 != t117) = true then (some false) else ((laws_toSpan.f k l0_0 l0_1).bind fun bt133 => ((laws_eqSpan.f k t118 t121 bt133.1 bt133.2).bind fun t139 => (if t139 = true then ((laws_toSpan.f k l1_0 l1_1).bind fun bt140 => ((laws_eqSpan.f k t125 t128 bt140.1 bt140.2).bind fun t146 => (if t146 = true then (some true) else (some false)))) else (some false))))) = some r := H
   have A24 := Aside0.mk A240
   clear A240
   by_cases c25 : (t132 != t117) = true
   ·rw [if_pos c25] at H
    have c25b0 : (t132 != t117) = true := c25
    (try (have c25b1 : decide (t132 = t117) = false := by simpa using c25))
    (try (have c25b2 : (t132 == t117) = false := by simpa using c25))
    (try (have c25b3 : ¬ (t132 = t117) := by simpa using c25))
    clear c25
    obtain rfl := Option.some.inj H
    go_enter Try.func7, Try.ntmps7
    try go_wp2_with (first | ((with_reducible refine gate_dst (N := 2) rfl ?_);refine box_event ?hg (N := 2) ?hd (cs := #[.slice A0_0 l0_0.length c0_0, .slice A0_1 l0_1.length c0_1]) (t := 48) ?hr ?_;(case hd => rfl);(case hg => rfl);(case hr => first | (go_simp;done) | (go_simp;rfl));intro gb101 hg w26 hbox hb;have n0_ := Aside0.mk (below_step (by exact HB.out) hb);have n1_ := Aside0.mk (hbox);have n2_ := Aside0.mk ((by rw [hg];exact (below_size (by exact HB.out)) : w.heap.size ≤ gb101));have n3_ := Aside0.mk ((by rw [hg];exact (below_size (by exact HB.out)) : w.heap.size ≤ gb101));clear HB;have HB := n0_;have BK101 := n1_;have GW101 := n2_;have GE101 := n3_;clear n0_ n1_ n2_ n3_;clear hb hbox hg) | ((with_reducible refine gate_dst (N := 3) rfl ?_);refine box_event ?hg (N := 3) ?hd (cs := #[.slice A1_0 l1_0.length c1_0, .slice A1_1 l1_1.length c1_1]) (t := 48) ?hr ?_;(case hd => rfl);(case hg => rfl);(case hr => first | (go_simp;done) | (go_simp;rfl));intro gb102 hg w27 hbox hb;have n0_ := Aside0.mk (blk_below BK101.out hb);have n1_ := Aside0.mk (below_step (by exact HB.out) hb);have n2_ := Aside0.mk (hbox);have n3_ := Aside0.mk ((by rw [hg];exact (below_size (by exact HB.out)) : w.heap.size ≤ gb102));have n4_ := Aside0.mk ((by rw [hg];exact (below_size (by exact HB.out)) : w.heap.size ≤ gb102));have n5_ := Aside0.mk ((by rw [hg];exact Nat.ne_of_lt (blk_lt BK101.out) : gb101 ≠ gb102));have n6_ := Aside0.mk ((by rw [hg];exact Nat.ne_of_gt (blk_lt BK101.out) : gb102 ≠ gb101));clear BK101;clear HB;have BK101 := n0_;have HB := n1_;have BK102 := n2_;have GW102 := n3_;have GE102 := n4_;have NB101_102 := n5_;have NB102_101 := n6_;clear n0_ n1_ n2_ n3_ n4_ n5_ n6_;clear hb hbox hg;have hnb28 := NB101_102.out;have hnc28 := NB102_101.out;have hcz29_0 : w27.cell? ⟨gb101, 0, none⟩ = some (.slice A0_0 l0_0.length c0_0) := (blk_cell BK101.out 0).trans rfl;have hcz29_1 : w27.cell? ⟨gb101, 1, none⟩ = some (.slice A0_1 l0_1.length c0_1) := (blk_cell BK101.out 1).trans rfl;have hfz29_0 := blk_frozen BK101.out 0;have hfz29_1 := blk_frozen BK101.out 1) | ((with_reducible refine gate_callee (f := 35) rfl ?_);refine goesL_ (some 12) rfl rfl Try.func35 (by kernel_rfl) rfl #[.agg #[.slice A0_0 l0_0.length c0_0, .slice A0_1 l0_1.length c0_1], .int .i64 1048576] rfl (by (try simp only [List.map_toArray, List.map_cons, List.map_nil]);first | done | rfl | (simp only [List.length_drop, List.length_take];rfl)) ?_;(with_reducible refine (laws_szSpan.calls k _ _ l0_0 _ _ l0_1 1048576 t103 _ ?side1 ?side2 ?side3 ?side4 A3.out).mono ?_);(case side1 => repeat (first | exact (Kd.C_below HR0_0.out HB.out) | (with_reducible refine Kd.C_alloc ?_ _) | (with_reducible refine Kd.C_drewN ?_ _) | (with_reducible refine Kd.C_drew ?_)));(case side2 => exact HC0_0.out);(case side3 => repeat (first | exact (Kd.C_below HR0_1.out HB.out) | (with_reducible refine Kd.C_alloc ?_ _) | (with_reducible refine Kd.C_drewN ?_ _) | (with_reducible refine Kd.C_drew ?_)));(case side4 => exact HC0_1.out);rintro e w30 ⟨rfl, hb⟩;refine ⟨_, rfl, ?_⟩;have n0_ := Aside0.mk (blk_below BK101.out hb);have n1_ := Aside0.mk (blk_below BK102.out hb);have n2_ := Aside0.mk (below_step (by exact HB.out) hb);clear BK101;clear BK102;clear HB;have BK101 := n0_;have BK102 := n1_;have HB := n2_;clear n0_ n1_ n2_;(try clear hb);(try clear hb2);(try clear hk);(try clear hi);have hcz31_0 : w30.cell? ⟨gb102, 0, none⟩ = some (.slice A1_0 l1_0.length c1_0) := (blk_cell BK102.out 0).trans rfl;have hcz31_1 : w30.cell? ⟨gb102, 1, none⟩ = some (.slice A1_1 l1_1.length c1_1) := (blk_cell BK102.out 1).trans rfl;have hfz31_0 := blk_frozen BK102.out 0;have hfz31_1 := blk_frozen BK102.out 1) | ((with_reducible refine gate_callee (f := 35) rfl ?_);refine goesL_ (some 17) rfl rfl Try.func35 (by kernel_rfl) rfl #[.agg #[.slice A1_0 l1_0.length c1_0, .slice A1_1 l1_1.length c1_1], .int .i64 t103] rfl (by (try simp only [List.map_toArray, List.map_cons, List.map_nil]);first | done | rfl | (simp only [List.length_drop, List.length_take];rfl)) ?_;(with_reducible refine (laws_szSpan.calls k _ _ l1_0 _ _ l1_1 t103 t104 _ ?side1 ?side2 ?side3 ?side4 A10.out).mono ?_);(case side1 => repeat (first | exact (Kd.C_below HR1_0.out HB.out) | (with_reducible refine Kd.C_alloc ?_ _) | (with_reducible refine Kd.C_drewN ?_ _) | (with_reducible refine Kd.C_drew ?_)));(case side2 => exact HC1_0.out);(case side3 => repeat (first | exact (Kd.C_below HR1_1.out HB.out) | (with_reducible refine Kd.C_alloc ?_ _) | (with_reducible refine Kd.C_drewN ?_ _) | (with_reducible refine Kd.C_drew ?_)));(case side4 => exact HC1_1.out);rintro e w32 ⟨rfl, hb⟩;refine ⟨_, rfl, ?_⟩;have n0_ := Aside0.mk (blk_below BK101.out hb);have n1_ := Aside0.mk (blk_below BK102.out hb);have n2_ := Aside0.mk (below_step (by exact HB.out) hb);clear BK101;clear BK102;clear HB;have BK101 := n0_;have BK102 := n1_;have HB := n2_;clear n0_ n1_ n2_;(try clear hb);(try clear hb2);(try clear hk);(try clear hi)))
    have n0_ := Aside0.mk (blk_drew BK101.out)
    have n1_ := Aside0.mk (blk_drew BK102.out)
    have n2_ := Aside0.mk (below_drew1 HB.out)
    clear BK101
    clear BK102
    clear HB
    have BK101 := n0_
    have BK102 := n1_
    have HB := n2_
    clear n0_ n1_ n2_
    refine start_ (n := 6) (S := fun w' => w'.cell? ⟨gb101, 0, none⟩ = some (.slice A0_0 l0_0.length c0_0) ∧ w'.cell? ⟨gb101, 1, none⟩ = some (.slice A0_1 l0_1.length c0_1) ∧ w'.cell? ⟨gb102, 0, none⟩ = some (.slice A1_0 l1_0.length c1_0) ∧ w'.cell? ⟨gb102, 1, none⟩ = some (.slice A1_1 l1_1.length c1_1)) (ds := []) #[false, false, false, false, false, false] (by kernel_rfl) rfl rfl ⟨(blk_cell BK101.out 0).trans rfl, (blk_cell BK101.out 1).trans rfl, (blk_cell BK102.out 0).trans rfl, (blk_cell BK102.out 1).trans rfl⟩ (fun hHeld => ?_)
    generalize w32.drew = w33 at BK101 BK102 HB hHeld ⊢
    refine take_ (i := 0) (N := some 20) (v := ?_) (a' := ?_) #[true, false, false, false, false, false] rfl rfl (by kernel_rfl) (fun _ _ _ h => h) (Or.inl ⟨by rfl, ?_⟩) hHeld ?_ ?_
    rotate_left
    ·rintro w' ⟨s0, s1, s2, s3⟩
     go_simp
     with_reducible rfl
    rotate_left
    ·simp only [Act.put, List.setIfInBounds_toArray, List.set_cons_zero, List.set_cons_succ, i64_w, i32_w]
     rfl
    refine take_ (i := 2) (N := some 22) (v := ?_) (a' := ?_) #[true, false, true, false, false, false] rfl rfl (by kernel_rfl) (fun _ _ _ h => h) (Or.inl ⟨by rfl, ?_⟩) hHeld ?_ ?_
    rotate_left
    ·rintro w' ⟨s0, s1, s2, s3⟩
     go_simp
     with_reducible rfl
    rotate_left
    ·simp only [Act.put, List.setIfInBounds_toArray, List.set_cons_zero, List.set_cons_succ, i64_w, i32_w]
     rfl
    refine one_ (i := 1) (N := some 21) #[true, true, true, false, false, false] rfl rfl (by kernel_rfl) (by decide) (fun K hK => ?_)
    refine goes_ Try.func37 (by kernel_rfl) rfl #[.agg #[.slice A0_0 l0_0.length c0_0, .slice A0_1 l0_1.length c0_1]] (by rfl) rfl rfl (by (try simp only [List.map_toArray, List.map_cons, List.map_nil]);first | done | rfl | (simp only [List.length_drop, List.length_take];rfl)) ?_
    with_reducible refine (laws_toSpan.calls k _ _ l0_0 _ _ l0_1 t105 t108 _ ?side1 ?side2 ?side3 ?side4 A19.out).mono ?_
    (case side1 => repeat (first | exact (Kd.C_below HR0_0.out HB.out) | (with_reducible refine Kd.C_alloc ?_ _) | (with_reducible refine Kd.C_drewN ?_ _) | (with_reducible refine Kd.C_drew ?_)))
    (case side2 => exact HC0_0.out)
    (case side3 => repeat (first | exact (Kd.C_below HR0_1.out HB.out) | (with_reducible refine Kd.C_alloc ?_ _) | (with_reducible refine Kd.C_drewN ?_ _) | (with_reducible refine Kd.C_drew ?_)))
    (case side4 => exact HC0_1.out)
    rintro e w34 ⟨v106, v109, rfl, ho0, ho1, hb⟩
    refine ⟨_, rfl, ?_⟩
    have n0_ := Aside0.mk (Kd.S_lower ho0 (below_size (by exact HB.out)))
    have n1_ := Aside0.mk (Kd.S_lower ho1 (below_size (by exact HB.out)))
    have n2_ := Aside0.mk (blk_below BK101.out hb)
    have n3_ := Aside0.mk (blk_below BK102.out hb)
    have n4_ := Aside0.mk (below_step (by exact HB.out) hb)
    clear BK101
    clear BK102
    clear HB
    have HO107 := n0_
    have HO110 := n1_
    have BK101 := n2_
    have BK102 := n3_
    have HB := n4_
    clear n0_ n1_ n2_ n3_ n4_
    (try clear hb)
    (try clear hb2)
    (try clear hk)
    (try clear hi)
    (try clear ho0)
    (try clear ho1)
    refine hK.out _ _ ⟨(blk_cell BK101.out 0).trans rfl, (blk_cell BK101.out 1).trans rfl, (blk_cell BK102.out 0).trans rfl, (blk_cell BK102.out 1).trans rfl⟩ (fun hHeld => ?_)
    clear hK K
    refine norm_ (a' := ?_) ?_ ?_
    rotate_left
    ·show Act.put _ (some 21) _ = _
     simp only [Act.put, List.setIfInBounds_toArray, List.set_cons_zero, List.set_cons_succ, i64_w, i32_w]
     rfl
    refine one_ (i := 3) (N := some 23) #[true, true, true, true, false, false] rfl rfl (by kernel_rfl) (by decide) (fun K hK => ?_)
    refine goes_ Try.func37 (by kernel_rfl) rfl #[.agg #[.slice A1_0 l1_0.length c1_0, .slice A1_1 l1_1.length c1_1]] (by rfl) rfl rfl (by (try simp only [List.map_toArray, List.map_cons, List.map_nil]);first | done | rfl | (simp only [List.length_drop, List.length_take];rfl)) ?_
    with_reducible refine (laws_toSpan.calls k _ _ l1_0 _ _ l1_1 t111 t114 _ ?side1 ?side2 ?side3 ?side4 A20.out).mono ?_
    (case side1 => repeat (first | exact (Kd.C_below HR1_0.out HB.out) | (with_reducible refine Kd.C_alloc ?_ _) | (with_reducible refine Kd.C_drewN ?_ _) | (with_reducible refine Kd.C_drew ?_)))
    (case side2 => exact HC1_0.out)
    (case side3 => repeat (first | exact (Kd.C_below HR1_1.out HB.out) | (with_reducible refine Kd.C_alloc ?_ _) | (with_reducible refine Kd.C_drewN ?_ _) | (with_reducible refine Kd.C_drew ?_)))
    (case side4 => exact HC1_1.out)
    rintro e w35 ⟨v112, v115, rfl, ho0, ho1, hb⟩
    refine ⟨_, rfl, ?_⟩
    have n0_ := Aside0.mk (Kd.S_mono (Kd.S_told (Kd.S_told (Kd.S_old (by exact HO107.out) hb) (Kd.S_base ho0)) (Kd.S_base ho1)) (fun _ h_ => h_.1))
    have n1_ := Aside0.mk (Kd.S_mono (Kd.S_told (Kd.S_told (Kd.S_old (by exact HO110.out) hb) (Kd.S_base ho0)) (Kd.S_base ho1)) (fun _ h_ => h_.1))
    have n2_ := Aside0.mk (Kd.S_lower (Kd.S_new' (Kd.S_new' ho0 (Kd.S_lt (by exact HO107.out))) (Kd.S_lt (by exact HO110.out))) (below_size (by exact HB.out)))
    have n3_ := Aside0.mk (Kd.S_lower (Kd.S_new' (Kd.S_new' ho1 (Kd.S_lt (by exact HO107.out))) (Kd.S_lt (by exact HO110.out))) (below_size (by exact HB.out)))
    have n4_ := Aside0.mk (blk_below BK101.out hb)
    have n5_ := Aside0.mk (blk_below BK102.out hb)
    have n6_ := Aside0.mk (below_step (by exact HB.out) hb)
    clear HO107
    clear HO110
    clear BK101
    clear BK102
    clear HB
    have HO107 := n0_
    have HO110 := n1_
    have HO113 := n2_
    have HO116 := n3_
    have BK101 := n4_
    have BK102 := n5_
    have HB := n6_
    clear n0_ n1_ n2_ n3_ n4_ n5_ n6_
    (try clear hb)
    (try clear hb2)
    (try clear hk)
    (try clear hi)
    (try clear ho0)
    (try clear ho1)
    obtain ⟨Ao36, co36, eo36⟩ := Kd.S_slice HO107.out
    (first | subst eo36 | (injection eo36 with f1_ f2_ f3_;have f4_ := f1_.symm;have f5_ := f3_.symm;clear f1_ f2_ f3_;subst f4_;subst f5_))
    obtain ⟨Ao37, co37, eo37⟩ := Kd.S_slice HO110.out
    (first | subst eo37 | (injection eo37 with f1_ f2_ f3_;have f4_ := f1_.symm;have f5_ := f3_.symm;clear f1_ f2_ f3_;subst f4_;subst f5_))
    obtain ⟨Ao38, co38, eo38⟩ := Kd.S_slice HO113.out
    (first | subst eo38 | (injection eo38 with f1_ f2_ f3_;have f4_ := f1_.symm;have f5_ := f3_.symm;clear f1_ f2_ f3_;subst f4_;subst f5_))
    obtain ⟨Ao39, co39, eo39⟩ := Kd.S_slice HO116.out
    (first | subst eo39 | (injection eo39 with f1_ f2_ f3_;have f4_ := f1_.symm;have f5_ := f3_.symm;clear f1_ f2_ f3_;subst f4_;subst f5_))
    refine hK.out _ _ ⟨(blk_cell BK101.out 0).trans rfl, (blk_cell BK101.out 1).trans rfl, (blk_cell BK102.out 0).trans rfl, (blk_cell BK102.out 1).trans rfl⟩ (fun hHeld => ?_)
    clear hK K
    refine norm_ (a' := ?_) ?_ ?_
    rotate_left
    ·show Act.put _ (some 23) _ = _
     simp only [Act.put, List.setIfInBounds_toArray, List.set_cons_zero, List.set_cons_succ, i64_w, i32_w]
     rfl
    refine one_ (i := 4) (N := some 24) #[true, true, true, true, true, false] rfl rfl (by kernel_rfl) (by decide) (fun K hK => ?_)
    refine goes_ Try.func36 (by kernel_rfl) rfl #[.agg #[.slice Ao36 t105.length co36, .slice Ao37 t108.length co37], .agg #[.slice Ao38 t111.length co38, .slice Ao39 t114.length co39]] (by rfl) rfl rfl (by (try simp only [List.map_toArray, List.map_cons, List.map_nil]);first | done | rfl | (simp only [List.length_drop, List.length_take];rfl)) ?_
    with_reducible refine (spec_SpanSame.calls k _ _ t105 _ _ t108 _ _ t111 _ _ t114 t117 _ ?side1 ?side2 ?side3 ?side4 ?side5 ?side6 ?side7 ?side8 A21.out).mono ?_
    (case side1 => repeat (first | exact (Kd.S_reads' HO107.out).2.2 | (with_reducible refine Kd.C_alloc ?_ _) | (with_reducible refine Kd.C_drewN ?_ _) | (with_reducible refine Kd.C_drew ?_)))
    (case side2 => exact (Kd.S_reads' HO107.out).2.1)
    (case side3 => repeat (first | exact (Kd.S_reads' HO110.out).2.2 | (with_reducible refine Kd.C_alloc ?_ _) | (with_reducible refine Kd.C_drewN ?_ _) | (with_reducible refine Kd.C_drew ?_)))
    (case side4 => exact (Kd.S_reads' HO110.out).2.1)
    (case side5 => repeat (first | exact (Kd.S_reads' HO113.out).2.2 | (with_reducible refine Kd.C_alloc ?_ _) | (with_reducible refine Kd.C_drewN ?_ _) | (with_reducible refine Kd.C_drew ?_)))
    (case side6 => exact (Kd.S_reads' HO113.out).2.1)
    (case side7 => repeat (first | exact (Kd.S_reads' HO116.out).2.2 | (with_reducible refine Kd.C_alloc ?_ _) | (with_reducible refine Kd.C_drewN ?_ _) | (with_reducible refine Kd.C_drew ?_)))
    (case side8 => exact (Kd.S_reads' HO116.out).2.1)
    rintro e w40 ⟨rfl, hb⟩
    refine ⟨_, rfl, ?_⟩
    have n0_ := Aside0.mk (Kd.S_below (by exact HO107.out) hb)
    have n1_ := Aside0.mk (Kd.S_below (by exact HO110.out) hb)
    have n2_ := Aside0.mk (Kd.S_below (by exact HO113.out) hb)
    have n3_ := Aside0.mk (Kd.S_below (by exact HO116.out) hb)
    have n4_ := Aside0.mk (blk_below BK101.out hb)
    have n5_ := Aside0.mk (blk_below BK102.out hb)
    have n6_ := Aside0.mk (below_step (by exact HB.out) hb)
    clear HO107
    clear HO110
    clear HO113
    clear HO116
    clear BK101
    clear BK102
    clear HB
    have HO107 := n0_
    have HO110 := n1_
    have HO113 := n2_
    have HO116 := n3_
    have BK101 := n4_
    have BK102 := n5_
    have HB := n6_
    clear n0_ n1_ n2_ n3_ n4_ n5_ n6_
    (try clear hb)
    (try clear hb2)
    (try clear hk)
    (try clear hi)
    refine hK.out _ _ ⟨(blk_cell BK101.out 0).trans rfl, (blk_cell BK101.out 1).trans rfl, (blk_cell BK102.out 0).trans rfl, (blk_cell BK102.out 1).trans rfl⟩ (fun hHeld => ?_)
    clear hK K
    refine norm_ (a' := ?_) ?_ ?_
    rotate_left
    ·show Act.put _ (some 24) _ = _
     simp only [Act.put, List.setIfInBounds_toArray, List.set_cons_zero, List.set_cons_succ, i64_w, i32_w]
     rfl
    refine pure_ (i := 5) (N := some 6) (v := ?_) (a' := ?_) #[true, true, true, true, true, true] rfl rfl (by kernel_rfl) (fun _ _ _ h => h) (Or.inl ⟨by rfl, ?_⟩) ?_ ?_
    rotate_left
    ·intro w'
     go_simp
     with_reducible rfl
    rotate_left
    ·simp only [Act.put, List.setIfInBounds_toArray, List.set_cons_zero, List.set_cons_succ, i64_w, i32_w]
     rfl
    refine done_ (by kernel_rfl) ?_
    have hcz41_0 : w40.cell? ⟨gb101, 0, none⟩ = some (.slice A0_0 l0_0.length c0_0) := (blk_cell BK101.out 0).trans rfl
    have hcz41_1 : w40.cell? ⟨gb101, 1, none⟩ = some (.slice A0_1 l0_1.length c0_1) := (blk_cell BK101.out 1).trans rfl
    have hfz41_0 := blk_frozen BK101.out 0
    have hfz41_1 := blk_frozen BK101.out 1
    try go_wp2_with (first | ((with_reducible refine gate_callee (f := 37) rfl ?_);refine goesL_ (some 26) rfl rfl Try.func37 (by kernel_rfl) rfl #[.agg #[.slice A0_0 l0_0.length c0_0, .slice A0_1 l0_1.length c0_1]] rfl (by (try simp only [List.map_toArray, List.map_cons, List.map_nil]);first | done | rfl | (simp only [List.length_drop, List.length_take];rfl)) ?_;(with_reducible refine (laws_toSpan.calls k _ _ l0_0 _ _ l0_1 t118 t121 _ ?side1 ?side2 ?side3 ?side4 A22.out).mono ?_);(case side1 => repeat (first | exact (Kd.C_below HR0_0.out HB.out) | (with_reducible refine Kd.C_alloc ?_ _) | (with_reducible refine Kd.C_drewN ?_ _) | (with_reducible refine Kd.C_drew ?_)));(case side2 => exact HC0_0.out);(case side3 => repeat (first | exact (Kd.C_below HR0_1.out HB.out) | (with_reducible refine Kd.C_alloc ?_ _) | (with_reducible refine Kd.C_drewN ?_ _) | (with_reducible refine Kd.C_drew ?_)));(case side4 => exact HC0_1.out);rintro e w42 ⟨v119, v122, rfl, ho0, ho1, hb⟩;refine ⟨_, rfl, ?_⟩;have n0_ := Aside0.mk (Kd.S_mono (Kd.S_told (Kd.S_told (Kd.S_old (by exact HO107.out) hb) (Kd.S_base ho0)) (Kd.S_base ho1)) (fun _ h_ => h_.1));have n1_ := Aside0.mk (Kd.S_mono (Kd.S_told (Kd.S_told (Kd.S_old (by exact HO110.out) hb) (Kd.S_base ho0)) (Kd.S_base ho1)) (fun _ h_ => h_.1));have n2_ := Aside0.mk (Kd.S_mono (Kd.S_told (Kd.S_told (Kd.S_old (by exact HO113.out) hb) (Kd.S_base ho0)) (Kd.S_base ho1)) (fun _ h_ => h_.1));have n3_ := Aside0.mk (Kd.S_mono (Kd.S_told (Kd.S_told (Kd.S_old (by exact HO116.out) hb) (Kd.S_base ho0)) (Kd.S_base ho1)) (fun _ h_ => h_.1));have n4_ := Aside0.mk (Kd.S_lower (Kd.S_new' (Kd.S_new' (Kd.S_new' (Kd.S_new' ho0 (Kd.S_lt (by exact HO107.out))) (Kd.S_lt (by exact HO110.out))) (Kd.S_lt (by exact HO113.out))) (Kd.S_lt (by exact HO116.out))) (below_size (by repeat (first | (with_reducible first | exact HB.out | apply below_alloc | apply pw_below_drewN | apply below_drew1 | refine below_set ?_ GE101.out | refine below_set ?_ GE102.out) | exact HB.out))));have n5_ := Aside0.mk (Kd.S_lower (Kd.S_new' (Kd.S_new' (Kd.S_new' (Kd.S_new' ho1 (Kd.S_lt (by exact HO107.out))) (Kd.S_lt (by exact HO110.out))) (Kd.S_lt (by exact HO113.out))) (Kd.S_lt (by exact HO116.out))) (below_size (by repeat (first | (with_reducible first | exact HB.out | apply below_alloc | apply pw_below_drewN | apply below_drew1 | refine below_set ?_ GE101.out | refine below_set ?_ GE102.out) | exact HB.out))));have n6_ := Aside0.mk (blk_below BK101.out hb);have n7_ := Aside0.mk (blk_below BK102.out hb);have n8_ := Aside0.mk (below_step (by repeat (first | (with_reducible first | exact HB.out | apply below_alloc | apply pw_below_drewN | apply below_drew1 | refine below_set ?_ GE101.out | refine below_set ?_ GE102.out) | exact HB.out)) hb);clear HO107;clear HO110;clear HO113;clear HO116;clear BK101;clear BK102;clear HB;have HO107 := n0_;have HO110 := n1_;have HO113 := n2_;have HO116 := n3_;have HO120 := n4_;have HO123 := n5_;have BK101 := n6_;have BK102 := n7_;have HB := n8_;clear n0_ n1_ n2_ n3_ n4_ n5_ n6_ n7_ n8_;(try clear hb);(try clear hb2);(try clear hk);(try clear hi);(try clear ho0);(try clear ho1)) | ((with_reducible refine gate_dst (N := 7) rfl ?_);refine box_event ?hg (N := 7) ?hd (cs := #[.slice none 0 0, .slice none 0 0]) (t := 52) ?hr ?_;(case hd => rfl);(case hg => rfl);(case hr => first | (go_simp;done) | (go_simp;rfl));intro gb124 hg w43 hbox hb;have n0_ := Aside0.mk (Kd.S_below (by exact HO107.out) hb);have n1_ := Aside0.mk (Kd.S_below (by exact HO110.out) hb);have n2_ := Aside0.mk (Kd.S_below (by exact HO113.out) hb);have n3_ := Aside0.mk (Kd.S_below (by exact HO116.out) hb);have n4_ := Aside0.mk (Kd.S_below (by exact HO120.out) hb);have n5_ := Aside0.mk (Kd.S_below (by exact HO123.out) hb);have n6_ := Aside0.mk (blk_below BK101.out hb);have n7_ := Aside0.mk (blk_below BK102.out hb);have n8_ := Aside0.mk (below_step (by repeat (first | (with_reducible first | exact HB.out | apply below_alloc | apply pw_below_drewN | apply below_drew1 | refine below_set ?_ GE101.out | refine below_set ?_ GE102.out) | exact HB.out)) hb);have n9_ := Aside0.mk (hbox);have n10_ := Aside0.mk ((by rw [hg];exact (below_size (by repeat (first | (with_reducible first | exact HB.out | apply below_alloc | apply pw_below_drewN | apply below_drew1 | refine below_set ?_ GE101.out | refine below_set ?_ GE102.out) | exact HB.out))) : w.heap.size ≤ gb124));have n11_ := Aside0.mk ((by rw [hg];exact (below_size (by repeat (first | (with_reducible first | exact HB.out | apply below_alloc | apply pw_below_drewN | apply below_drew1 | refine below_set ?_ GE101.out | refine below_set ?_ GE102.out) | exact HB.out))) : w.heap.size ≤ gb124));have n12_ := Aside0.mk ((by rw [hg];exact Nat.ne_of_lt (blk_lt BK101.out) : gb101 ≠ gb124));have n13_ := Aside0.mk ((by rw [hg];exact Nat.ne_of_gt (blk_lt BK101.out) : gb124 ≠ gb101));have n14_ := Aside0.mk ((by rw [hg];exact Nat.ne_of_lt (blk_lt BK102.out) : gb102 ≠ gb124));have n15_ := Aside0.mk ((by rw [hg];exact Nat.ne_of_gt (blk_lt BK102.out) : gb124 ≠ gb102));clear HO107;clear HO110;clear HO113;clear HO116;clear HO120;clear HO123;clear BK101;clear BK102;clear HB;have HO107 := n0_;have HO110 := n1_;have HO113 := n2_;have HO116 := n3_;have HO120 := n4_;have HO123 := n5_;have BK101 := n6_;have BK102 := n7_;have HB := n8_;have BK124 := n9_;have GW124 := n10_;have GE124 := n11_;have NB101_124 := n12_;have NB124_101 := n13_;have NB102_124 := n14_;have NB124_102 := n15_;clear n0_ n1_ n2_ n3_ n4_ n5_ n6_ n7_ n8_ n9_ n10_ n11_ n12_ n13_ n14_ n15_;clear hb hbox hg;obtain ⟨Ao44, co44, eo44⟩ := Kd.S_slice HO120.out;subst eo44;have hnb45 := NB124_101.out;have hnc45 := NB101_124.out;have hnb46 := NB124_102.out;have hnc46 := NB102_124.out;have hcz47_0 : w43.cell? ⟨gb124, 0, none⟩ = some (.slice none 0 0) := (blk_cell BK124.out 0).trans rfl;have hcz47_1 : w43.cell? ⟨gb124, 1, none⟩ = some (.slice none 0 0) := (blk_cell BK124.out 1).trans rfl;have hfz47_0 := blk_frozen BK124.out 0;have hfz47_1 := blk_frozen BK124.out 1;obtain ⟨Ao48, co48, eo48⟩ := Kd.S_slice HO123.out;subst eo48;have hcz49_0 : w43.cell? ⟨gb102, 0, none⟩ = some (.slice A1_0 l1_0.length c1_0) := (blk_cell BK102.out 0).trans rfl;have hcz49_1 : w43.cell? ⟨gb102, 1, none⟩ = some (.slice A1_1 l1_1.length c1_1) := (blk_cell BK102.out 1).trans rfl;have hfz49_0 := blk_frozen BK102.out 0;have hfz49_1 := blk_frozen BK102.out 1) | ((with_reducible refine gate_callee (f := 37) rfl ?_);refine goesL_ (some 28) rfl rfl Try.func37 (by kernel_rfl) rfl #[.agg #[.slice A1_0 l1_0.length c1_0, .slice A1_1 l1_1.length c1_1]] rfl (by (try simp only [List.map_toArray, List.map_cons, List.map_nil]);first | done | rfl | (simp only [List.length_drop, List.length_take];rfl)) ?_;(with_reducible refine (laws_toSpan.calls k _ _ l1_0 _ _ l1_1 t125 t128 _ ?side1 ?side2 ?side3 ?side4 A23.out).mono ?_);(case side1 => exact Kd.C_below HR1_0.out (by repeat (first | (with_reducible first | exact HB.out | apply below_alloc | apply pw_below_drewN | apply below_drew1 | refine below_set ?_ GE101.out | refine below_set ?_ GE102.out | refine below_set ?_ GE124.out) | exact HB.out)));(case side2 => exact HC1_0.out);(case side3 => exact Kd.C_below HR1_1.out (by repeat (first | (with_reducible first | exact HB.out | apply below_alloc | apply pw_below_drewN | apply below_drew1 | refine below_set ?_ GE101.out | refine below_set ?_ GE102.out | refine below_set ?_ GE124.out) | exact HB.out)));(case side4 => exact HC1_1.out);rintro e w50 ⟨v126, v129, rfl, ho0, ho1, hb⟩;refine ⟨_, rfl, ?_⟩;have n0_ := Aside0.mk (Kd.S_mono (Kd.S_told (Kd.S_told (Kd.S_old (by (with_reducible repeat (first | apply Kd.S_alloc | apply Kd.S_drewN | apply Kd.S_drew));exact (Kd.S_mono (Kd.S_far (p := ⟨gb124, 1, none⟩) (Kd.S_far (p := ⟨gb124, 0, none⟩) (Kd.S_types HO107.out BK124.out (by decide)) (fun _ hk => hk.2) (.slice Ao44 t118.length co44)) (fun _ hk => hk.2) (.slice Ao48 t121.length co48)) (fun _ h_ => h_.1))) hb) (Kd.S_base ho0)) (Kd.S_base ho1)) (fun _ h_ => h_.1));have n1_ := Aside0.mk (Kd.S_mono (Kd.S_told (Kd.S_told (Kd.S_old (by (with_reducible repeat (first | apply Kd.S_alloc | apply Kd.S_drewN | apply Kd.S_drew));exact (Kd.S_mono (Kd.S_far (p := ⟨gb124, 1, none⟩) (Kd.S_far (p := ⟨gb124, 0, none⟩) (Kd.S_types HO110.out BK124.out (by decide)) (fun _ hk => hk.2) (.slice Ao44 t118.length co44)) (fun _ hk => hk.2) (.slice Ao48 t121.length co48)) (fun _ h_ => h_.1))) hb) (Kd.S_base ho0)) (Kd.S_base ho1)) (fun _ h_ => h_.1));have n2_ := Aside0.mk (Kd.S_mono (Kd.S_told (Kd.S_told (Kd.S_old (by (with_reducible repeat (first | apply Kd.S_alloc | apply Kd.S_drewN | apply Kd.S_drew));exact (Kd.S_mono (Kd.S_far (p := ⟨gb124, 1, none⟩) (Kd.S_far (p := ⟨gb124, 0, none⟩) (Kd.S_types HO113.out BK124.out (by decide)) (fun _ hk => hk.2) (.slice Ao44 t118.length co44)) (fun _ hk => hk.2) (.slice Ao48 t121.length co48)) (fun _ h_ => h_.1))) hb) (Kd.S_base ho0)) (Kd.S_base ho1)) (fun _ h_ => h_.1));have n3_ := Aside0.mk (Kd.S_mono (Kd.S_told (Kd.S_told (Kd.S_old (by (with_reducible repeat (first | apply Kd.S_alloc | apply Kd.S_drewN | apply Kd.S_drew));exact (Kd.S_mono (Kd.S_far (p := ⟨gb124, 1, none⟩) (Kd.S_far (p := ⟨gb124, 0, none⟩) (Kd.S_types HO116.out BK124.out (by decide)) (fun _ hk => hk.2) (.slice Ao44 t118.length co44)) (fun _ hk => hk.2) (.slice Ao48 t121.length co48)) (fun _ h_ => h_.1))) hb) (Kd.S_base ho0)) (Kd.S_base ho1)) (fun _ h_ => h_.1));have n4_ := Aside0.mk (Kd.S_mono (Kd.S_told (Kd.S_told (Kd.S_old (by (with_reducible repeat (first | apply Kd.S_alloc | apply Kd.S_drewN | apply Kd.S_drew));exact (Kd.S_mono (Kd.S_far (p := ⟨gb124, 1, none⟩) (Kd.S_far (p := ⟨gb124, 0, none⟩) (Kd.S_types HO120.out BK124.out (by decide)) (fun _ hk => hk.2) (.slice Ao44 t118.length co44)) (fun _ hk => hk.2) (.slice Ao48 t121.length co48)) (fun _ h_ => h_.1))) hb) (Kd.S_base ho0)) (Kd.S_base ho1)) (fun _ h_ => h_.1));have n5_ := Aside0.mk (Kd.S_mono (Kd.S_told (Kd.S_told (Kd.S_old (by (with_reducible repeat (first | apply Kd.S_alloc | apply Kd.S_drewN | apply Kd.S_drew));exact (Kd.S_mono (Kd.S_far (p := ⟨gb124, 1, none⟩) (Kd.S_far (p := ⟨gb124, 0, none⟩) (Kd.S_types HO123.out BK124.out (by decide)) (fun _ hk => hk.2) (.slice Ao44 t118.length co44)) (fun _ hk => hk.2) (.slice Ao48 t121.length co48)) (fun _ h_ => h_.1))) hb) (Kd.S_base ho0)) (Kd.S_base ho1)) (fun _ h_ => h_.1));have n6_ := Aside0.mk (Kd.S_lower (Kd.S_new' (Kd.S_new' (Kd.S_new' (Kd.S_new' (Kd.S_new' (Kd.S_new' ho0 (Kd.S_lt (by (with_reducible repeat (first | apply Kd.S_alloc | apply Kd.S_drewN | apply Kd.S_drew));exact (Kd.S_mono (Kd.S_far (p := ⟨gb124, 1, none⟩) (Kd.S_far (p := ⟨gb124, 0, none⟩) (Kd.S_types HO107.out BK124.out (by decide)) (fun _ hk => hk.2) (.slice Ao44 t118.length co44)) (fun _ hk => hk.2) (.slice Ao48 t121.length co48)) (fun _ h_ => h_.1))))) (Kd.S_lt (by (with_reducible repeat (first | apply Kd.S_alloc | apply Kd.S_drewN | apply Kd.S_drew));exact (Kd.S_mono (Kd.S_far (p := ⟨gb124, 1, none⟩) (Kd.S_far (p := ⟨gb124, 0, none⟩) (Kd.S_types HO110.out BK124.out (by decide)) (fun _ hk => hk.2) (.slice Ao44 t118.length co44)) (fun _ hk => hk.2) (.slice Ao48 t121.length co48)) (fun _ h_ => h_.1))))) (Kd.S_lt (by (with_reducible repeat (first | apply Kd.S_alloc | apply Kd.S_drewN | apply Kd.S_drew));exact (Kd.S_mono (Kd.S_far (p := ⟨gb124, 1, none⟩) (Kd.S_far (p := ⟨gb124, 0, none⟩) (Kd.S_types HO113.out BK124.out (by decide)) (fun _ hk => hk.2) (.slice Ao44 t118.length co44)) (fun _ hk => hk.2) (.slice Ao48 t121.length co48)) (fun _ h_ => h_.1))))) (Kd.S_lt (by (with_reducible repeat (first | apply Kd.S_alloc | apply Kd.S_drewN | apply Kd.S_drew));exact (Kd.S_mono (Kd.S_far (p := ⟨gb124, 1, none⟩) (Kd.S_far (p := ⟨gb124, 0, none⟩) (Kd.S_types HO116.out BK124.out (by decide)) (fun _ hk => hk.2) (.slice Ao44 t118.length co44)) (fun _ hk => hk.2) (.slice Ao48 t121.length co48)) (fun _ h_ => h_.1))))) (Kd.S_lt (by (with_reducible repeat (first | apply Kd.S_alloc | apply Kd.S_drewN | apply Kd.S_drew));exact (Kd.S_mono (Kd.S_far (p := ⟨gb124, 1, none⟩) (Kd.S_far (p := ⟨gb124, 0, none⟩) (Kd.S_types HO120.out BK124.out (by decide)) (fun _ hk => hk.2) (.slice Ao44 t118.length co44)) (fun _ hk => hk.2) (.slice Ao48 t121.length co48)) (fun _ h_ => h_.1))))) (Kd.S_lt (by (with_reducible repeat (first | apply Kd.S_alloc | apply Kd.S_drewN | apply Kd.S_drew));exact (Kd.S_mono (Kd.S_far (p := ⟨gb124, 1, none⟩) (Kd.S_far (p := ⟨gb124, 0, none⟩) (Kd.S_types HO123.out BK124.out (by decide)) (fun _ hk => hk.2) (.slice Ao44 t118.length co44)) (fun _ hk => hk.2) (.slice Ao48 t121.length co48)) (fun _ h_ => h_.1))))) (below_size (by repeat (first | (with_reducible first | exact HB.out | apply below_alloc | apply pw_below_drewN | apply below_drew1 | refine below_set ?_ GE101.out | refine below_set ?_ GE102.out | refine below_set ?_ GE124.out) | exact HB.out))));have n7_ := Aside0.mk (Kd.S_lower (Kd.S_new' (Kd.S_new' (Kd.S_new' (Kd.S_new' (Kd.S_new' (Kd.S_new' ho1 (Kd.S_lt (by (with_reducible repeat (first | apply Kd.S_alloc | apply Kd.S_drewN | apply Kd.S_drew));exact (Kd.S_mono (Kd.S_far (p := ⟨gb124, 1, none⟩) (Kd.S_far (p := ⟨gb124, 0, none⟩) (Kd.S_types HO107.out BK124.out (by decide)) (fun _ hk => hk.2) (.slice Ao44 t118.length co44)) (fun _ hk => hk.2) (.slice Ao48 t121.length co48)) (fun _ h_ => h_.1))))) (Kd.S_lt (by (with_reducible repeat (first | apply Kd.S_alloc | apply Kd.S_drewN | apply Kd.S_drew));exact (Kd.S_mono (Kd.S_far (p := ⟨gb124, 1, none⟩) (Kd.S_far (p := ⟨gb124, 0, none⟩) (Kd.S_types HO110.out BK124.out (by decide)) (fun _ hk => hk.2) (.slice Ao44 t118.length co44)) (fun _ hk => hk.2) (.slice Ao48 t121.length co48)) (fun _ h_ => h_.1))))) (Kd.S_lt (by (with_reducible repeat (first | apply Kd.S_alloc | apply Kd.S_drewN | apply Kd.S_drew));exact (Kd.S_mono (Kd.S_far (p := ⟨gb124, 1, none⟩) (Kd.S_far (p := ⟨gb124, 0, none⟩) (Kd.S_types HO113.out BK124.out (by decide)) (fun _ hk => hk.2) (.slice Ao44 t118.length co44)) (fun _ hk => hk.2) (.slice Ao48 t121.length co48)) (fun _ h_ => h_.1))))) (Kd.S_lt (by (with_reducible repeat (first | apply Kd.S_alloc | apply Kd.S_drewN | apply Kd.S_drew));exact (Kd.S_mono (Kd.S_far (p := ⟨gb124, 1, none⟩) (Kd.S_far (p := ⟨gb124, 0, none⟩) (Kd.S_types HO116.out BK124.out (by decide)) (fun _ hk => hk.2) (.slice Ao44 t118.length co44)) (fun _ hk => hk.2) (.slice Ao48 t121.length co48)) (fun _ h_ => h_.1))))) (Kd.S_lt (by (with_reducible repeat (first | apply Kd.S_alloc | apply Kd.S_drewN | apply Kd.S_drew));exact (Kd.S_mono (Kd.S_far (p := ⟨gb124, 1, none⟩) (Kd.S_far (p := ⟨gb124, 0, none⟩) (Kd.S_types HO120.out BK124.out (by decide)) (fun _ hk => hk.2) (.slice Ao44 t118.length co44)) (fun _ hk => hk.2) (.slice Ao48 t121.length co48)) (fun _ h_ => h_.1))))) (Kd.S_lt (by (with_reducible repeat (first | apply Kd.S_alloc | apply Kd.S_drewN | apply Kd.S_drew));exact (Kd.S_mono (Kd.S_far (p := ⟨gb124, 1, none⟩) (Kd.S_far (p := ⟨gb124, 0, none⟩) (Kd.S_types HO123.out BK124.out (by decide)) (fun _ hk => hk.2) (.slice Ao44 t118.length co44)) (fun _ hk => hk.2) (.slice Ao48 t121.length co48)) (fun _ h_ => h_.1))))) (below_size (by repeat (first | (with_reducible first | exact HB.out | apply below_alloc | apply pw_below_drewN | apply below_drew1 | refine below_set ?_ GE101.out | refine below_set ?_ GE102.out | refine below_set ?_ GE124.out) | exact HB.out))));have n8_ := Aside0.mk (blk_below (g := gb101) (o := .cells #[.slice A0_0 l0_0.length c0_0, .slice A0_1 l0_1.length c0_1] 48 (0, 0)) (by (with_reducible repeat (first | refine blk_drewN ?_ _ | refine blk_drew ?_ | refine blk_alloc ?_ _));refine blk_far ?_ NB101_124.out _;(with_reducible repeat (first | refine blk_drewN ?_ _ | refine blk_drew ?_ | refine blk_alloc ?_ _));refine blk_far ?_ NB101_124.out _;(with_reducible repeat (first | refine blk_drewN ?_ _ | refine blk_drew ?_ | refine blk_alloc ?_ _));exact BK101.out) hb);have n9_ := Aside0.mk (blk_below (g := gb102) (o := .cells #[.slice A1_0 l1_0.length c1_0, .slice A1_1 l1_1.length c1_1] 48 (0, 0)) (by (with_reducible repeat (first | refine blk_drewN ?_ _ | refine blk_drew ?_ | refine blk_alloc ?_ _));refine blk_far ?_ NB102_124.out _;(with_reducible repeat (first | refine blk_drewN ?_ _ | refine blk_drew ?_ | refine blk_alloc ?_ _));refine blk_far ?_ NB102_124.out _;(with_reducible repeat (first | refine blk_drewN ?_ _ | refine blk_drew ?_ | refine blk_alloc ?_ _));exact BK102.out) hb);have n10_ := Aside0.mk (blk_below (g := gb124) (o := .cells #[.slice Ao44 t118.length co44, .slice Ao48 t121.length co48] 52 (0, 0)) (by (with_reducible repeat (first | refine blk_drewN ?_ _ | refine blk_drew ?_ | refine blk_alloc ?_ _));refine blk_put (cs := #[.slice Ao44 t118.length co44, .slice none 0 0]) ?_ 1 _ rfl;(with_reducible repeat (first | refine blk_drewN ?_ _ | refine blk_drew ?_ | refine blk_alloc ?_ _));refine blk_put (cs := #[.slice none 0 0, .slice none 0 0]) ?_ 0 _ rfl;(with_reducible repeat (first | refine blk_drewN ?_ _ | refine blk_drew ?_ | refine blk_alloc ?_ _));exact BK124.out) hb);have n11_ := Aside0.mk (below_step (by repeat (first | (with_reducible first | exact HB.out | apply below_alloc | apply pw_below_drewN | apply below_drew1 | refine below_set ?_ GE101.out | refine below_set ?_ GE102.out | refine below_set ?_ GE124.out) | exact HB.out)) hb);clear HO107;clear HO110;clear HO113;clear HO116;clear HO120;clear HO123;clear BK101;clear BK102;clear BK124;clear HB;have HO107 := n0_;have HO110 := n1_;have HO113 := n2_;have HO116 := n3_;have HO120 := n4_;have HO123 := n5_;have HO127 := n6_;have HO130 := n7_;have BK101 := n8_;have BK102 := n9_;have BK124 := n10_;have HB := n11_;clear n0_ n1_ n2_ n3_ n4_ n5_ n6_ n7_ n8_ n9_ n10_ n11_;(try clear hb);(try clear hb2);(try clear hk);(try clear hi);(try clear ho0);(try clear ho1)) | ((with_reducible refine gate_dst (N := 8) rfl ?_);refine box_event ?hg (N := 8) ?hd (cs := #[.slice none 0 0, .slice none 0 0]) (t := 52) ?hr ?_;(case hd => rfl);(case hg => rfl);(case hr => first | (go_simp;done) | (go_simp;rfl));intro gb131 hg w51 hbox hb;have n0_ := Aside0.mk (Kd.S_below (by exact HO107.out) hb);have n1_ := Aside0.mk (Kd.S_below (by exact HO110.out) hb);have n2_ := Aside0.mk (Kd.S_below (by exact HO113.out) hb);have n3_ := Aside0.mk (Kd.S_below (by exact HO116.out) hb);have n4_ := Aside0.mk (Kd.S_below (by exact HO120.out) hb);have n5_ := Aside0.mk (Kd.S_below (by exact HO123.out) hb);have n6_ := Aside0.mk (Kd.S_below (by exact HO127.out) hb);have n7_ := Aside0.mk (Kd.S_below (by exact HO130.out) hb);have n8_ := Aside0.mk (blk_below BK101.out hb);have n9_ := Aside0.mk (blk_below BK102.out hb);have n10_ := Aside0.mk (blk_below BK124.out hb);have n11_ := Aside0.mk (below_step (by repeat (first | (with_reducible first | exact HB.out | apply below_alloc | apply pw_below_drewN | apply below_drew1 | refine below_set ?_ GE101.out | refine below_set ?_ GE102.out | refine below_set ?_ GE124.out) | exact HB.out)) hb);have n12_ := Aside0.mk (hbox);have n13_ := Aside0.mk ((by rw [hg];exact (below_size (by repeat (first | (with_reducible first | exact HB.out | apply below_alloc | apply pw_below_drewN | apply below_drew1 | refine below_set ?_ GE101.out | refine below_set ?_ GE102.out | refine below_set ?_ GE124.out) | exact HB.out))) : w.heap.size ≤ gb131));have n14_ := Aside0.mk ((by rw [hg];exact (below_size (by repeat (first | (with_reducible first | exact HB.out | apply below_alloc | apply pw_below_drewN | apply below_drew1 | refine below_set ?_ GE101.out | refine below_set ?_ GE102.out | refine below_set ?_ GE124.out) | exact HB.out))) : w.heap.size ≤ gb131));have n15_ := Aside0.mk ((by rw [hg];exact Nat.ne_of_lt (blk_lt BK101.out) : gb101 ≠ gb131));have n16_ := Aside0.mk ((by rw [hg];exact Nat.ne_of_gt (blk_lt BK101.out) : gb131 ≠ gb101));have n17_ := Aside0.mk ((by rw [hg];exact Nat.ne_of_lt (blk_lt BK102.out) : gb102 ≠ gb131));have n18_ := Aside0.mk ((by rw [hg];exact Nat.ne_of_gt (blk_lt BK102.out) : gb131 ≠ gb102));have n19_ := Aside0.mk ((by rw [hg];exact Nat.ne_of_lt (blk_lt BK124.out) : gb124 ≠ gb131));have n20_ := Aside0.mk ((by rw [hg];exact Nat.ne_of_gt (blk_lt BK124.out) : gb131 ≠ gb124));clear HO107;clear HO110;clear HO113;clear HO116;clear HO120;clear HO123;clear HO127;clear HO130;clear BK101;clear BK102;clear BK124;clear HB;have HO107 := n0_;have HO110 := n1_;have HO113 := n2_;have HO116 := n3_;have HO120 := n4_;have HO123 := n5_;have HO127 := n6_;have HO130 := n7_;have BK101 := n8_;have BK102 := n9_;have BK124 := n10_;have HB := n11_;have BK131 := n12_;have GW131 := n13_;have GE131 := n14_;have NB101_131 := n15_;have NB131_101 := n16_;have NB102_131 := n17_;have NB131_102 := n18_;have NB124_131 := n19_;have NB131_124 := n20_;clear n0_ n1_ n2_ n3_ n4_ n5_ n6_ n7_ n8_ n9_ n10_ n11_ n12_ n13_ n14_ n15_ n16_ n17_ n18_ n19_ n20_;clear hb hbox hg;obtain ⟨Ao52, co52, eo52⟩ := Kd.S_slice HO127.out;subst eo52;have hnb53 := NB131_101.out;have hnc53 := NB101_131.out;have hnb54 := NB131_102.out;have hnc54 := NB102_131.out;have hnb55 := NB131_124.out;have hnc55 := NB124_131.out;have hcz56_0 : w51.cell? ⟨gb131, 0, none⟩ = some (.slice none 0 0) := (blk_cell BK131.out 0).trans rfl;have hcz56_1 : w51.cell? ⟨gb131, 1, none⟩ = some (.slice none 0 0) := (blk_cell BK131.out 1).trans rfl;have hfz56_0 := blk_frozen BK131.out 0;have hfz56_1 := blk_frozen BK131.out 1;obtain ⟨Ao57, co57, eo57⟩ := Kd.S_slice HO130.out;subst eo57;have hcz58_0 : w51.cell? ⟨gb124, 0, none⟩ = some (.slice Ao44 t118.length co44) := (blk_cell BK124.out 0).trans rfl;have hcz58_1 : w51.cell? ⟨gb124, 1, none⟩ = some (.slice Ao48 t121.length co48) := (blk_cell BK124.out 1).trans rfl;have hfz58_0 := blk_frozen BK124.out 0;have hfz58_1 := blk_frozen BK124.out 1) | ((with_reducible refine gate_callee (f := 38) rfl ?_);refine goesL_ (some 31) rfl rfl Try.func38 (by kernel_rfl) rfl #[.agg #[.slice Ao44 t118.length co44, .slice Ao48 t121.length co48], .agg #[.slice Ao52 t125.length co52, .slice Ao57 t128.length co57]] rfl (by (try simp only [List.map_toArray, List.map_cons, List.map_nil]);first | done | rfl | (simp only [List.length_drop, List.length_take];rfl)) ?_;(with_reducible refine (impl_SpanSame.calls k _ _ t118 _ _ t121 _ _ t125 _ _ t128 t132 _ ?side1 ?side2 ?side3 ?side4 ?side5 ?side6 ?side7 ?side8 A24.out).mono ?_);(case side1 => refine (Kd.S_reads' (e := 27) (base := w.heap.size) (ok := fun k_ => ((((((some k_ ≠ (.slice Ao48 t121.length co48 : Value).ownBlock ∧ some k_ ≠ (.slice Ao36 t105.length co36 : Value).ownBlock) ∧ some k_ ≠ (.slice Ao37 t108.length co37 : Value).ownBlock) ∧ some k_ ≠ (.slice Ao38 t111.length co38 : Value).ownBlock) ∧ some k_ ≠ (.slice Ao39 t114.length co39 : Value).ownBlock) ∧ some k_ ≠ (.slice Ao52 t125.length co52 : Value).ownBlock) ∧ some k_ ≠ (.slice Ao57 t128.length co57 : Value).ownBlock)) (n := t118.length) (c := co44) ?_).2.2;exact (by (with_reducible repeat (first | apply Kd.S_alloc | apply Kd.S_drewN | apply Kd.S_drew));exact (Kd.S_mono (Kd.S_far (p := ⟨gb131, 1, none⟩) (Kd.S_far (p := ⟨gb131, 0, none⟩) (Kd.S_types HO120.out BK131.out (by decide)) (fun _ hk => hk.2) (.slice Ao52 t125.length co52)) (fun _ hk => hk.2) (.slice Ao57 t128.length co57)) (fun _ h_ => h_.1))));(case side2 => exact (Kd.S_reads' HO120.out).2.1);(case side3 => refine (Kd.S_reads' (e := 27) (base := w.heap.size) (ok := fun k_ => ((((((some k_ ≠ (.slice Ao44 t118.length co44 : Value).ownBlock ∧ some k_ ≠ (.slice Ao36 t105.length co36 : Value).ownBlock) ∧ some k_ ≠ (.slice Ao37 t108.length co37 : Value).ownBlock) ∧ some k_ ≠ (.slice Ao38 t111.length co38 : Value).ownBlock) ∧ some k_ ≠ (.slice Ao39 t114.length co39 : Value).ownBlock) ∧ some k_ ≠ (.slice Ao52 t125.length co52 : Value).ownBlock) ∧ some k_ ≠ (.slice Ao57 t128.length co57 : Value).ownBlock)) (n := t121.length) (c := co48) ?_).2.2;exact (by (with_reducible repeat (first | apply Kd.S_alloc | apply Kd.S_drewN | apply Kd.S_drew));exact (Kd.S_mono (Kd.S_far (p := ⟨gb131, 1, none⟩) (Kd.S_far (p := ⟨gb131, 0, none⟩) (Kd.S_types HO123.out BK131.out (by decide)) (fun _ hk => hk.2) (.slice Ao52 t125.length co52)) (fun _ hk => hk.2) (.slice Ao57 t128.length co57)) (fun _ h_ => h_.1))));(case side4 => exact (Kd.S_reads' HO123.out).2.1);(case side5 => refine (Kd.S_reads' (e := 27) (base := w.heap.size) (ok := fun k_ => ((((((some k_ ≠ (.slice Ao57 t128.length co57 : Value).ownBlock ∧ some k_ ≠ (.slice Ao36 t105.length co36 : Value).ownBlock) ∧ some k_ ≠ (.slice Ao37 t108.length co37 : Value).ownBlock) ∧ some k_ ≠ (.slice Ao38 t111.length co38 : Value).ownBlock) ∧ some k_ ≠ (.slice Ao39 t114.length co39 : Value).ownBlock) ∧ some k_ ≠ (.slice Ao44 t118.length co44 : Value).ownBlock) ∧ some k_ ≠ (.slice Ao48 t121.length co48 : Value).ownBlock)) (n := t125.length) (c := co52) ?_).2.2;exact (by (with_reducible repeat (first | apply Kd.S_alloc | apply Kd.S_drewN | apply Kd.S_drew));exact (Kd.S_mono (Kd.S_far (p := ⟨gb131, 1, none⟩) (Kd.S_far (p := ⟨gb131, 0, none⟩) (Kd.S_types HO127.out BK131.out (by decide)) (fun _ hk => hk.2) (.slice Ao52 t125.length co52)) (fun _ hk => hk.2) (.slice Ao57 t128.length co57)) (fun _ h_ => h_.1))));(case side6 => exact (Kd.S_reads' HO127.out).2.1);(case side7 => refine (Kd.S_reads' (e := 27) (base := w.heap.size) (ok := fun k_ => ((((((some k_ ≠ (.slice Ao52 t125.length co52 : Value).ownBlock ∧ some k_ ≠ (.slice Ao36 t105.length co36 : Value).ownBlock) ∧ some k_ ≠ (.slice Ao37 t108.length co37 : Value).ownBlock) ∧ some k_ ≠ (.slice Ao38 t111.length co38 : Value).ownBlock) ∧ some k_ ≠ (.slice Ao39 t114.length co39 : Value).ownBlock) ∧ some k_ ≠ (.slice Ao44 t118.length co44 : Value).ownBlock) ∧ some k_ ≠ (.slice Ao48 t121.length co48 : Value).ownBlock)) (n := t128.length) (c := co57) ?_).2.2;exact (by (with_reducible repeat (first | apply Kd.S_alloc | apply Kd.S_drewN | apply Kd.S_drew));exact (Kd.S_mono (Kd.S_far (p := ⟨gb131, 1, none⟩) (Kd.S_far (p := ⟨gb131, 0, none⟩) (Kd.S_types HO130.out BK131.out (by decide)) (fun _ hk => hk.2) (.slice Ao52 t125.length co52)) (fun _ hk => hk.2) (.slice Ao57 t128.length co57)) (fun _ h_ => h_.1))));(case side8 => exact (Kd.S_reads' HO130.out).2.1);rintro e w59 ⟨rfl, hb⟩;refine ⟨_, rfl, ?_⟩;have n0_ := Aside0.mk (Kd.S_below (by (with_reducible repeat (first | apply Kd.S_alloc | apply Kd.S_drewN | apply Kd.S_drew));exact (Kd.S_mono (Kd.S_far (p := ⟨gb131, 1, none⟩) (Kd.S_far (p := ⟨gb131, 0, none⟩) (Kd.S_types HO107.out BK131.out (by decide)) (fun _ hk => hk.2) (.slice Ao52 t125.length co52)) (fun _ hk => hk.2) (.slice Ao57 t128.length co57)) (fun _ h_ => h_.1))) hb);have n1_ := Aside0.mk (Kd.S_below (by (with_reducible repeat (first | apply Kd.S_alloc | apply Kd.S_drewN | apply Kd.S_drew));exact (Kd.S_mono (Kd.S_far (p := ⟨gb131, 1, none⟩) (Kd.S_far (p := ⟨gb131, 0, none⟩) (Kd.S_types HO110.out BK131.out (by decide)) (fun _ hk => hk.2) (.slice Ao52 t125.length co52)) (fun _ hk => hk.2) (.slice Ao57 t128.length co57)) (fun _ h_ => h_.1))) hb);have n2_ := Aside0.mk (Kd.S_below (by (with_reducible repeat (first | apply Kd.S_alloc | apply Kd.S_drewN | apply Kd.S_drew));exact (Kd.S_mono (Kd.S_far (p := ⟨gb131, 1, none⟩) (Kd.S_far (p := ⟨gb131, 0, none⟩) (Kd.S_types HO113.out BK131.out (by decide)) (fun _ hk => hk.2) (.slice Ao52 t125.length co52)) (fun _ hk => hk.2) (.slice Ao57 t128.length co57)) (fun _ h_ => h_.1))) hb);have n3_ := Aside0.mk (Kd.S_below (by (with_reducible repeat (first | apply Kd.S_alloc | apply Kd.S_drewN | apply Kd.S_drew));exact (Kd.S_mono (Kd.S_far (p := ⟨gb131, 1, none⟩) (Kd.S_far (p := ⟨gb131, 0, none⟩) (Kd.S_types HO116.out BK131.out (by decide)) (fun _ hk => hk.2) (.slice Ao52 t125.length co52)) (fun _ hk => hk.2) (.slice Ao57 t128.length co57)) (fun _ h_ => h_.1))) hb);have n4_ := Aside0.mk (Kd.S_below (by (with_reducible repeat (first | apply Kd.S_alloc | apply Kd.S_drewN | apply Kd.S_drew));exact (Kd.S_mono (Kd.S_far (p := ⟨gb131, 1, none⟩) (Kd.S_far (p := ⟨gb131, 0, none⟩) (Kd.S_types HO120.out BK131.out (by decide)) (fun _ hk => hk.2) (.slice Ao52 t125.length co52)) (fun _ hk => hk.2) (.slice Ao57 t128.length co57)) (fun _ h_ => h_.1))) hb);have n5_ := Aside0.mk (Kd.S_below (by (with_reducible repeat (first | apply Kd.S_alloc | apply Kd.S_drewN | apply Kd.S_drew));exact (Kd.S_mono (Kd.S_far (p := ⟨gb131, 1, none⟩) (Kd.S_far (p := ⟨gb131, 0, none⟩) (Kd.S_types HO123.out BK131.out (by decide)) (fun _ hk => hk.2) (.slice Ao52 t125.length co52)) (fun _ hk => hk.2) (.slice Ao57 t128.length co57)) (fun _ h_ => h_.1))) hb);have n6_ := Aside0.mk (Kd.S_below (by (with_reducible repeat (first | apply Kd.S_alloc | apply Kd.S_drewN | apply Kd.S_drew));exact (Kd.S_mono (Kd.S_far (p := ⟨gb131, 1, none⟩) (Kd.S_far (p := ⟨gb131, 0, none⟩) (Kd.S_types HO127.out BK131.out (by decide)) (fun _ hk => hk.2) (.slice Ao52 t125.length co52)) (fun _ hk => hk.2) (.slice Ao57 t128.length co57)) (fun _ h_ => h_.1))) hb);have n7_ := Aside0.mk (Kd.S_below (by (with_reducible repeat (first | apply Kd.S_alloc | apply Kd.S_drewN | apply Kd.S_drew));exact (Kd.S_mono (Kd.S_far (p := ⟨gb131, 1, none⟩) (Kd.S_far (p := ⟨gb131, 0, none⟩) (Kd.S_types HO130.out BK131.out (by decide)) (fun _ hk => hk.2) (.slice Ao52 t125.length co52)) (fun _ hk => hk.2) (.slice Ao57 t128.length co57)) (fun _ h_ => h_.1))) hb);have n8_ := Aside0.mk (blk_below (g := gb101) (o := .cells #[.slice A0_0 l0_0.length c0_0, .slice A0_1 l0_1.length c0_1] 48 (0, 0)) (by (with_reducible repeat (first | refine blk_drewN ?_ _ | refine blk_drew ?_ | refine blk_alloc ?_ _));refine blk_far ?_ NB101_131.out _;(with_reducible repeat (first | refine blk_drewN ?_ _ | refine blk_drew ?_ | refine blk_alloc ?_ _));refine blk_far ?_ NB101_131.out _;(with_reducible repeat (first | refine blk_drewN ?_ _ | refine blk_drew ?_ | refine blk_alloc ?_ _));exact BK101.out) hb);have n9_ := Aside0.mk (blk_below (g := gb102) (o := .cells #[.slice A1_0 l1_0.length c1_0, .slice A1_1 l1_1.length c1_1] 48 (0, 0)) (by (with_reducible repeat (first | refine blk_drewN ?_ _ | refine blk_drew ?_ | refine blk_alloc ?_ _));refine blk_far ?_ NB102_131.out _;(with_reducible repeat (first | refine blk_drewN ?_ _ | refine blk_drew ?_ | refine blk_alloc ?_ _));refine blk_far ?_ NB102_131.out _;(with_reducible repeat (first | refine blk_drewN ?_ _ | refine blk_drew ?_ | refine blk_alloc ?_ _));exact BK102.out) hb);have n10_ := Aside0.mk (blk_below (g := gb124) (o := .cells #[.slice Ao44 t118.length co44, .slice Ao48 t121.length co48] 52 (0, 0)) (by (with_reducible repeat (first | refine blk_drewN ?_ _ | refine blk_drew ?_ | refine blk_alloc ?_ _));refine blk_far ?_ NB124_131.out _;(with_reducible repeat (first | refine blk_drewN ?_ _ | refine blk_drew ?_ | refine blk_alloc ?_ _));refine blk_far ?_ NB124_131.out _;(with_reducible repeat (first | refine blk_drewN ?_ _ | refine blk_drew ?_ | refine blk_alloc ?_ _));exact BK124.out) hb);have n11_ := Aside0.mk (blk_below (g := gb131) (o := .cells #[.slice Ao52 t125.length co52, .slice Ao57 t128.length co57] 52 (0, 0)) (by (with_reducible repeat (first | refine blk_drewN ?_ _ | refine blk_drew ?_ | refine blk_alloc ?_ _));refine blk_put (cs := #[.slice Ao52 t125.length co52, .slice none 0 0]) ?_ 1 _ rfl;(with_reducible repeat (first | refine blk_drewN ?_ _ | refine blk_drew ?_ | refine blk_alloc ?_ _));refine blk_put (cs := #[.slice none 0 0, .slice none 0 0]) ?_ 0 _ rfl;(with_reducible repeat (first | refine blk_drewN ?_ _ | refine blk_drew ?_ | refine blk_alloc ?_ _));exact BK131.out) hb);have n12_ := Aside0.mk (below_step (by repeat (first | (with_reducible first | exact HB.out | apply below_alloc | apply pw_below_drewN | apply below_drew1 | refine below_set ?_ GE101.out | refine below_set ?_ GE102.out | refine below_set ?_ GE124.out | refine below_set ?_ GE131.out) | exact HB.out)) hb);clear HO107;clear HO110;clear HO113;clear HO116;clear HO120;clear HO123;clear HO127;clear HO130;clear BK101;clear BK102;clear BK124;clear BK131;clear HB;have HO107 := n0_;have HO110 := n1_;have HO113 := n2_;have HO116 := n3_;have HO120 := n4_;have HO123 := n5_;have HO127 := n6_;have HO130 := n7_;have BK101 := n8_;have BK102 := n9_;have BK124 := n10_;have BK131 := n11_;have HB := n12_;clear n0_ n1_ n2_ n3_ n4_ n5_ n6_ n7_ n8_ n9_ n10_ n11_ n12_;(try clear hb);(try clear hb2);(try clear hk);(try clear hi)))
    go_ret
    exact ⟨by first | rfl | (simp [errW_none, errW_some] <;> rfl) | (simp [*, errW_none, errW_some] <;> rfl), by repeat (first | (with_reducible first | exact HB.out | apply below_alloc | apply pw_below_drewN | apply below_drew1 | refine below_set ?_ GE101.out | refine below_set ?_ GE102.out | refine below_set ?_ GE124.out | refine below_set ?_ GE131.out) | exact HB.out)⟩
   ·rw [if_neg c25] at H
    have c25b0 : (t132 != t117) = false := by simpa using c25
    (try (have c25b1 : decide (t132 = t117) = true := by simpa using c25))
    (try (have c25b2 : (t132 == t117) = true := by simpa using c25))
    clear c25
    replace H := Option.bind_eq_some_iff.mp H
    obtain ⟨⟨t133, t136⟩, A600, H⟩ := H
    replace H : ((laws_eqSpan.f k t118 t121 t133 t136).bind fun t139 => (if t139 = true then ((laws_toSpan.f k l1_0 l1_1).bind fun bt140 => ((laws_eqSpan.f k t125 t128 bt140.1 bt140.2).bind fun t146 => (if t146 = true then (some true) else (some false)))) else (some false))) = some r := H
    have A60 := Aside0.mk A600
    clear A600
    replace H := Option.bind_eq_some_iff.mp H
    obtain ⟨t139, A610, H⟩ := H
    replace H : (if t139 = true then ((laws_toSpan.f k l1_0 l1_1).bind fun bt140 => ((laws_eqSpan.f k t125 t128 bt140.1 bt140.2).bind fun t146 => (if t146 = true then (some true) else (some false)))) else (some false)) = some r := H
    have A61 := Aside0.mk A610
    clear A610
    by_cases c62 : t139 = true
    ·subst c62
     have H1 : ((laws_toSpan.f k l1_0 l1_1).bind fun bt140 => ((laws_eqSpan.f k t125 t128 bt140.1 bt140.2).bind fun t146 => (if t146 = true then (some true) else (some false)))) = some r := by rw [if_pos rfl] at H;exact H
     clear H
     have H := H1
     clear H1
     replace H := Option.bind_eq_some_iff.mp H
     obtain ⟨⟨t140, t143⟩, A630, H⟩ := H
     replace H : ((laws_eqSpan.f k t125 t128 t140 t143).bind fun t146 => (if t146 = true then (some true) else (some false))) = some r := H
     have A63 := Aside0.mk A630
     clear A630
     replace H := Option.bind_eq_some_iff.mp H
     obtain ⟨t146, A640, H⟩ := H
     replace H : (if t146 = true then (some true) else (some false)) = some r := H
     have A64 := Aside0.mk A640
     clear A640
     by_cases c65 : t146 = true
     ·subst c65
      have H1 : (some true) = some r := by rw [if_pos rfl] at H;exact H
      clear H
      have H := H1
      clear H1
      obtain rfl := Option.some.inj H
      go_enter Try.func7, Try.ntmps7
      try go_wp2_with (first | ((with_reducible refine gate_dst (N := 2) rfl ?_);refine box_event ?hg (N := 2) ?hd (cs := #[.slice A0_0 l0_0.length c0_0, .slice A0_1 l0_1.length c0_1]) (t := 48) ?hr ?_;(case hd => rfl);(case hg => rfl);(case hr => first | (go_simp;done) | (go_simp;rfl));intro gb101 hg w66 hbox hb;have n0_ := Aside0.mk (below_step (by exact HB.out) hb);have n1_ := Aside0.mk (hbox);have n2_ := Aside0.mk ((by rw [hg];exact (below_size (by exact HB.out)) : w.heap.size ≤ gb101));have n3_ := Aside0.mk ((by rw [hg];exact (below_size (by exact HB.out)) : w.heap.size ≤ gb101));clear HB;have HB := n0_;have BK101 := n1_;have GW101 := n2_;have GE101 := n3_;clear n0_ n1_ n2_ n3_;clear hb hbox hg) | ((with_reducible refine gate_dst (N := 3) rfl ?_);refine box_event ?hg (N := 3) ?hd (cs := #[.slice A1_0 l1_0.length c1_0, .slice A1_1 l1_1.length c1_1]) (t := 48) ?hr ?_;(case hd => rfl);(case hg => rfl);(case hr => first | (go_simp;done) | (go_simp;rfl));intro gb102 hg w67 hbox hb;have n0_ := Aside0.mk (blk_below BK101.out hb);have n1_ := Aside0.mk (below_step (by exact HB.out) hb);have n2_ := Aside0.mk (hbox);have n3_ := Aside0.mk ((by rw [hg];exact (below_size (by exact HB.out)) : w.heap.size ≤ gb102));have n4_ := Aside0.mk ((by rw [hg];exact (below_size (by exact HB.out)) : w.heap.size ≤ gb102));have n5_ := Aside0.mk ((by rw [hg];exact Nat.ne_of_lt (blk_lt BK101.out) : gb101 ≠ gb102));have n6_ := Aside0.mk ((by rw [hg];exact Nat.ne_of_gt (blk_lt BK101.out) : gb102 ≠ gb101));clear BK101;clear HB;have BK101 := n0_;have HB := n1_;have BK102 := n2_;have GW102 := n3_;have GE102 := n4_;have NB101_102 := n5_;have NB102_101 := n6_;clear n0_ n1_ n2_ n3_ n4_ n5_ n6_;clear hb hbox hg;have hnb68 := NB101_102.out;have hnc68 := NB102_101.out;have hcz69_0 : w67.cell? ⟨gb101, 0, none⟩ = some (.slice A0_0 l0_0.length c0_0) := (blk_cell BK101.out 0).trans rfl;have hcz69_1 : w67.cell? ⟨gb101, 1, none⟩ = some (.slice A0_1 l0_1.length c0_1) := (blk_cell BK101.out 1).trans rfl;have hfz69_0 := blk_frozen BK101.out 0;have hfz69_1 := blk_frozen BK101.out 1) | ((with_reducible refine gate_callee (f := 35) rfl ?_);refine goesL_ (some 12) rfl rfl Try.func35 (by kernel_rfl) rfl #[.agg #[.slice A0_0 l0_0.length c0_0, .slice A0_1 l0_1.length c0_1], .int .i64 1048576] rfl (by (try simp only [List.map_toArray, List.map_cons, List.map_nil]);first | done | rfl | (simp only [List.length_drop, List.length_take];rfl)) ?_;(with_reducible refine (laws_szSpan.calls k _ _ l0_0 _ _ l0_1 1048576 t103 _ ?side1 ?side2 ?side3 ?side4 A3.out).mono ?_);(case side1 => repeat (first | exact (Kd.C_below HR0_0.out HB.out) | (with_reducible refine Kd.C_alloc ?_ _) | (with_reducible refine Kd.C_drewN ?_ _) | (with_reducible refine Kd.C_drew ?_)));(case side2 => exact HC0_0.out);(case side3 => repeat (first | exact (Kd.C_below HR0_1.out HB.out) | (with_reducible refine Kd.C_alloc ?_ _) | (with_reducible refine Kd.C_drewN ?_ _) | (with_reducible refine Kd.C_drew ?_)));(case side4 => exact HC0_1.out);rintro e w70 ⟨rfl, hb⟩;refine ⟨_, rfl, ?_⟩;have n0_ := Aside0.mk (blk_below BK101.out hb);have n1_ := Aside0.mk (blk_below BK102.out hb);have n2_ := Aside0.mk (below_step (by exact HB.out) hb);clear BK101;clear BK102;clear HB;have BK101 := n0_;have BK102 := n1_;have HB := n2_;clear n0_ n1_ n2_;(try clear hb);(try clear hb2);(try clear hk);(try clear hi);have hcz71_0 : w70.cell? ⟨gb102, 0, none⟩ = some (.slice A1_0 l1_0.length c1_0) := (blk_cell BK102.out 0).trans rfl;have hcz71_1 : w70.cell? ⟨gb102, 1, none⟩ = some (.slice A1_1 l1_1.length c1_1) := (blk_cell BK102.out 1).trans rfl;have hfz71_0 := blk_frozen BK102.out 0;have hfz71_1 := blk_frozen BK102.out 1) | ((with_reducible refine gate_callee (f := 35) rfl ?_);refine goesL_ (some 17) rfl rfl Try.func35 (by kernel_rfl) rfl #[.agg #[.slice A1_0 l1_0.length c1_0, .slice A1_1 l1_1.length c1_1], .int .i64 t103] rfl (by (try simp only [List.map_toArray, List.map_cons, List.map_nil]);first | done | rfl | (simp only [List.length_drop, List.length_take];rfl)) ?_;(with_reducible refine (laws_szSpan.calls k _ _ l1_0 _ _ l1_1 t103 t104 _ ?side1 ?side2 ?side3 ?side4 A10.out).mono ?_);(case side1 => repeat (first | exact (Kd.C_below HR1_0.out HB.out) | (with_reducible refine Kd.C_alloc ?_ _) | (with_reducible refine Kd.C_drewN ?_ _) | (with_reducible refine Kd.C_drew ?_)));(case side2 => exact HC1_0.out);(case side3 => repeat (first | exact (Kd.C_below HR1_1.out HB.out) | (with_reducible refine Kd.C_alloc ?_ _) | (with_reducible refine Kd.C_drewN ?_ _) | (with_reducible refine Kd.C_drew ?_)));(case side4 => exact HC1_1.out);rintro e w72 ⟨rfl, hb⟩;refine ⟨_, rfl, ?_⟩;have n0_ := Aside0.mk (blk_below BK101.out hb);have n1_ := Aside0.mk (blk_below BK102.out hb);have n2_ := Aside0.mk (below_step (by exact HB.out) hb);clear BK101;clear BK102;clear HB;have BK101 := n0_;have BK102 := n1_;have HB := n2_;clear n0_ n1_ n2_;(try clear hb);(try clear hb2);(try clear hk);(try clear hi)))
      have n0_ := Aside0.mk (blk_drew BK101.out)
      have n1_ := Aside0.mk (blk_drew BK102.out)
      have n2_ := Aside0.mk (below_drew1 HB.out)
      clear BK101
      clear BK102
      clear HB
      have BK101 := n0_
      have BK102 := n1_
      have HB := n2_
      clear n0_ n1_ n2_
      refine start_ (n := 6) (S := fun w' => w'.cell? ⟨gb101, 0, none⟩ = some (.slice A0_0 l0_0.length c0_0) ∧ w'.cell? ⟨gb101, 1, none⟩ = some (.slice A0_1 l0_1.length c0_1) ∧ w'.cell? ⟨gb102, 0, none⟩ = some (.slice A1_0 l1_0.length c1_0) ∧ w'.cell? ⟨gb102, 1, none⟩ = some (.slice A1_1 l1_1.length c1_1)) (ds := []) #[false, false, false, false, false, false] (by kernel_rfl) rfl rfl ⟨(blk_cell BK101.out 0).trans rfl, (blk_cell BK101.out 1).trans rfl, (blk_cell BK102.out 0).trans rfl, (blk_cell BK102.out 1).trans rfl⟩ (fun hHeld => ?_)
      generalize w72.drew = w73 at BK101 BK102 HB hHeld ⊢
      refine take_ (i := 0) (N := some 20) (v := ?_) (a' := ?_) #[true, false, false, false, false, false] rfl rfl (by kernel_rfl) (fun _ _ _ h => h) (Or.inl ⟨by rfl, ?_⟩) hHeld ?_ ?_
      rotate_left
      ·rintro w' ⟨s0, s1, s2, s3⟩
       go_simp
       with_reducible rfl
      rotate_left
      ·simp only [Act.put, List.setIfInBounds_toArray, List.set_cons_zero, List.set_cons_succ, i64_w, i32_w]
       rfl
      refine take_ (i := 2) (N := some 22) (v := ?_) (a' := ?_) #[true, false, true, false, false, false] rfl rfl (by kernel_rfl) (fun _ _ _ h => h) (Or.inl ⟨by rfl, ?_⟩) hHeld ?_ ?_
      rotate_left
      ·rintro w' ⟨s0, s1, s2, s3⟩
       go_simp
       with_reducible rfl
      rotate_left
      ·simp only [Act.put, List.setIfInBounds_toArray, List.set_cons_zero, List.set_cons_succ, i64_w, i32_w]
       rfl
      refine one_ (i := 1) (N := some 21) #[true, true, true, false, false, false] rfl rfl (by kernel_rfl) (by decide) (fun K hK => ?_)
      refine goes_ Try.func37 (by kernel_rfl) rfl #[.agg #[.slice A0_0 l0_0.length c0_0, .slice A0_1 l0_1.length c0_1]] (by rfl) rfl rfl (by (try simp only [List.map_toArray, List.map_cons, List.map_nil]);first | done | rfl | (simp only [List.length_drop, List.length_take];rfl)) ?_
      with_reducible refine (laws_toSpan.calls k _ _ l0_0 _ _ l0_1 t105 t108 _ ?side1 ?side2 ?side3 ?side4 A19.out).mono ?_
      (case side1 => repeat (first | exact (Kd.C_below HR0_0.out HB.out) | (with_reducible refine Kd.C_alloc ?_ _) | (with_reducible refine Kd.C_drewN ?_ _) | (with_reducible refine Kd.C_drew ?_)))
      (case side2 => exact HC0_0.out)
      (case side3 => repeat (first | exact (Kd.C_below HR0_1.out HB.out) | (with_reducible refine Kd.C_alloc ?_ _) | (with_reducible refine Kd.C_drewN ?_ _) | (with_reducible refine Kd.C_drew ?_)))
      (case side4 => exact HC0_1.out)
      rintro e w74 ⟨v106, v109, rfl, ho0, ho1, hb⟩
      refine ⟨_, rfl, ?_⟩
      have n0_ := Aside0.mk (Kd.S_lower ho0 (below_size (by exact HB.out)))
      have n1_ := Aside0.mk (Kd.S_lower ho1 (below_size (by exact HB.out)))
      have n2_ := Aside0.mk (blk_below BK101.out hb)
      have n3_ := Aside0.mk (blk_below BK102.out hb)
      have n4_ := Aside0.mk (below_step (by exact HB.out) hb)
      clear BK101
      clear BK102
      clear HB
      have HO107 := n0_
      have HO110 := n1_
      have BK101 := n2_
      have BK102 := n3_
      have HB := n4_
      clear n0_ n1_ n2_ n3_ n4_
      (try clear hb)
      (try clear hb2)
      (try clear hk)
      (try clear hi)
      (try clear ho0)
      (try clear ho1)
      refine hK.out _ _ ⟨(blk_cell BK101.out 0).trans rfl, (blk_cell BK101.out 1).trans rfl, (blk_cell BK102.out 0).trans rfl, (blk_cell BK102.out 1).trans rfl⟩ (fun hHeld => ?_)
      clear hK K
      refine norm_ (a' := ?_) ?_ ?_
      rotate_left
      ·show Act.put _ (some 21) _ = _
       simp only [Act.put, List.setIfInBounds_toArray, List.set_cons_zero, List.set_cons_succ, i64_w, i32_w]
       rfl
      refine one_ (i := 3) (N := some 23) #[true, true, true, true, false, false] rfl rfl (by kernel_rfl) (by decide) (fun K hK => ?_)
      refine goes_ Try.func37 (by kernel_rfl) rfl #[.agg #[.slice A1_0 l1_0.length c1_0, .slice A1_1 l1_1.length c1_1]] (by rfl) rfl rfl (by (try simp only [List.map_toArray, List.map_cons, List.map_nil]);first | done | rfl | (simp only [List.length_drop, List.length_take];rfl)) ?_
      with_reducible refine (laws_toSpan.calls k _ _ l1_0 _ _ l1_1 t111 t114 _ ?side1 ?side2 ?side3 ?side4 A20.out).mono ?_
      (case side1 => repeat (first | exact (Kd.C_below HR1_0.out HB.out) | (with_reducible refine Kd.C_alloc ?_ _) | (with_reducible refine Kd.C_drewN ?_ _) | (with_reducible refine Kd.C_drew ?_)))
      (case side2 => exact HC1_0.out)
      (case side3 => repeat (first | exact (Kd.C_below HR1_1.out HB.out) | (with_reducible refine Kd.C_alloc ?_ _) | (with_reducible refine Kd.C_drewN ?_ _) | (with_reducible refine Kd.C_drew ?_)))
      (case side4 => exact HC1_1.out)
      rintro e w75 ⟨v112, v115, rfl, ho0, ho1, hb⟩
      refine ⟨_, rfl, ?_⟩
      have n0_ := Aside0.mk (Kd.S_mono (Kd.S_told (Kd.S_told (Kd.S_old (by exact HO107.out) hb) (Kd.S_base ho0)) (Kd.S_base ho1)) (fun _ h_ => h_.1))
      have n1_ := Aside0.mk (Kd.S_mono (Kd.S_told (Kd.S_told (Kd.S_old (by exact HO110.out) hb) (Kd.S_base ho0)) (Kd.S_base ho1)) (fun _ h_ => h_.1))
      have n2_ := Aside0.mk (Kd.S_lower (Kd.S_new' (Kd.S_new' ho0 (Kd.S_lt (by exact HO107.out))) (Kd.S_lt (by exact HO110.out))) (below_size (by exact HB.out)))
      have n3_ := Aside0.mk (Kd.S_lower (Kd.S_new' (Kd.S_new' ho1 (Kd.S_lt (by exact HO107.out))) (Kd.S_lt (by exact HO110.out))) (below_size (by exact HB.out)))
      have n4_ := Aside0.mk (blk_below BK101.out hb)
      have n5_ := Aside0.mk (blk_below BK102.out hb)
      have n6_ := Aside0.mk (below_step (by exact HB.out) hb)
      clear HO107
      clear HO110
      clear BK101
      clear BK102
      clear HB
      have HO107 := n0_
      have HO110 := n1_
      have HO113 := n2_
      have HO116 := n3_
      have BK101 := n4_
      have BK102 := n5_
      have HB := n6_
      clear n0_ n1_ n2_ n3_ n4_ n5_ n6_
      (try clear hb)
      (try clear hb2)
      (try clear hk)
      (try clear hi)
      (try clear ho0)
      (try clear ho1)
      obtain ⟨Ao76, co76, eo76⟩ := Kd.S_slice HO107.out
      (first | subst eo76 | (injection eo76 with f1_ f2_ f3_;have f4_ := f1_.symm;have f5_ := f3_.symm;clear f1_ f2_ f3_;subst f4_;subst f5_))
      obtain ⟨Ao77, co77, eo77⟩ := Kd.S_slice HO110.out
      (first | subst eo77 | (injection eo77 with f1_ f2_ f3_;have f4_ := f1_.symm;have f5_ := f3_.symm;clear f1_ f2_ f3_;subst f4_;subst f5_))
      obtain ⟨Ao78, co78, eo78⟩ := Kd.S_slice HO113.out
      (first | subst eo78 | (injection eo78 with f1_ f2_ f3_;have f4_ := f1_.symm;have f5_ := f3_.symm;clear f1_ f2_ f3_;subst f4_;subst f5_))
      obtain ⟨Ao79, co79, eo79⟩ := Kd.S_slice HO116.out
      (first | subst eo79 | (injection eo79 with f1_ f2_ f3_;have f4_ := f1_.symm;have f5_ := f3_.symm;clear f1_ f2_ f3_;subst f4_;subst f5_))
      refine hK.out _ _ ⟨(blk_cell BK101.out 0).trans rfl, (blk_cell BK101.out 1).trans rfl, (blk_cell BK102.out 0).trans rfl, (blk_cell BK102.out 1).trans rfl⟩ (fun hHeld => ?_)
      clear hK K
      refine norm_ (a' := ?_) ?_ ?_
      rotate_left
      ·show Act.put _ (some 23) _ = _
       simp only [Act.put, List.setIfInBounds_toArray, List.set_cons_zero, List.set_cons_succ, i64_w, i32_w]
       rfl
      refine one_ (i := 4) (N := some 24) #[true, true, true, true, true, false] rfl rfl (by kernel_rfl) (by decide) (fun K hK => ?_)
      refine goes_ Try.func36 (by kernel_rfl) rfl #[.agg #[.slice Ao76 t105.length co76, .slice Ao77 t108.length co77], .agg #[.slice Ao78 t111.length co78, .slice Ao79 t114.length co79]] (by rfl) rfl rfl (by (try simp only [List.map_toArray, List.map_cons, List.map_nil]);first | done | rfl | (simp only [List.length_drop, List.length_take];rfl)) ?_
      with_reducible refine (spec_SpanSame.calls k _ _ t105 _ _ t108 _ _ t111 _ _ t114 t117 _ ?side1 ?side2 ?side3 ?side4 ?side5 ?side6 ?side7 ?side8 A21.out).mono ?_
      (case side1 => repeat (first | exact (Kd.S_reads' HO107.out).2.2 | (with_reducible refine Kd.C_alloc ?_ _) | (with_reducible refine Kd.C_drewN ?_ _) | (with_reducible refine Kd.C_drew ?_)))
      (case side2 => exact (Kd.S_reads' HO107.out).2.1)
      (case side3 => repeat (first | exact (Kd.S_reads' HO110.out).2.2 | (with_reducible refine Kd.C_alloc ?_ _) | (with_reducible refine Kd.C_drewN ?_ _) | (with_reducible refine Kd.C_drew ?_)))
      (case side4 => exact (Kd.S_reads' HO110.out).2.1)
      (case side5 => repeat (first | exact (Kd.S_reads' HO113.out).2.2 | (with_reducible refine Kd.C_alloc ?_ _) | (with_reducible refine Kd.C_drewN ?_ _) | (with_reducible refine Kd.C_drew ?_)))
      (case side6 => exact (Kd.S_reads' HO113.out).2.1)
      (case side7 => repeat (first | exact (Kd.S_reads' HO116.out).2.2 | (with_reducible refine Kd.C_alloc ?_ _) | (with_reducible refine Kd.C_drewN ?_ _) | (with_reducible refine Kd.C_drew ?_)))
      (case side8 => exact (Kd.S_reads' HO116.out).2.1)
      rintro e w80 ⟨rfl, hb⟩
      refine ⟨_, rfl, ?_⟩
      have n0_ := Aside0.mk (Kd.S_below (by exact HO107.out) hb)
      have n1_ := Aside0.mk (Kd.S_below (by exact HO110.out) hb)
      have n2_ := Aside0.mk (Kd.S_below (by exact HO113.out) hb)
      have n3_ := Aside0.mk (Kd.S_below (by exact HO116.out) hb)
      have n4_ := Aside0.mk (blk_below BK101.out hb)
      have n5_ := Aside0.mk (blk_below BK102.out hb)
      have n6_ := Aside0.mk (below_step (by exact HB.out) hb)
      clear HO107
      clear HO110
      clear HO113
      clear HO116
      clear BK101
      clear BK102
      clear HB
      have HO107 := n0_
      have HO110 := n1_
      have HO113 := n2_
      have HO116 := n3_
      have BK101 := n4_
      have BK102 := n5_
      have HB := n6_
      clear n0_ n1_ n2_ n3_ n4_ n5_ n6_
      (try clear hb)
      (try clear hb2)
      (try clear hk)
      (try clear hi)
      refine hK.out _ _ ⟨(blk_cell BK101.out 0).trans rfl, (blk_cell BK101.out 1).trans rfl, (blk_cell BK102.out 0).trans rfl, (blk_cell BK102.out 1).trans rfl⟩ (fun hHeld => ?_)
      clear hK K
      refine norm_ (a' := ?_) ?_ ?_
      rotate_left
      ·show Act.put _ (some 24) _ = _
       simp only [Act.put, List.setIfInBounds_toArray, List.set_cons_zero, List.set_cons_succ, i64_w, i32_w]
       rfl
      refine pure_ (i := 5) (N := some 6) (v := ?_) (a' := ?_) #[true, true, true, true, true, true] rfl rfl (by kernel_rfl) (fun _ _ _ h => h) (Or.inl ⟨by rfl, ?_⟩) ?_ ?_
      rotate_left
      ·intro w'
       go_simp
       with_reducible rfl
      rotate_left
      ·simp only [Act.put, List.setIfInBounds_toArray, List.set_cons_zero, List.set_cons_succ, i64_w, i32_w]
       rfl
      refine done_ (by kernel_rfl) ?_
      have hcz81_0 : w80.cell? ⟨gb101, 0, none⟩ = some (.slice A0_0 l0_0.length c0_0) := (blk_cell BK101.out 0).trans rfl
      have hcz81_1 : w80.cell? ⟨gb101, 1, none⟩ = some (.slice A0_1 l0_1.length c0_1) := (blk_cell BK101.out 1).trans rfl
      have hfz81_0 := blk_frozen BK101.out 0
      have hfz81_1 := blk_frozen BK101.out 1
      try go_wp2_with (first | ((with_reducible refine gate_callee (f := 37) rfl ?_);refine goesL_ (some 26) rfl rfl Try.func37 (by kernel_rfl) rfl #[.agg #[.slice A0_0 l0_0.length c0_0, .slice A0_1 l0_1.length c0_1]] rfl (by (try simp only [List.map_toArray, List.map_cons, List.map_nil]);first | done | rfl | (simp only [List.length_drop, List.length_take];rfl)) ?_;(with_reducible refine (laws_toSpan.calls k _ _ l0_0 _ _ l0_1 t118 t121 _ ?side1 ?side2 ?side3 ?side4 A22.out).mono ?_);(case side1 => repeat (first | exact (Kd.C_below HR0_0.out HB.out) | (with_reducible refine Kd.C_alloc ?_ _) | (with_reducible refine Kd.C_drewN ?_ _) | (with_reducible refine Kd.C_drew ?_)));(case side2 => exact HC0_0.out);(case side3 => repeat (first | exact (Kd.C_below HR0_1.out HB.out) | (with_reducible refine Kd.C_alloc ?_ _) | (with_reducible refine Kd.C_drewN ?_ _) | (with_reducible refine Kd.C_drew ?_)));(case side4 => exact HC0_1.out);rintro e w82 ⟨v119, v122, rfl, ho0, ho1, hb⟩;refine ⟨_, rfl, ?_⟩;have n0_ := Aside0.mk (Kd.S_mono (Kd.S_told (Kd.S_told (Kd.S_old (by exact HO107.out) hb) (Kd.S_base ho0)) (Kd.S_base ho1)) (fun _ h_ => h_.1));have n1_ := Aside0.mk (Kd.S_mono (Kd.S_told (Kd.S_told (Kd.S_old (by exact HO110.out) hb) (Kd.S_base ho0)) (Kd.S_base ho1)) (fun _ h_ => h_.1));have n2_ := Aside0.mk (Kd.S_mono (Kd.S_told (Kd.S_told (Kd.S_old (by exact HO113.out) hb) (Kd.S_base ho0)) (Kd.S_base ho1)) (fun _ h_ => h_.1));have n3_ := Aside0.mk (Kd.S_mono (Kd.S_told (Kd.S_told (Kd.S_old (by exact HO116.out) hb) (Kd.S_base ho0)) (Kd.S_base ho1)) (fun _ h_ => h_.1));have n4_ := Aside0.mk (Kd.S_lower (Kd.S_new' (Kd.S_new' (Kd.S_new' (Kd.S_new' ho0 (Kd.S_lt (by exact HO107.out))) (Kd.S_lt (by exact HO110.out))) (Kd.S_lt (by exact HO113.out))) (Kd.S_lt (by exact HO116.out))) (below_size (by repeat (first | (with_reducible first | exact HB.out | apply below_alloc | apply pw_below_drewN | apply below_drew1 | refine below_set ?_ GE101.out | refine below_set ?_ GE102.out) | exact HB.out))));have n5_ := Aside0.mk (Kd.S_lower (Kd.S_new' (Kd.S_new' (Kd.S_new' (Kd.S_new' ho1 (Kd.S_lt (by exact HO107.out))) (Kd.S_lt (by exact HO110.out))) (Kd.S_lt (by exact HO113.out))) (Kd.S_lt (by exact HO116.out))) (below_size (by repeat (first | (with_reducible first | exact HB.out | apply below_alloc | apply pw_below_drewN | apply below_drew1 | refine below_set ?_ GE101.out | refine below_set ?_ GE102.out) | exact HB.out))));have n6_ := Aside0.mk (blk_below BK101.out hb);have n7_ := Aside0.mk (blk_below BK102.out hb);have n8_ := Aside0.mk (below_step (by repeat (first | (with_reducible first | exact HB.out | apply below_alloc | apply pw_below_drewN | apply below_drew1 | refine below_set ?_ GE101.out | refine below_set ?_ GE102.out) | exact HB.out)) hb);clear HO107;clear HO110;clear HO113;clear HO116;clear BK101;clear BK102;clear HB;have HO107 := n0_;have HO110 := n1_;have HO113 := n2_;have HO116 := n3_;have HO120 := n4_;have HO123 := n5_;have BK101 := n6_;have BK102 := n7_;have HB := n8_;clear n0_ n1_ n2_ n3_ n4_ n5_ n6_ n7_ n8_;(try clear hb);(try clear hb2);(try clear hk);(try clear hi);(try clear ho0);(try clear ho1)) | ((with_reducible refine gate_dst (N := 7) rfl ?_);refine box_event ?hg (N := 7) ?hd (cs := #[.slice none 0 0, .slice none 0 0]) (t := 52) ?hr ?_;(case hd => rfl);(case hg => rfl);(case hr => first | (go_simp;done) | (go_simp;rfl));intro gb124 hg w83 hbox hb;have n0_ := Aside0.mk (Kd.S_below (by exact HO107.out) hb);have n1_ := Aside0.mk (Kd.S_below (by exact HO110.out) hb);have n2_ := Aside0.mk (Kd.S_below (by exact HO113.out) hb);have n3_ := Aside0.mk (Kd.S_below (by exact HO116.out) hb);have n4_ := Aside0.mk (Kd.S_below (by exact HO120.out) hb);have n5_ := Aside0.mk (Kd.S_below (by exact HO123.out) hb);have n6_ := Aside0.mk (blk_below BK101.out hb);have n7_ := Aside0.mk (blk_below BK102.out hb);have n8_ := Aside0.mk (below_step (by repeat (first | (with_reducible first | exact HB.out | apply below_alloc | apply pw_below_drewN | apply below_drew1 | refine below_set ?_ GE101.out | refine below_set ?_ GE102.out) | exact HB.out)) hb);have n9_ := Aside0.mk (hbox);have n10_ := Aside0.mk ((by rw [hg];exact (below_size (by repeat (first | (with_reducible first | exact HB.out | apply below_alloc | apply pw_below_drewN | apply below_drew1 | refine below_set ?_ GE101.out | refine below_set ?_ GE102.out) | exact HB.out))) : w.heap.size ≤ gb124));have n11_ := Aside0.mk ((by rw [hg];exact (below_size (by repeat (first | (with_reducible first | exact HB.out | apply below_alloc | apply pw_below_drewN | apply below_drew1 | refine below_set ?_ GE101.out | refine below_set ?_ GE102.out) | exact HB.out))) : w.heap.size ≤ gb124));have n12_ := Aside0.mk ((by rw [hg];exact Nat.ne_of_lt (blk_lt BK101.out) : gb101 ≠ gb124));have n13_ := Aside0.mk ((by rw [hg];exact Nat.ne_of_gt (blk_lt BK101.out) : gb124 ≠ gb101));have n14_ := Aside0.mk ((by rw [hg];exact Nat.ne_of_lt (blk_lt BK102.out) : gb102 ≠ gb124));have n15_ := Aside0.mk ((by rw [hg];exact Nat.ne_of_gt (blk_lt BK102.out) : gb124 ≠ gb102));clear HO107;clear HO110;clear HO113;clear HO116;clear HO120;clear HO123;clear BK101;clear BK102;clear HB;have HO107 := n0_;have HO110 := n1_;have HO113 := n2_;have HO116 := n3_;have HO120 := n4_;have HO123 := n5_;have BK101 := n6_;have BK102 := n7_;have HB := n8_;have BK124 := n9_;have GW124 := n10_;have GE124 := n11_;have NB101_124 := n12_;have NB124_101 := n13_;have NB102_124 := n14_;have NB124_102 := n15_;clear n0_ n1_ n2_ n3_ n4_ n5_ n6_ n7_ n8_ n9_ n10_ n11_ n12_ n13_ n14_ n15_;clear hb hbox hg;obtain ⟨Ao84, co84, eo84⟩ := Kd.S_slice HO120.out;subst eo84;have hnb85 := NB124_101.out;have hnc85 := NB101_124.out;have hnb86 := NB124_102.out;have hnc86 := NB102_124.out;have hcz87_0 : w83.cell? ⟨gb124, 0, none⟩ = some (.slice none 0 0) := (blk_cell BK124.out 0).trans rfl;have hcz87_1 : w83.cell? ⟨gb124, 1, none⟩ = some (.slice none 0 0) := (blk_cell BK124.out 1).trans rfl;have hfz87_0 := blk_frozen BK124.out 0;have hfz87_1 := blk_frozen BK124.out 1;obtain ⟨Ao88, co88, eo88⟩ := Kd.S_slice HO123.out;subst eo88;have hcz89_0 : w83.cell? ⟨gb102, 0, none⟩ = some (.slice A1_0 l1_0.length c1_0) := (blk_cell BK102.out 0).trans rfl;have hcz89_1 : w83.cell? ⟨gb102, 1, none⟩ = some (.slice A1_1 l1_1.length c1_1) := (blk_cell BK102.out 1).trans rfl;have hfz89_0 := blk_frozen BK102.out 0;have hfz89_1 := blk_frozen BK102.out 1) | ((with_reducible refine gate_callee (f := 37) rfl ?_);refine goesL_ (some 28) rfl rfl Try.func37 (by kernel_rfl) rfl #[.agg #[.slice A1_0 l1_0.length c1_0, .slice A1_1 l1_1.length c1_1]] rfl (by (try simp only [List.map_toArray, List.map_cons, List.map_nil]);first | done | rfl | (simp only [List.length_drop, List.length_take];rfl)) ?_;(with_reducible refine (laws_toSpan.calls k _ _ l1_0 _ _ l1_1 t125 t128 _ ?side1 ?side2 ?side3 ?side4 A23.out).mono ?_);(case side1 => exact Kd.C_below HR1_0.out (by repeat (first | (with_reducible first | exact HB.out | apply below_alloc | apply pw_below_drewN | apply below_drew1 | refine below_set ?_ GE101.out | refine below_set ?_ GE102.out | refine below_set ?_ GE124.out) | exact HB.out)));(case side2 => exact HC1_0.out);(case side3 => exact Kd.C_below HR1_1.out (by repeat (first | (with_reducible first | exact HB.out | apply below_alloc | apply pw_below_drewN | apply below_drew1 | refine below_set ?_ GE101.out | refine below_set ?_ GE102.out | refine below_set ?_ GE124.out) | exact HB.out)));(case side4 => exact HC1_1.out);rintro e w90 ⟨v126, v129, rfl, ho0, ho1, hb⟩;refine ⟨_, rfl, ?_⟩;have n0_ := Aside0.mk (Kd.S_mono (Kd.S_told (Kd.S_told (Kd.S_old (by (with_reducible repeat (first | apply Kd.S_alloc | apply Kd.S_drewN | apply Kd.S_drew));exact (Kd.S_mono (Kd.S_far (p := ⟨gb124, 1, none⟩) (Kd.S_far (p := ⟨gb124, 0, none⟩) (Kd.S_types HO107.out BK124.out (by decide)) (fun _ hk => hk.2) (.slice Ao84 t118.length co84)) (fun _ hk => hk.2) (.slice Ao88 t121.length co88)) (fun _ h_ => h_.1))) hb) (Kd.S_base ho0)) (Kd.S_base ho1)) (fun _ h_ => h_.1));have n1_ := Aside0.mk (Kd.S_mono (Kd.S_told (Kd.S_told (Kd.S_old (by (with_reducible repeat (first | apply Kd.S_alloc | apply Kd.S_drewN | apply Kd.S_drew));exact (Kd.S_mono (Kd.S_far (p := ⟨gb124, 1, none⟩) (Kd.S_far (p := ⟨gb124, 0, none⟩) (Kd.S_types HO110.out BK124.out (by decide)) (fun _ hk => hk.2) (.slice Ao84 t118.length co84)) (fun _ hk => hk.2) (.slice Ao88 t121.length co88)) (fun _ h_ => h_.1))) hb) (Kd.S_base ho0)) (Kd.S_base ho1)) (fun _ h_ => h_.1));have n2_ := Aside0.mk (Kd.S_mono (Kd.S_told (Kd.S_told (Kd.S_old (by (with_reducible repeat (first | apply Kd.S_alloc | apply Kd.S_drewN | apply Kd.S_drew));exact (Kd.S_mono (Kd.S_far (p := ⟨gb124, 1, none⟩) (Kd.S_far (p := ⟨gb124, 0, none⟩) (Kd.S_types HO113.out BK124.out (by decide)) (fun _ hk => hk.2) (.slice Ao84 t118.length co84)) (fun _ hk => hk.2) (.slice Ao88 t121.length co88)) (fun _ h_ => h_.1))) hb) (Kd.S_base ho0)) (Kd.S_base ho1)) (fun _ h_ => h_.1));have n3_ := Aside0.mk (Kd.S_mono (Kd.S_told (Kd.S_told (Kd.S_old (by (with_reducible repeat (first | apply Kd.S_alloc | apply Kd.S_drewN | apply Kd.S_drew));exact (Kd.S_mono (Kd.S_far (p := ⟨gb124, 1, none⟩) (Kd.S_far (p := ⟨gb124, 0, none⟩) (Kd.S_types HO116.out BK124.out (by decide)) (fun _ hk => hk.2) (.slice Ao84 t118.length co84)) (fun _ hk => hk.2) (.slice Ao88 t121.length co88)) (fun _ h_ => h_.1))) hb) (Kd.S_base ho0)) (Kd.S_base ho1)) (fun _ h_ => h_.1));have n4_ := Aside0.mk (Kd.S_mono (Kd.S_told (Kd.S_told (Kd.S_old (by (with_reducible repeat (first | apply Kd.S_alloc | apply Kd.S_drewN | apply Kd.S_drew));exact (Kd.S_mono (Kd.S_far (p := ⟨gb124, 1, none⟩) (Kd.S_far (p := ⟨gb124, 0, none⟩) (Kd.S_types HO120.out BK124.out (by decide)) (fun _ hk => hk.2) (.slice Ao84 t118.length co84)) (fun _ hk => hk.2) (.slice Ao88 t121.length co88)) (fun _ h_ => h_.1))) hb) (Kd.S_base ho0)) (Kd.S_base ho1)) (fun _ h_ => h_.1));have n5_ := Aside0.mk (Kd.S_mono (Kd.S_told (Kd.S_told (Kd.S_old (by (with_reducible repeat (first | apply Kd.S_alloc | apply Kd.S_drewN | apply Kd.S_drew));exact (Kd.S_mono (Kd.S_far (p := ⟨gb124, 1, none⟩) (Kd.S_far (p := ⟨gb124, 0, none⟩) (Kd.S_types HO123.out BK124.out (by decide)) (fun _ hk => hk.2) (.slice Ao84 t118.length co84)) (fun _ hk => hk.2) (.slice Ao88 t121.length co88)) (fun _ h_ => h_.1))) hb) (Kd.S_base ho0)) (Kd.S_base ho1)) (fun _ h_ => h_.1));have n6_ := Aside0.mk (Kd.S_lower (Kd.S_new' (Kd.S_new' (Kd.S_new' (Kd.S_new' (Kd.S_new' (Kd.S_new' ho0 (Kd.S_lt (by (with_reducible repeat (first | apply Kd.S_alloc | apply Kd.S_drewN | apply Kd.S_drew));exact (Kd.S_mono (Kd.S_far (p := ⟨gb124, 1, none⟩) (Kd.S_far (p := ⟨gb124, 0, none⟩) (Kd.S_types HO107.out BK124.out (by decide)) (fun _ hk => hk.2) (.slice Ao84 t118.length co84)) (fun _ hk => hk.2) (.slice Ao88 t121.length co88)) (fun _ h_ => h_.1))))) (Kd.S_lt (by (with_reducible repeat (first | apply Kd.S_alloc | apply Kd.S_drewN | apply Kd.S_drew));exact (Kd.S_mono (Kd.S_far (p := ⟨gb124, 1, none⟩) (Kd.S_far (p := ⟨gb124, 0, none⟩) (Kd.S_types HO110.out BK124.out (by decide)) (fun _ hk => hk.2) (.slice Ao84 t118.length co84)) (fun _ hk => hk.2) (.slice Ao88 t121.length co88)) (fun _ h_ => h_.1))))) (Kd.S_lt (by (with_reducible repeat (first | apply Kd.S_alloc | apply Kd.S_drewN | apply Kd.S_drew));exact (Kd.S_mono (Kd.S_far (p := ⟨gb124, 1, none⟩) (Kd.S_far (p := ⟨gb124, 0, none⟩) (Kd.S_types HO113.out BK124.out (by decide)) (fun _ hk => hk.2) (.slice Ao84 t118.length co84)) (fun _ hk => hk.2) (.slice Ao88 t121.length co88)) (fun _ h_ => h_.1))))) (Kd.S_lt (by (with_reducible repeat (first | apply Kd.S_alloc | apply Kd.S_drewN | apply Kd.S_drew));exact (Kd.S_mono (Kd.S_far (p := ⟨gb124, 1, none⟩) (Kd.S_far (p := ⟨gb124, 0, none⟩) (Kd.S_types HO116.out BK124.out (by decide)) (fun _ hk => hk.2) (.slice Ao84 t118.length co84)) (fun _ hk => hk.2) (.slice Ao88 t121.length co88)) (fun _ h_ => h_.1))))) (Kd.S_lt (by (with_reducible repeat (first | apply Kd.S_alloc | apply Kd.S_drewN | apply Kd.S_drew));exact (Kd.S_mono (Kd.S_far (p := ⟨gb124, 1, none⟩) (Kd.S_far (p := ⟨gb124, 0, none⟩) (Kd.S_types HO120.out BK124.out (by decide)) (fun _ hk => hk.2) (.slice Ao84 t118.length co84)) (fun _ hk => hk.2) (.slice Ao88 t121.length co88)) (fun _ h_ => h_.1))))) (Kd.S_lt (by (with_reducible repeat (first | apply Kd.S_alloc | apply Kd.S_drewN | apply Kd.S_drew));exact (Kd.S_mono (Kd.S_far (p := ⟨gb124, 1, none⟩) (Kd.S_far (p := ⟨gb124, 0, none⟩) (Kd.S_types HO123.out BK124.out (by decide)) (fun _ hk => hk.2) (.slice Ao84 t118.length co84)) (fun _ hk => hk.2) (.slice Ao88 t121.length co88)) (fun _ h_ => h_.1))))) (below_size (by repeat (first | (with_reducible first | exact HB.out | apply below_alloc | apply pw_below_drewN | apply below_drew1 | refine below_set ?_ GE101.out | refine below_set ?_ GE102.out | refine below_set ?_ GE124.out) | exact HB.out))));have n7_ := Aside0.mk (Kd.S_lower (Kd.S_new' (Kd.S_new' (Kd.S_new' (Kd.S_new' (Kd.S_new' (Kd.S_new' ho1 (Kd.S_lt (by (with_reducible repeat (first | apply Kd.S_alloc | apply Kd.S_drewN | apply Kd.S_drew));exact (Kd.S_mono (Kd.S_far (p := ⟨gb124, 1, none⟩) (Kd.S_far (p := ⟨gb124, 0, none⟩) (Kd.S_types HO107.out BK124.out (by decide)) (fun _ hk => hk.2) (.slice Ao84 t118.length co84)) (fun _ hk => hk.2) (.slice Ao88 t121.length co88)) (fun _ h_ => h_.1))))) (Kd.S_lt (by (with_reducible repeat (first | apply Kd.S_alloc | apply Kd.S_drewN | apply Kd.S_drew));exact (Kd.S_mono (Kd.S_far (p := ⟨gb124, 1, none⟩) (Kd.S_far (p := ⟨gb124, 0, none⟩) (Kd.S_types HO110.out BK124.out (by decide)) (fun _ hk => hk.2) (.slice Ao84 t118.length co84)) (fun _ hk => hk.2) (.slice Ao88 t121.length co88)) (fun _ h_ => h_.1))))) (Kd.S_lt (by (with_reducible repeat (first | apply Kd.S_alloc | apply Kd.S_drewN | apply Kd.S_drew));exact (Kd.S_mono (Kd.S_far (p := ⟨gb124, 1, none⟩) (Kd.S_far (p := ⟨gb124, 0, none⟩) (Kd.S_types HO113.out BK124.out (by decide)) (fun _ hk => hk.2) (.slice Ao84 t118.length co84)) (fun _ hk => hk.2) (.slice Ao88 t121.length co88)) (fun _ h_ => h_.1))))) (Kd.S_lt (by (with_reducible repeat (first | apply Kd.S_alloc | apply Kd.S_drewN | apply Kd.S_drew));exact (Kd.S_mono (Kd.S_far (p := ⟨gb124, 1, none⟩) (Kd.S_far (p := ⟨gb124, 0, none⟩) (Kd.S_types HO116.out BK124.out (by decide)) (fun _ hk => hk.2) (.slice Ao84 t118.length co84)) (fun _ hk => hk.2) (.slice Ao88 t121.length co88)) (fun _ h_ => h_.1))))) (Kd.S_lt (by (with_reducible repeat (first | apply Kd.S_alloc | apply Kd.S_drewN | apply Kd.S_drew));exact (Kd.S_mono (Kd.S_far (p := ⟨gb124, 1, none⟩) (Kd.S_far (p := ⟨gb124, 0, none⟩) (Kd.S_types HO120.out BK124.out (by decide)) (fun _ hk => hk.2) (.slice Ao84 t118.length co84)) (fun _ hk => hk.2) (.slice Ao88 t121.length co88)) (fun _ h_ => h_.1))))) (Kd.S_lt (by (with_reducible repeat (first | apply Kd.S_alloc | apply Kd.S_drewN | apply Kd.S_drew));exact (Kd.S_mono (Kd.S_far (p := ⟨gb124, 1, none⟩) (Kd.S_far (p := ⟨gb124, 0, none⟩) (Kd.S_types HO123.out BK124.out (by decide)) (fun _ hk => hk.2) (.slice Ao84 t118.length co84)) (fun _ hk => hk.2) (.slice Ao88 t121.length co88)) (fun _ h_ => h_.1))))) (below_size (by repeat (first | (with_reducible first | exact HB.out | apply below_alloc | apply pw_below_drewN | apply below_drew1 | refine below_set ?_ GE101.out | refine below_set ?_ GE102.out | refine below_set ?_ GE124.out) | exact HB.out))));have n8_ := Aside0.mk (blk_below (g := gb101) (o := .cells #[.slice A0_0 l0_0.length c0_0, .slice A0_1 l0_1.length c0_1] 48 (0, 0)) (by (with_reducible repeat (first | refine blk_drewN ?_ _ | refine blk_drew ?_ | refine blk_alloc ?_ _));refine blk_far ?_ NB101_124.out _;(with_reducible repeat (first | refine blk_drewN ?_ _ | refine blk_drew ?_ | refine blk_alloc ?_ _));refine blk_far ?_ NB101_124.out _;(with_reducible repeat (first | refine blk_drewN ?_ _ | refine blk_drew ?_ | refine blk_alloc ?_ _));exact BK101.out) hb);have n9_ := Aside0.mk (blk_below (g := gb102) (o := .cells #[.slice A1_0 l1_0.length c1_0, .slice A1_1 l1_1.length c1_1] 48 (0, 0)) (by (with_reducible repeat (first | refine blk_drewN ?_ _ | refine blk_drew ?_ | refine blk_alloc ?_ _));refine blk_far ?_ NB102_124.out _;(with_reducible repeat (first | refine blk_drewN ?_ _ | refine blk_drew ?_ | refine blk_alloc ?_ _));refine blk_far ?_ NB102_124.out _;(with_reducible repeat (first | refine blk_drewN ?_ _ | refine blk_drew ?_ | refine blk_alloc ?_ _));exact BK102.out) hb);have n10_ := Aside0.mk (blk_below (g := gb124) (o := .cells #[.slice Ao84 t118.length co84, .slice Ao88 t121.length co88] 52 (0, 0)) (by (with_reducible repeat (first | refine blk_drewN ?_ _ | refine blk_drew ?_ | refine blk_alloc ?_ _));refine blk_put (cs := #[.slice Ao84 t118.length co84, .slice none 0 0]) ?_ 1 _ rfl;(with_reducible repeat (first | refine blk_drewN ?_ _ | refine blk_drew ?_ | refine blk_alloc ?_ _));refine blk_put (cs := #[.slice none 0 0, .slice none 0 0]) ?_ 0 _ rfl;(with_reducible repeat (first | refine blk_drewN ?_ _ | refine blk_drew ?_ | refine blk_alloc ?_ _));exact BK124.out) hb);have n11_ := Aside0.mk (below_step (by repeat (first | (with_reducible first | exact HB.out | apply below_alloc | apply pw_below_drewN | apply below_drew1 | refine below_set ?_ GE101.out | refine below_set ?_ GE102.out | refine below_set ?_ GE124.out) | exact HB.out)) hb);clear HO107;clear HO110;clear HO113;clear HO116;clear HO120;clear HO123;clear BK101;clear BK102;clear BK124;clear HB;have HO107 := n0_;have HO110 := n1_;have HO113 := n2_;have HO116 := n3_;have HO120 := n4_;have HO123 := n5_;have HO127 := n6_;have HO130 := n7_;have BK101 := n8_;have BK102 := n9_;have BK124 := n10_;have HB := n11_;clear n0_ n1_ n2_ n3_ n4_ n5_ n6_ n7_ n8_ n9_ n10_ n11_;(try clear hb);(try clear hb2);(try clear hk);(try clear hi);(try clear ho0);(try clear ho1)) | ((with_reducible refine gate_dst (N := 8) rfl ?_);refine box_event ?hg (N := 8) ?hd (cs := #[.slice none 0 0, .slice none 0 0]) (t := 52) ?hr ?_;(case hd => rfl);(case hg => rfl);(case hr => first | (go_simp;done) | (go_simp;rfl));intro gb131 hg w91 hbox hb;have n0_ := Aside0.mk (Kd.S_below (by exact HO107.out) hb);have n1_ := Aside0.mk (Kd.S_below (by exact HO110.out) hb);have n2_ := Aside0.mk (Kd.S_below (by exact HO113.out) hb);have n3_ := Aside0.mk (Kd.S_below (by exact HO116.out) hb);have n4_ := Aside0.mk (Kd.S_below (by exact HO120.out) hb);have n5_ := Aside0.mk (Kd.S_below (by exact HO123.out) hb);have n6_ := Aside0.mk (Kd.S_below (by exact HO127.out) hb);have n7_ := Aside0.mk (Kd.S_below (by exact HO130.out) hb);have n8_ := Aside0.mk (blk_below BK101.out hb);have n9_ := Aside0.mk (blk_below BK102.out hb);have n10_ := Aside0.mk (blk_below BK124.out hb);have n11_ := Aside0.mk (below_step (by repeat (first | (with_reducible first | exact HB.out | apply below_alloc | apply pw_below_drewN | apply below_drew1 | refine below_set ?_ GE101.out | refine below_set ?_ GE102.out | refine below_set ?_ GE124.out) | exact HB.out)) hb);have n12_ := Aside0.mk (hbox);have n13_ := Aside0.mk ((by rw [hg];exact (below_size (by repeat (first | (with_reducible first | exact HB.out | apply below_alloc | apply pw_below_drewN | apply below_drew1 | refine below_set ?_ GE101.out | refine below_set ?_ GE102.out | refine below_set ?_ GE124.out) | exact HB.out))) : w.heap.size ≤ gb131));have n14_ := Aside0.mk ((by rw [hg];exact (below_size (by repeat (first | (with_reducible first | exact HB.out | apply below_alloc | apply pw_below_drewN | apply below_drew1 | refine below_set ?_ GE101.out | refine below_set ?_ GE102.out | refine below_set ?_ GE124.out) | exact HB.out))) : w.heap.size ≤ gb131));have n15_ := Aside0.mk ((by rw [hg];exact Nat.ne_of_lt (blk_lt BK101.out) : gb101 ≠ gb131));have n16_ := Aside0.mk ((by rw [hg];exact Nat.ne_of_gt (blk_lt BK101.out) : gb131 ≠ gb101));have n17_ := Aside0.mk ((by rw [hg];exact Nat.ne_of_lt (blk_lt BK102.out) : gb102 ≠ gb131));have n18_ := Aside0.mk ((by rw [hg];exact Nat.ne_of_gt (blk_lt BK102.out) : gb131 ≠ gb102));have n19_ := Aside0.mk ((by rw [hg];exact Nat.ne_of_lt (blk_lt BK124.out) : gb124 ≠ gb131));have n20_ := Aside0.mk ((by rw [hg];exact Nat.ne_of_gt (blk_lt BK124.out) : gb131 ≠ gb124));clear HO107;clear HO110;clear HO113;clear HO116;clear HO120;clear HO123;clear HO127;clear HO130;clear BK101;clear BK102;clear BK124;clear HB;have HO107 := n0_;have HO110 := n1_;have HO113 := n2_;have HO116 := n3_;have HO120 := n4_;have HO123 := n5_;have HO127 := n6_;have HO130 := n7_;have BK101 := n8_;have BK102 := n9_;have BK124 := n10_;have HB := n11_;have BK131 := n12_;have GW131 := n13_;have GE131 := n14_;have NB101_131 := n15_;have NB131_101 := n16_;have NB102_131 := n17_;have NB131_102 := n18_;have NB124_131 := n19_;have NB131_124 := n20_;clear n0_ n1_ n2_ n3_ n4_ n5_ n6_ n7_ n8_ n9_ n10_ n11_ n12_ n13_ n14_ n15_ n16_ n17_ n18_ n19_ n20_;clear hb hbox hg;obtain ⟨Ao92, co92, eo92⟩ := Kd.S_slice HO127.out;subst eo92;have hnb93 := NB131_101.out;have hnc93 := NB101_131.out;have hnb94 := NB131_102.out;have hnc94 := NB102_131.out;have hnb95 := NB131_124.out;have hnc95 := NB124_131.out;have hcz96_0 : w91.cell? ⟨gb131, 0, none⟩ = some (.slice none 0 0) := (blk_cell BK131.out 0).trans rfl;have hcz96_1 : w91.cell? ⟨gb131, 1, none⟩ = some (.slice none 0 0) := (blk_cell BK131.out 1).trans rfl;have hfz96_0 := blk_frozen BK131.out 0;have hfz96_1 := blk_frozen BK131.out 1;obtain ⟨Ao97, co97, eo97⟩ := Kd.S_slice HO130.out;subst eo97;have hcz98_0 : w91.cell? ⟨gb124, 0, none⟩ = some (.slice Ao84 t118.length co84) := (blk_cell BK124.out 0).trans rfl;have hcz98_1 : w91.cell? ⟨gb124, 1, none⟩ = some (.slice Ao88 t121.length co88) := (blk_cell BK124.out 1).trans rfl;have hfz98_0 := blk_frozen BK124.out 0;have hfz98_1 := blk_frozen BK124.out 1) | ((with_reducible refine gate_callee (f := 38) rfl ?_);refine goesL_ (some 31) rfl rfl Try.func38 (by kernel_rfl) rfl #[.agg #[.slice Ao84 t118.length co84, .slice Ao88 t121.length co88], .agg #[.slice Ao92 t125.length co92, .slice Ao97 t128.length co97]] rfl (by (try simp only [List.map_toArray, List.map_cons, List.map_nil]);first | done | rfl | (simp only [List.length_drop, List.length_take];rfl)) ?_;(with_reducible refine (impl_SpanSame.calls k _ _ t118 _ _ t121 _ _ t125 _ _ t128 t132 _ ?side1 ?side2 ?side3 ?side4 ?side5 ?side6 ?side7 ?side8 A24.out).mono ?_);(case side1 => refine (Kd.S_reads' (e := 27) (base := w.heap.size) (ok := fun k_ => ((((((some k_ ≠ (.slice Ao88 t121.length co88 : Value).ownBlock ∧ some k_ ≠ (.slice Ao76 t105.length co76 : Value).ownBlock) ∧ some k_ ≠ (.slice Ao77 t108.length co77 : Value).ownBlock) ∧ some k_ ≠ (.slice Ao78 t111.length co78 : Value).ownBlock) ∧ some k_ ≠ (.slice Ao79 t114.length co79 : Value).ownBlock) ∧ some k_ ≠ (.slice Ao92 t125.length co92 : Value).ownBlock) ∧ some k_ ≠ (.slice Ao97 t128.length co97 : Value).ownBlock)) (n := t118.length) (c := co84) ?_).2.2;exact (by (with_reducible repeat (first | apply Kd.S_alloc | apply Kd.S_drewN | apply Kd.S_drew));exact (Kd.S_mono (Kd.S_far (p := ⟨gb131, 1, none⟩) (Kd.S_far (p := ⟨gb131, 0, none⟩) (Kd.S_types HO120.out BK131.out (by decide)) (fun _ hk => hk.2) (.slice Ao92 t125.length co92)) (fun _ hk => hk.2) (.slice Ao97 t128.length co97)) (fun _ h_ => h_.1))));(case side2 => exact (Kd.S_reads' HO120.out).2.1);(case side3 => refine (Kd.S_reads' (e := 27) (base := w.heap.size) (ok := fun k_ => ((((((some k_ ≠ (.slice Ao84 t118.length co84 : Value).ownBlock ∧ some k_ ≠ (.slice Ao76 t105.length co76 : Value).ownBlock) ∧ some k_ ≠ (.slice Ao77 t108.length co77 : Value).ownBlock) ∧ some k_ ≠ (.slice Ao78 t111.length co78 : Value).ownBlock) ∧ some k_ ≠ (.slice Ao79 t114.length co79 : Value).ownBlock) ∧ some k_ ≠ (.slice Ao92 t125.length co92 : Value).ownBlock) ∧ some k_ ≠ (.slice Ao97 t128.length co97 : Value).ownBlock)) (n := t121.length) (c := co88) ?_).2.2;exact (by (with_reducible repeat (first | apply Kd.S_alloc | apply Kd.S_drewN | apply Kd.S_drew));exact (Kd.S_mono (Kd.S_far (p := ⟨gb131, 1, none⟩) (Kd.S_far (p := ⟨gb131, 0, none⟩) (Kd.S_types HO123.out BK131.out (by decide)) (fun _ hk => hk.2) (.slice Ao92 t125.length co92)) (fun _ hk => hk.2) (.slice Ao97 t128.length co97)) (fun _ h_ => h_.1))));(case side4 => exact (Kd.S_reads' HO123.out).2.1);(case side5 => refine (Kd.S_reads' (e := 27) (base := w.heap.size) (ok := fun k_ => ((((((some k_ ≠ (.slice Ao97 t128.length co97 : Value).ownBlock ∧ some k_ ≠ (.slice Ao76 t105.length co76 : Value).ownBlock) ∧ some k_ ≠ (.slice Ao77 t108.length co77 : Value).ownBlock) ∧ some k_ ≠ (.slice Ao78 t111.length co78 : Value).ownBlock) ∧ some k_ ≠ (.slice Ao79 t114.length co79 : Value).ownBlock) ∧ some k_ ≠ (.slice Ao84 t118.length co84 : Value).ownBlock) ∧ some k_ ≠ (.slice Ao88 t121.length co88 : Value).ownBlock)) (n := t125.length) (c := co92) ?_).2.2;exact (by (with_reducible repeat (first | apply Kd.S_alloc | apply Kd.S_drewN | apply Kd.S_drew));exact (Kd.S_mono (Kd.S_far (p := ⟨gb131, 1, none⟩) (Kd.S_far (p := ⟨gb131, 0, none⟩) (Kd.S_types HO127.out BK131.out (by decide)) (fun _ hk => hk.2) (.slice Ao92 t125.length co92)) (fun _ hk => hk.2) (.slice Ao97 t128.length co97)) (fun _ h_ => h_.1))));(case side6 => exact (Kd.S_reads' HO127.out).2.1);(case side7 => refine (Kd.S_reads' (e := 27) (base := w.heap.size) (ok := fun k_ => ((((((some k_ ≠ (.slice Ao92 t125.length co92 : Value).ownBlock ∧ some k_ ≠ (.slice Ao76 t105.length co76 : Value).ownBlock) ∧ some k_ ≠ (.slice Ao77 t108.length co77 : Value).ownBlock) ∧ some k_ ≠ (.slice Ao78 t111.length co78 : Value).ownBlock) ∧ some k_ ≠ (.slice Ao79 t114.length co79 : Value).ownBlock) ∧ some k_ ≠ (.slice Ao84 t118.length co84 : Value).ownBlock) ∧ some k_ ≠ (.slice Ao88 t121.length co88 : Value).ownBlock)) (n := t128.length) (c := co97) ?_).2.2;exact (by (with_reducible repeat (first | apply Kd.S_alloc | apply Kd.S_drewN | apply Kd.S_drew));exact (Kd.S_mono (Kd.S_far (p := ⟨gb131, 1, none⟩) (Kd.S_far (p := ⟨gb131, 0, none⟩) (Kd.S_types HO130.out BK131.out (by decide)) (fun _ hk => hk.2) (.slice Ao92 t125.length co92)) (fun _ hk => hk.2) (.slice Ao97 t128.length co97)) (fun _ h_ => h_.1))));(case side8 => exact (Kd.S_reads' HO130.out).2.1);rintro e w99 ⟨rfl, hb⟩;refine ⟨_, rfl, ?_⟩;have n0_ := Aside0.mk (Kd.S_below (by (with_reducible repeat (first | apply Kd.S_alloc | apply Kd.S_drewN | apply Kd.S_drew));exact (Kd.S_mono (Kd.S_far (p := ⟨gb131, 1, none⟩) (Kd.S_far (p := ⟨gb131, 0, none⟩) (Kd.S_types HO107.out BK131.out (by decide)) (fun _ hk => hk.2) (.slice Ao92 t125.length co92)) (fun _ hk => hk.2) (.slice Ao97 t128.length co97)) (fun _ h_ => h_.1))) hb);have n1_ := Aside0.mk (Kd.S_below (by (with_reducible repeat (first | apply Kd.S_alloc | apply Kd.S_drewN | apply Kd.S_drew));exact (Kd.S_mono (Kd.S_far (p := ⟨gb131, 1, none⟩) (Kd.S_far (p := ⟨gb131, 0, none⟩) (Kd.S_types HO110.out BK131.out (by decide)) (fun _ hk => hk.2) (.slice Ao92 t125.length co92)) (fun _ hk => hk.2) (.slice Ao97 t128.length co97)) (fun _ h_ => h_.1))) hb);have n2_ := Aside0.mk (Kd.S_below (by (with_reducible repeat (first | apply Kd.S_alloc | apply Kd.S_drewN | apply Kd.S_drew));exact (Kd.S_mono (Kd.S_far (p := ⟨gb131, 1, none⟩) (Kd.S_far (p := ⟨gb131, 0, none⟩) (Kd.S_types HO113.out BK131.out (by decide)) (fun _ hk => hk.2) (.slice Ao92 t125.length co92)) (fun _ hk => hk.2) (.slice Ao97 t128.length co97)) (fun _ h_ => h_.1))) hb);have n3_ := Aside0.mk (Kd.S_below (by (with_reducible repeat (first | apply Kd.S_alloc | apply Kd.S_drewN | apply Kd.S_drew));exact (Kd.S_mono (Kd.S_far (p := ⟨gb131, 1, none⟩) (Kd.S_far (p := ⟨gb131, 0, none⟩) (Kd.S_types HO116.out BK131.out (by decide)) (fun _ hk => hk.2) (.slice Ao92 t125.length co92)) (fun _ hk => hk.2) (.slice Ao97 t128.length co97)) (fun _ h_ => h_.1))) hb);have n4_ := Aside0.mk (Kd.S_below (by (with_reducible repeat (first | apply Kd.S_alloc | apply Kd.S_drewN | apply Kd.S_drew));exact (Kd.S_mono (Kd.S_far (p := ⟨gb131, 1, none⟩) (Kd.S_far (p := ⟨gb131, 0, none⟩) (Kd.S_types HO120.out BK131.out (by decide)) (fun _ hk => hk.2) (.slice Ao92 t125.length co92)) (fun _ hk => hk.2) (.slice Ao97 t128.length co97)) (fun _ h_ => h_.1))) hb);have n5_ := Aside0.mk (Kd.S_below (by (with_reducible repeat (first | apply Kd.S_alloc | apply Kd.S_drewN | apply Kd.S_drew));exact (Kd.S_mono (Kd.S_far (p := ⟨gb131, 1, none⟩) (Kd.S_far (p := ⟨gb131, 0, none⟩) (Kd.S_types HO123.out BK131.out (by decide)) (fun _ hk => hk.2) (.slice Ao92 t125.length co92)) (fun _ hk => hk.2) (.slice Ao97 t128.length co97)) (fun _ h_ => h_.1))) hb);have n6_ := Aside0.mk (Kd.S_below (by (with_reducible repeat (first | apply Kd.S_alloc | apply Kd.S_drewN | apply Kd.S_drew));exact (Kd.S_mono (Kd.S_far (p := ⟨gb131, 1, none⟩) (Kd.S_far (p := ⟨gb131, 0, none⟩) (Kd.S_types HO127.out BK131.out (by decide)) (fun _ hk => hk.2) (.slice Ao92 t125.length co92)) (fun _ hk => hk.2) (.slice Ao97 t128.length co97)) (fun _ h_ => h_.1))) hb);have n7_ := Aside0.mk (Kd.S_below (by (with_reducible repeat (first | apply Kd.S_alloc | apply Kd.S_drewN | apply Kd.S_drew));exact (Kd.S_mono (Kd.S_far (p := ⟨gb131, 1, none⟩) (Kd.S_far (p := ⟨gb131, 0, none⟩) (Kd.S_types HO130.out BK131.out (by decide)) (fun _ hk => hk.2) (.slice Ao92 t125.length co92)) (fun _ hk => hk.2) (.slice Ao97 t128.length co97)) (fun _ h_ => h_.1))) hb);have n8_ := Aside0.mk (blk_below (g := gb101) (o := .cells #[.slice A0_0 l0_0.length c0_0, .slice A0_1 l0_1.length c0_1] 48 (0, 0)) (by (with_reducible repeat (first | refine blk_drewN ?_ _ | refine blk_drew ?_ | refine blk_alloc ?_ _));refine blk_far ?_ NB101_131.out _;(with_reducible repeat (first | refine blk_drewN ?_ _ | refine blk_drew ?_ | refine blk_alloc ?_ _));refine blk_far ?_ NB101_131.out _;(with_reducible repeat (first | refine blk_drewN ?_ _ | refine blk_drew ?_ | refine blk_alloc ?_ _));exact BK101.out) hb);have n9_ := Aside0.mk (blk_below (g := gb102) (o := .cells #[.slice A1_0 l1_0.length c1_0, .slice A1_1 l1_1.length c1_1] 48 (0, 0)) (by (with_reducible repeat (first | refine blk_drewN ?_ _ | refine blk_drew ?_ | refine blk_alloc ?_ _));refine blk_far ?_ NB102_131.out _;(with_reducible repeat (first | refine blk_drewN ?_ _ | refine blk_drew ?_ | refine blk_alloc ?_ _));refine blk_far ?_ NB102_131.out _;(with_reducible repeat (first | refine blk_drewN ?_ _ | refine blk_drew ?_ | refine blk_alloc ?_ _));exact BK102.out) hb);have n10_ := Aside0.mk (blk_below (g := gb124) (o := .cells #[.slice Ao84 t118.length co84, .slice Ao88 t121.length co88] 52 (0, 0)) (by (with_reducible repeat (first | refine blk_drewN ?_ _ | refine blk_drew ?_ | refine blk_alloc ?_ _));refine blk_far ?_ NB124_131.out _;(with_reducible repeat (first | refine blk_drewN ?_ _ | refine blk_drew ?_ | refine blk_alloc ?_ _));refine blk_far ?_ NB124_131.out _;(with_reducible repeat (first | refine blk_drewN ?_ _ | refine blk_drew ?_ | refine blk_alloc ?_ _));exact BK124.out) hb);have n11_ := Aside0.mk (blk_below (g := gb131) (o := .cells #[.slice Ao92 t125.length co92, .slice Ao97 t128.length co97] 52 (0, 0)) (by (with_reducible repeat (first | refine blk_drewN ?_ _ | refine blk_drew ?_ | refine blk_alloc ?_ _));refine blk_put (cs := #[.slice Ao92 t125.length co92, .slice none 0 0]) ?_ 1 _ rfl;(with_reducible repeat (first | refine blk_drewN ?_ _ | refine blk_drew ?_ | refine blk_alloc ?_ _));refine blk_put (cs := #[.slice none 0 0, .slice none 0 0]) ?_ 0 _ rfl;(with_reducible repeat (first | refine blk_drewN ?_ _ | refine blk_drew ?_ | refine blk_alloc ?_ _));exact BK131.out) hb);have n12_ := Aside0.mk (below_step (by repeat (first | (with_reducible first | exact HB.out | apply below_alloc | apply pw_below_drewN | apply below_drew1 | refine below_set ?_ GE101.out | refine below_set ?_ GE102.out | refine below_set ?_ GE124.out | refine below_set ?_ GE131.out) | exact HB.out)) hb);clear HO107;clear HO110;clear HO113;clear HO116;clear HO120;clear HO123;clear HO127;clear HO130;clear BK101;clear BK102;clear BK124;clear BK131;clear HB;have HO107 := n0_;have HO110 := n1_;have HO113 := n2_;have HO116 := n3_;have HO120 := n4_;have HO123 := n5_;have HO127 := n6_;have HO130 := n7_;have BK101 := n8_;have BK102 := n9_;have BK124 := n10_;have BK131 := n11_;have HB := n12_;clear n0_ n1_ n2_ n3_ n4_ n5_ n6_ n7_ n8_ n9_ n10_ n11_ n12_;(try clear hb);(try clear hb2);(try clear hk);(try clear hi)))
      have n0_ := Aside0.mk (Kd.S_drew HO107.out)
      have n1_ := Aside0.mk (Kd.S_drew HO110.out)
      have n2_ := Aside0.mk (Kd.S_drew HO113.out)
      have n3_ := Aside0.mk (Kd.S_drew HO116.out)
      have n4_ := Aside0.mk (Kd.S_drew HO120.out)
      have n5_ := Aside0.mk (Kd.S_drew HO123.out)
      have n6_ := Aside0.mk (Kd.S_drew HO127.out)
      have n7_ := Aside0.mk (Kd.S_drew HO130.out)
      have n8_ := Aside0.mk (blk_drew BK101.out)
      have n9_ := Aside0.mk (blk_drew BK102.out)
      have n10_ := Aside0.mk (blk_drew BK124.out)
      have n11_ := Aside0.mk (blk_drew BK131.out)
      have n12_ := Aside0.mk (below_drew1 HB.out)
      clear HO107
      clear HO110
      clear HO113
      clear HO116
      clear HO120
      clear HO123
      clear HO127
      clear HO130
      clear BK101
      clear BK102
      clear BK124
      clear BK131
      clear HB
      have HO107 := n0_
      have HO110 := n1_
      have HO113 := n2_
      have HO116 := n3_
      have HO120 := n4_
      have HO123 := n5_
      have HO127 := n6_
      have HO130 := n7_
      have BK101 := n8_
      have BK102 := n9_
      have BK124 := n10_
      have BK131 := n11_
      have HB := n12_
      clear n0_ n1_ n2_ n3_ n4_ n5_ n6_ n7_ n8_ n9_ n10_ n11_ n12_
      refine start_ (n := 5) (S := fun w' => w'.cell? ⟨gb124, 0, none⟩ = some (.slice Ao84 t118.length co84) ∧ w'.cell? ⟨gb124, 1, none⟩ = some (.slice Ao88 t121.length co88) ∧ w'.cell? ⟨gb101, 0, none⟩ = some (.slice A0_0 l0_0.length c0_0) ∧ w'.cell? ⟨gb101, 1, none⟩ = some (.slice A0_1 l0_1.length c0_1)) (ds := []) #[false, false, false, false, false] (by kernel_rfl) rfl rfl ⟨(blk_cell BK124.out 0).trans rfl, (blk_cell BK124.out 1).trans rfl, (blk_cell BK101.out 0).trans rfl, (blk_cell BK101.out 1).trans rfl⟩ (fun hHeld => ?_)
      generalize w99.drew = w100 at HO107 HO110 HO113 HO116 HO120 HO123 HO127 HO130 BK101 BK102 BK124 BK131 HB hHeld ⊢
      refine take_ (i := 0) (N := some 35) (v := ?_) (a' := ?_) #[true, false, false, false, false] rfl rfl (by kernel_rfl) (fun _ _ _ h => h) (Or.inl ⟨by rfl, ?_⟩) hHeld ?_ ?_
      rotate_left
      ·rintro w' ⟨s0, s1, s2, s3⟩
       go_simp
       with_reducible rfl
      rotate_left
      ·simp only [Act.put, List.setIfInBounds_toArray, List.set_cons_zero, List.set_cons_succ, i64_w, i32_w]
       rfl
      refine take_ (i := 1) (N := some 36) (v := ?_) (a' := ?_) #[true, true, false, false, false] rfl rfl (by kernel_rfl) (fun _ _ _ h => h) (Or.inl ⟨by rfl, ?_⟩) hHeld ?_ ?_
      rotate_left
      ·rintro w' ⟨s0, s1, s2, s3⟩
       go_simp
       with_reducible rfl
      rotate_left
      ·simp only [Act.put, List.setIfInBounds_toArray, List.set_cons_zero, List.set_cons_succ, i64_w, i32_w]
       rfl
      refine one_ (i := 2) (N := some 37) #[true, true, true, false, false] rfl rfl (by kernel_rfl) (by decide) (fun K hK => ?_)
      refine goes_ Try.func37 (by kernel_rfl) rfl #[.agg #[.slice A0_0 l0_0.length c0_0, .slice A0_1 l0_1.length c0_1]] (by rfl) rfl rfl (by (try simp only [List.map_toArray, List.map_cons, List.map_nil]);first | done | rfl | (simp only [List.length_drop, List.length_take];rfl)) ?_
      with_reducible refine (laws_toSpan.calls k _ _ l0_0 _ _ l0_1 t133 t136 _ ?side1 ?side2 ?side3 ?side4 A60.out).mono ?_
      (case side1 => repeat (first | exact (Kd.C_below HR0_0.out HB.out) | (with_reducible refine Kd.C_alloc ?_ _) | (with_reducible refine Kd.C_drewN ?_ _) | (with_reducible refine Kd.C_drew ?_)))
      (case side2 => exact HC0_0.out)
      (case side3 => repeat (first | exact (Kd.C_below HR0_1.out HB.out) | (with_reducible refine Kd.C_alloc ?_ _) | (with_reducible refine Kd.C_drewN ?_ _) | (with_reducible refine Kd.C_drew ?_)))
      (case side4 => exact HC0_1.out)
      rintro e w101 ⟨v134, v137, rfl, ho0, ho1, hb⟩
      refine ⟨_, rfl, ?_⟩
      have n0_ := Aside0.mk (Kd.S_mono (Kd.S_told (Kd.S_told (Kd.S_old (by exact HO107.out) hb) (Kd.S_base ho0)) (Kd.S_base ho1)) (fun _ h_ => h_.1))
      have n1_ := Aside0.mk (Kd.S_mono (Kd.S_told (Kd.S_told (Kd.S_old (by exact HO110.out) hb) (Kd.S_base ho0)) (Kd.S_base ho1)) (fun _ h_ => h_.1))
      have n2_ := Aside0.mk (Kd.S_mono (Kd.S_told (Kd.S_told (Kd.S_old (by exact HO113.out) hb) (Kd.S_base ho0)) (Kd.S_base ho1)) (fun _ h_ => h_.1))
      have n3_ := Aside0.mk (Kd.S_mono (Kd.S_told (Kd.S_told (Kd.S_old (by exact HO116.out) hb) (Kd.S_base ho0)) (Kd.S_base ho1)) (fun _ h_ => h_.1))
      have n4_ := Aside0.mk (Kd.S_mono (Kd.S_told (Kd.S_told (Kd.S_old (by exact HO120.out) hb) (Kd.S_base ho0)) (Kd.S_base ho1)) (fun _ h_ => h_.1))
      have n5_ := Aside0.mk (Kd.S_mono (Kd.S_told (Kd.S_told (Kd.S_old (by exact HO123.out) hb) (Kd.S_base ho0)) (Kd.S_base ho1)) (fun _ h_ => h_.1))
      have n6_ := Aside0.mk (Kd.S_mono (Kd.S_told (Kd.S_told (Kd.S_old (by exact HO127.out) hb) (Kd.S_base ho0)) (Kd.S_base ho1)) (fun _ h_ => h_.1))
      have n7_ := Aside0.mk (Kd.S_mono (Kd.S_told (Kd.S_told (Kd.S_old (by exact HO130.out) hb) (Kd.S_base ho0)) (Kd.S_base ho1)) (fun _ h_ => h_.1))
      have n8_ := Aside0.mk (Kd.S_lower (Kd.S_new' (Kd.S_new' (Kd.S_new' (Kd.S_new' (Kd.S_new' (Kd.S_new' (Kd.S_new' (Kd.S_new' ho0 (Kd.S_lt (by exact HO107.out))) (Kd.S_lt (by exact HO110.out))) (Kd.S_lt (by exact HO113.out))) (Kd.S_lt (by exact HO116.out))) (Kd.S_lt (by exact HO120.out))) (Kd.S_lt (by exact HO123.out))) (Kd.S_lt (by exact HO127.out))) (Kd.S_lt (by exact HO130.out))) (below_size (by exact HB.out)))
      have n9_ := Aside0.mk (Kd.S_lower (Kd.S_new' (Kd.S_new' (Kd.S_new' (Kd.S_new' (Kd.S_new' (Kd.S_new' (Kd.S_new' (Kd.S_new' ho1 (Kd.S_lt (by exact HO107.out))) (Kd.S_lt (by exact HO110.out))) (Kd.S_lt (by exact HO113.out))) (Kd.S_lt (by exact HO116.out))) (Kd.S_lt (by exact HO120.out))) (Kd.S_lt (by exact HO123.out))) (Kd.S_lt (by exact HO127.out))) (Kd.S_lt (by exact HO130.out))) (below_size (by exact HB.out)))
      have n10_ := Aside0.mk (blk_below BK101.out hb)
      have n11_ := Aside0.mk (blk_below BK102.out hb)
      have n12_ := Aside0.mk (blk_below BK124.out hb)
      have n13_ := Aside0.mk (blk_below BK131.out hb)
      have n14_ := Aside0.mk (below_step (by exact HB.out) hb)
      clear HO107
      clear HO110
      clear HO113
      clear HO116
      clear HO120
      clear HO123
      clear HO127
      clear HO130
      clear BK101
      clear BK102
      clear BK124
      clear BK131
      clear HB
      have HO107 := n0_
      have HO110 := n1_
      have HO113 := n2_
      have HO116 := n3_
      have HO120 := n4_
      have HO123 := n5_
      have HO127 := n6_
      have HO130 := n7_
      have HO135 := n8_
      have HO138 := n9_
      have BK101 := n10_
      have BK102 := n11_
      have BK124 := n12_
      have BK131 := n13_
      have HB := n14_
      clear n0_ n1_ n2_ n3_ n4_ n5_ n6_ n7_ n8_ n9_ n10_ n11_ n12_ n13_ n14_
      (try clear hb)
      (try clear hb2)
      (try clear hk)
      (try clear hi)
      (try clear ho0)
      (try clear ho1)
      obtain ⟨Ao102, co102, eo102⟩ := Kd.S_slice HO135.out
      (first | subst eo102 | (injection eo102 with f1_ f2_ f3_;have f4_ := f1_.symm;have f5_ := f3_.symm;clear f1_ f2_ f3_;subst f4_;subst f5_))
      obtain ⟨Ao103, co103, eo103⟩ := Kd.S_slice HO138.out
      (first | subst eo103 | (injection eo103 with f1_ f2_ f3_;have f4_ := f1_.symm;have f5_ := f3_.symm;clear f1_ f2_ f3_;subst f4_;subst f5_))
      refine hK.out _ _ ⟨(blk_cell BK124.out 0).trans rfl, (blk_cell BK124.out 1).trans rfl, (blk_cell BK101.out 0).trans rfl, (blk_cell BK101.out 1).trans rfl⟩ (fun hHeld => ?_)
      clear hK K
      refine norm_ (a' := ?_) ?_ ?_
      rotate_left
      ·show Act.put _ (some 37) _ = _
       simp only [Act.put, List.setIfInBounds_toArray, List.set_cons_zero, List.set_cons_succ, i64_w, i32_w]
       rfl
      refine one_ (i := 3) (N := some 38) #[true, true, true, true, false] rfl rfl (by kernel_rfl) (by decide) (fun K hK => ?_)
      refine goes_ Try.func39 (by kernel_rfl) rfl #[.agg #[.slice Ao84 t118.length co84, .slice Ao88 t121.length co88], .agg #[.slice Ao102 t133.length co102, .slice Ao103 t136.length co103]] (by rfl) rfl rfl (by (try simp only [List.map_toArray, List.map_cons, List.map_nil]);first | done | rfl | (simp only [List.length_drop, List.length_take];rfl)) ?_
      with_reducible refine (laws_eqSpan.calls k _ _ t118 _ _ t121 _ _ t133 _ _ t136 true _ ?side1 ?side2 ?side3 ?side4 ?side5 ?side6 ?side7 ?side8 A61.out).mono ?_
      (case side1 => repeat (first | exact (Kd.S_reads' HO120.out).2.2 | (with_reducible refine Kd.C_alloc ?_ _) | (with_reducible refine Kd.C_drewN ?_ _) | (with_reducible refine Kd.C_drew ?_)))
      (case side2 => exact (Kd.S_reads' HO120.out).2.1)
      (case side3 => repeat (first | exact (Kd.S_reads' HO123.out).2.2 | (with_reducible refine Kd.C_alloc ?_ _) | (with_reducible refine Kd.C_drewN ?_ _) | (with_reducible refine Kd.C_drew ?_)))
      (case side4 => exact (Kd.S_reads' HO123.out).2.1)
      (case side5 => repeat (first | exact (Kd.S_reads' HO135.out).2.2 | (with_reducible refine Kd.C_alloc ?_ _) | (with_reducible refine Kd.C_drewN ?_ _) | (with_reducible refine Kd.C_drew ?_)))
      (case side6 => exact (Kd.S_reads' HO135.out).2.1)
      (case side7 => repeat (first | exact (Kd.S_reads' HO138.out).2.2 | (with_reducible refine Kd.C_alloc ?_ _) | (with_reducible refine Kd.C_drewN ?_ _) | (with_reducible refine Kd.C_drew ?_)))
      (case side8 => exact (Kd.S_reads' HO138.out).2.1)
      rintro e w104 ⟨rfl, hb⟩
      refine ⟨_, rfl, ?_⟩
      have n0_ := Aside0.mk (Kd.S_below (by exact HO107.out) hb)
      have n1_ := Aside0.mk (Kd.S_below (by exact HO110.out) hb)
      have n2_ := Aside0.mk (Kd.S_below (by exact HO113.out) hb)
      have n3_ := Aside0.mk (Kd.S_below (by exact HO116.out) hb)
      have n4_ := Aside0.mk (Kd.S_below (by exact HO120.out) hb)
      have n5_ := Aside0.mk (Kd.S_below (by exact HO123.out) hb)
      have n6_ := Aside0.mk (Kd.S_below (by exact HO127.out) hb)
      have n7_ := Aside0.mk (Kd.S_below (by exact HO130.out) hb)
      have n8_ := Aside0.mk (Kd.S_below (by exact HO135.out) hb)
      have n9_ := Aside0.mk (Kd.S_below (by exact HO138.out) hb)
      have n10_ := Aside0.mk (blk_below BK101.out hb)
      have n11_ := Aside0.mk (blk_below BK102.out hb)
      have n12_ := Aside0.mk (blk_below BK124.out hb)
      have n13_ := Aside0.mk (blk_below BK131.out hb)
      have n14_ := Aside0.mk (below_step (by exact HB.out) hb)
      clear HO107
      clear HO110
      clear HO113
      clear HO116
      clear HO120
      clear HO123
      clear HO127
      clear HO130
      clear HO135
      clear HO138
      clear BK101
      clear BK102
      clear BK124
      clear BK131
      clear HB
      have HO107 := n0_
      have HO110 := n1_
      have HO113 := n2_
      have HO116 := n3_
      have HO120 := n4_
      have HO123 := n5_
      have HO127 := n6_
      have HO130 := n7_
      have HO135 := n8_
      have HO138 := n9_
      have BK101 := n10_
      have BK102 := n11_
      have BK124 := n12_
      have BK131 := n13_
      have HB := n14_
      clear n0_ n1_ n2_ n3_ n4_ n5_ n6_ n7_ n8_ n9_ n10_ n11_ n12_ n13_ n14_
      (try clear hb)
      (try clear hb2)
      (try clear hk)
      (try clear hi)
      refine hK.out _ _ ⟨(blk_cell BK124.out 0).trans rfl, (blk_cell BK124.out 1).trans rfl, (blk_cell BK101.out 0).trans rfl, (blk_cell BK101.out 1).trans rfl⟩ (fun hHeld => ?_)
      clear hK K
      refine norm_ (a' := ?_) ?_ ?_
      rotate_left
      ·show Act.put _ (some 38) _ = _
       simp only [Act.put, List.setIfInBounds_toArray, List.set_cons_zero, List.set_cons_succ, i64_w, i32_w]
       rfl
      refine pure_ (i := 4) (N := some 39) (v := ?_) (a' := ?_) #[true, true, true, true, true] rfl rfl (by kernel_rfl) (fun _ _ _ h => h) (Or.inl ⟨by rfl, ?_⟩) ?_ ?_
      rotate_left
      ·intro w'
       go_simp
       with_reducible rfl
      rotate_left
      ·simp only [Act.put, List.setIfInBounds_toArray, List.set_cons_zero, List.set_cons_succ, i64_w, i32_w]
       rfl
      refine done_ (by kernel_rfl) ?_
      try go_wp2
      have n0_ := Aside0.mk (Kd.S_drew HO107.out)
      have n1_ := Aside0.mk (Kd.S_drew HO110.out)
      have n2_ := Aside0.mk (Kd.S_drew HO113.out)
      have n3_ := Aside0.mk (Kd.S_drew HO116.out)
      have n4_ := Aside0.mk (Kd.S_drew HO120.out)
      have n5_ := Aside0.mk (Kd.S_drew HO123.out)
      have n6_ := Aside0.mk (Kd.S_drew HO127.out)
      have n7_ := Aside0.mk (Kd.S_drew HO130.out)
      have n8_ := Aside0.mk (Kd.S_drew HO135.out)
      have n9_ := Aside0.mk (Kd.S_drew HO138.out)
      have n10_ := Aside0.mk (blk_drew BK101.out)
      have n11_ := Aside0.mk (blk_drew BK102.out)
      have n12_ := Aside0.mk (blk_drew BK124.out)
      have n13_ := Aside0.mk (blk_drew BK131.out)
      have n14_ := Aside0.mk (below_drew1 HB.out)
      clear HO107
      clear HO110
      clear HO113
      clear HO116
      clear HO120
      clear HO123
      clear HO127
      clear HO130
      clear HO135
      clear HO138
      clear BK101
      clear BK102
      clear BK124
      clear BK131
      clear HB
      have HO107 := n0_
      have HO110 := n1_
      have HO113 := n2_
      have HO116 := n3_
      have HO120 := n4_
      have HO123 := n5_
      have HO127 := n6_
      have HO130 := n7_
      have HO135 := n8_
      have HO138 := n9_
      have BK101 := n10_
      have BK102 := n11_
      have BK124 := n12_
      have BK131 := n13_
      have HB := n14_
      clear n0_ n1_ n2_ n3_ n4_ n5_ n6_ n7_ n8_ n9_ n10_ n11_ n12_ n13_ n14_
      refine start_ (n := 5) (S := fun w' => w'.cell? ⟨gb131, 0, none⟩ = some (.slice Ao92 t125.length co92) ∧ w'.cell? ⟨gb131, 1, none⟩ = some (.slice Ao97 t128.length co97) ∧ w'.cell? ⟨gb102, 0, none⟩ = some (.slice A1_0 l1_0.length c1_0) ∧ w'.cell? ⟨gb102, 1, none⟩ = some (.slice A1_1 l1_1.length c1_1)) (ds := []) #[false, false, false, false, false] (by kernel_rfl) rfl rfl ⟨(blk_cell BK131.out 0).trans rfl, (blk_cell BK131.out 1).trans rfl, (blk_cell BK102.out 0).trans rfl, (blk_cell BK102.out 1).trans rfl⟩ (fun hHeld => ?_)
      generalize w104.drew = w105 at HO107 HO110 HO113 HO116 HO120 HO123 HO127 HO130 HO135 HO138 BK101 BK102 BK124 BK131 HB hHeld ⊢
      refine take_ (i := 0) (N := some 40) (v := ?_) (a' := ?_) #[true, false, false, false, false] rfl rfl (by kernel_rfl) (fun _ _ _ h => h) (Or.inl ⟨by rfl, ?_⟩) hHeld ?_ ?_
      rotate_left
      ·rintro w' ⟨s0, s1, s2, s3⟩
       go_simp
       with_reducible rfl
      rotate_left
      ·simp only [Act.put, List.setIfInBounds_toArray, List.set_cons_zero, List.set_cons_succ, i64_w, i32_w]
       rfl
      refine take_ (i := 1) (N := some 41) (v := ?_) (a' := ?_) #[true, true, false, false, false] rfl rfl (by kernel_rfl) (fun _ _ _ h => h) (Or.inl ⟨by rfl, ?_⟩) hHeld ?_ ?_
      rotate_left
      ·rintro w' ⟨s0, s1, s2, s3⟩
       go_simp
       with_reducible rfl
      rotate_left
      ·simp only [Act.put, List.setIfInBounds_toArray, List.set_cons_zero, List.set_cons_succ, i64_w, i32_w]
       rfl
      refine one_ (i := 2) (N := some 42) #[true, true, true, false, false] rfl rfl (by kernel_rfl) (by decide) (fun K hK => ?_)
      refine goes_ Try.func37 (by kernel_rfl) rfl #[.agg #[.slice A1_0 l1_0.length c1_0, .slice A1_1 l1_1.length c1_1]] (by rfl) rfl rfl (by (try simp only [List.map_toArray, List.map_cons, List.map_nil]);first | done | rfl | (simp only [List.length_drop, List.length_take];rfl)) ?_
      with_reducible refine (laws_toSpan.calls k _ _ l1_0 _ _ l1_1 t140 t143 _ ?side1 ?side2 ?side3 ?side4 A63.out).mono ?_
      (case side1 => repeat (first | exact (Kd.C_below HR1_0.out HB.out) | (with_reducible refine Kd.C_alloc ?_ _) | (with_reducible refine Kd.C_drewN ?_ _) | (with_reducible refine Kd.C_drew ?_)))
      (case side2 => exact HC1_0.out)
      (case side3 => repeat (first | exact (Kd.C_below HR1_1.out HB.out) | (with_reducible refine Kd.C_alloc ?_ _) | (with_reducible refine Kd.C_drewN ?_ _) | (with_reducible refine Kd.C_drew ?_)))
      (case side4 => exact HC1_1.out)
      rintro e w106 ⟨v141, v144, rfl, ho0, ho1, hb⟩
      refine ⟨_, rfl, ?_⟩
      have n0_ := Aside0.mk (Kd.S_mono (Kd.S_told (Kd.S_told (Kd.S_old (by exact HO107.out) hb) (Kd.S_base ho0)) (Kd.S_base ho1)) (fun _ h_ => h_.1))
      have n1_ := Aside0.mk (Kd.S_mono (Kd.S_told (Kd.S_told (Kd.S_old (by exact HO110.out) hb) (Kd.S_base ho0)) (Kd.S_base ho1)) (fun _ h_ => h_.1))
      have n2_ := Aside0.mk (Kd.S_mono (Kd.S_told (Kd.S_told (Kd.S_old (by exact HO113.out) hb) (Kd.S_base ho0)) (Kd.S_base ho1)) (fun _ h_ => h_.1))
      have n3_ := Aside0.mk (Kd.S_mono (Kd.S_told (Kd.S_told (Kd.S_old (by exact HO116.out) hb) (Kd.S_base ho0)) (Kd.S_base ho1)) (fun _ h_ => h_.1))
      have n4_ := Aside0.mk (Kd.S_mono (Kd.S_told (Kd.S_told (Kd.S_old (by exact HO120.out) hb) (Kd.S_base ho0)) (Kd.S_base ho1)) (fun _ h_ => h_.1))
      have n5_ := Aside0.mk (Kd.S_mono (Kd.S_told (Kd.S_told (Kd.S_old (by exact HO123.out) hb) (Kd.S_base ho0)) (Kd.S_base ho1)) (fun _ h_ => h_.1))
      have n6_ := Aside0.mk (Kd.S_mono (Kd.S_told (Kd.S_told (Kd.S_old (by exact HO127.out) hb) (Kd.S_base ho0)) (Kd.S_base ho1)) (fun _ h_ => h_.1))
      have n7_ := Aside0.mk (Kd.S_mono (Kd.S_told (Kd.S_told (Kd.S_old (by exact HO130.out) hb) (Kd.S_base ho0)) (Kd.S_base ho1)) (fun _ h_ => h_.1))
      have n8_ := Aside0.mk (Kd.S_mono (Kd.S_told (Kd.S_told (Kd.S_old (by exact HO135.out) hb) (Kd.S_base ho0)) (Kd.S_base ho1)) (fun _ h_ => h_.1))
      have n9_ := Aside0.mk (Kd.S_mono (Kd.S_told (Kd.S_told (Kd.S_old (by exact HO138.out) hb) (Kd.S_base ho0)) (Kd.S_base ho1)) (fun _ h_ => h_.1))
      have n10_ := Aside0.mk (Kd.S_lower (Kd.S_new' (Kd.S_new' (Kd.S_new' (Kd.S_new' (Kd.S_new' (Kd.S_new' (Kd.S_new' (Kd.S_new' (Kd.S_new' (Kd.S_new' ho0 (Kd.S_lt (by exact HO107.out))) (Kd.S_lt (by exact HO110.out))) (Kd.S_lt (by exact HO113.out))) (Kd.S_lt (by exact HO116.out))) (Kd.S_lt (by exact HO120.out))) (Kd.S_lt (by exact HO123.out))) (Kd.S_lt (by exact HO127.out))) (Kd.S_lt (by exact HO130.out))) (Kd.S_lt (by exact HO135.out))) (Kd.S_lt (by exact HO138.out))) (below_size (by exact HB.out)))
      have n11_ := Aside0.mk (Kd.S_lower (Kd.S_new' (Kd.S_new' (Kd.S_new' (Kd.S_new' (Kd.S_new' (Kd.S_new' (Kd.S_new' (Kd.S_new' (Kd.S_new' (Kd.S_new' ho1 (Kd.S_lt (by exact HO107.out))) (Kd.S_lt (by exact HO110.out))) (Kd.S_lt (by exact HO113.out))) (Kd.S_lt (by exact HO116.out))) (Kd.S_lt (by exact HO120.out))) (Kd.S_lt (by exact HO123.out))) (Kd.S_lt (by exact HO127.out))) (Kd.S_lt (by exact HO130.out))) (Kd.S_lt (by exact HO135.out))) (Kd.S_lt (by exact HO138.out))) (below_size (by exact HB.out)))
      have n12_ := Aside0.mk (blk_below BK101.out hb)
      have n13_ := Aside0.mk (blk_below BK102.out hb)
      have n14_ := Aside0.mk (blk_below BK124.out hb)
      have n15_ := Aside0.mk (blk_below BK131.out hb)
      have n16_ := Aside0.mk (below_step (by exact HB.out) hb)
      clear HO107
      clear HO110
      clear HO113
      clear HO116
      clear HO120
      clear HO123
      clear HO127
      clear HO130
      clear HO135
      clear HO138
      clear BK101
      clear BK102
      clear BK124
      clear BK131
      clear HB
      have HO107 := n0_
      have HO110 := n1_
      have HO113 := n2_
      have HO116 := n3_
      have HO120 := n4_
      have HO123 := n5_
      have HO127 := n6_
      have HO130 := n7_
      have HO135 := n8_
      have HO138 := n9_
      have HO142 := n10_
      have HO145 := n11_
      have BK101 := n12_
      have BK102 := n13_
      have BK124 := n14_
      have BK131 := n15_
      have HB := n16_
      clear n0_ n1_ n2_ n3_ n4_ n5_ n6_ n7_ n8_ n9_ n10_ n11_ n12_ n13_ n14_ n15_ n16_
      (try clear hb)
      (try clear hb2)
      (try clear hk)
      (try clear hi)
      (try clear ho0)
      (try clear ho1)
      obtain ⟨Ao107, co107, eo107⟩ := Kd.S_slice HO142.out
      (first | subst eo107 | (injection eo107 with f1_ f2_ f3_;have f4_ := f1_.symm;have f5_ := f3_.symm;clear f1_ f2_ f3_;subst f4_;subst f5_))
      obtain ⟨Ao108, co108, eo108⟩ := Kd.S_slice HO145.out
      (first | subst eo108 | (injection eo108 with f1_ f2_ f3_;have f4_ := f1_.symm;have f5_ := f3_.symm;clear f1_ f2_ f3_;subst f4_;subst f5_))
      refine hK.out _ _ ⟨(blk_cell BK131.out 0).trans rfl, (blk_cell BK131.out 1).trans rfl, (blk_cell BK102.out 0).trans rfl, (blk_cell BK102.out 1).trans rfl⟩ (fun hHeld => ?_)
      clear hK K
      refine norm_ (a' := ?_) ?_ ?_
      rotate_left
      ·show Act.put _ (some 42) _ = _
       simp only [Act.put, List.setIfInBounds_toArray, List.set_cons_zero, List.set_cons_succ, i64_w, i32_w]
       rfl
      refine one_ (i := 3) (N := some 43) #[true, true, true, true, false] rfl rfl (by kernel_rfl) (by decide) (fun K hK => ?_)
      refine goes_ Try.func39 (by kernel_rfl) rfl #[.agg #[.slice Ao92 t125.length co92, .slice Ao97 t128.length co97], .agg #[.slice Ao107 t140.length co107, .slice Ao108 t143.length co108]] (by rfl) rfl rfl (by (try simp only [List.map_toArray, List.map_cons, List.map_nil]);first | done | rfl | (simp only [List.length_drop, List.length_take];rfl)) ?_
      with_reducible refine (laws_eqSpan.calls k _ _ t125 _ _ t128 _ _ t140 _ _ t143 true _ ?side1 ?side2 ?side3 ?side4 ?side5 ?side6 ?side7 ?side8 A64.out).mono ?_
      (case side1 => repeat (first | exact (Kd.S_reads' HO127.out).2.2 | (with_reducible refine Kd.C_alloc ?_ _) | (with_reducible refine Kd.C_drewN ?_ _) | (with_reducible refine Kd.C_drew ?_)))
      (case side2 => exact (Kd.S_reads' HO127.out).2.1)
      (case side3 => repeat (first | exact (Kd.S_reads' HO130.out).2.2 | (with_reducible refine Kd.C_alloc ?_ _) | (with_reducible refine Kd.C_drewN ?_ _) | (with_reducible refine Kd.C_drew ?_)))
      (case side4 => exact (Kd.S_reads' HO130.out).2.1)
      (case side5 => repeat (first | exact (Kd.S_reads' HO142.out).2.2 | (with_reducible refine Kd.C_alloc ?_ _) | (with_reducible refine Kd.C_drewN ?_ _) | (with_reducible refine Kd.C_drew ?_)))
      (case side6 => exact (Kd.S_reads' HO142.out).2.1)
      (case side7 => repeat (first | exact (Kd.S_reads' HO145.out).2.2 | (with_reducible refine Kd.C_alloc ?_ _) | (with_reducible refine Kd.C_drewN ?_ _) | (with_reducible refine Kd.C_drew ?_)))
      (case side8 => exact (Kd.S_reads' HO145.out).2.1)
      rintro e w109 ⟨rfl, hb⟩
      refine ⟨_, rfl, ?_⟩
      have n0_ := Aside0.mk (Kd.S_below (by exact HO107.out) hb)
      have n1_ := Aside0.mk (Kd.S_below (by exact HO110.out) hb)
      have n2_ := Aside0.mk (Kd.S_below (by exact HO113.out) hb)
      have n3_ := Aside0.mk (Kd.S_below (by exact HO116.out) hb)
      have n4_ := Aside0.mk (Kd.S_below (by exact HO120.out) hb)
      have n5_ := Aside0.mk (Kd.S_below (by exact HO123.out) hb)
      have n6_ := Aside0.mk (Kd.S_below (by exact HO127.out) hb)
      have n7_ := Aside0.mk (Kd.S_below (by exact HO130.out) hb)
      have n8_ := Aside0.mk (Kd.S_below (by exact HO135.out) hb)
      have n9_ := Aside0.mk (Kd.S_below (by exact HO138.out) hb)
      have n10_ := Aside0.mk (Kd.S_below (by exact HO142.out) hb)
      have n11_ := Aside0.mk (Kd.S_below (by exact HO145.out) hb)
      have n12_ := Aside0.mk (blk_below BK101.out hb)
      have n13_ := Aside0.mk (blk_below BK102.out hb)
      have n14_ := Aside0.mk (blk_below BK124.out hb)
      have n15_ := Aside0.mk (blk_below BK131.out hb)
      have n16_ := Aside0.mk (below_step (by exact HB.out) hb)
      clear HO107
      clear HO110
      clear HO113
      clear HO116
      clear HO120
      clear HO123
      clear HO127
      clear HO130
      clear HO135
      clear HO138
      clear HO142
      clear HO145
      clear BK101
      clear BK102
      clear BK124
      clear BK131
      clear HB
      have HO107 := n0_
      have HO110 := n1_
      have HO113 := n2_
      have HO116 := n3_
      have HO120 := n4_
      have HO123 := n5_
      have HO127 := n6_
      have HO130 := n7_
      have HO135 := n8_
      have HO138 := n9_
      have HO142 := n10_
      have HO145 := n11_
      have BK101 := n12_
      have BK102 := n13_
      have BK124 := n14_
      have BK131 := n15_
      have HB := n16_
      clear n0_ n1_ n2_ n3_ n4_ n5_ n6_ n7_ n8_ n9_ n10_ n11_ n12_ n13_ n14_ n15_ n16_
      (try clear hb)
      (try clear hb2)
      (try clear hk)
      (try clear hi)
      refine hK.out _ _ ⟨(blk_cell BK131.out 0).trans rfl, (blk_cell BK131.out 1).trans rfl, (blk_cell BK102.out 0).trans rfl, (blk_cell BK102.out 1).trans rfl⟩ (fun hHeld => ?_)
      clear hK K
      refine norm_ (a' := ?_) ?_ ?_
      rotate_left
      ·show Act.put _ (some 43) _ = _
       simp only [Act.put, List.setIfInBounds_toArray, List.set_cons_zero, List.set_cons_succ, i64_w, i32_w]
       rfl
      refine pure_ (i := 4) (N := some 44) (v := ?_) (a' := ?_) #[true, true, true, true, true] rfl rfl (by kernel_rfl) (fun _ _ _ h => h) (Or.inl ⟨by rfl, ?_⟩) ?_ ?_
      rotate_left
      ·intro w'
       go_simp
       with_reducible rfl
      rotate_left
      ·simp only [Act.put, List.setIfInBounds_toArray, List.set_cons_zero, List.set_cons_succ, i64_w, i32_w]
       rfl
      refine done_ (by kernel_rfl) ?_
      try go_wp2
      go_ret
      exact ⟨by first | rfl | (simp [errW_none, errW_some] <;> rfl) | (simp [*, errW_none, errW_some] <;> rfl), by repeat (first | (with_reducible first | exact HB.out | apply below_alloc | apply pw_below_drewN | apply below_drew1 | refine below_set ?_ GE101.out | refine below_set ?_ GE102.out | refine below_set ?_ GE124.out | refine below_set ?_ GE131.out) | exact HB.out)⟩
     ·replace c65 := Bool.eq_false_iff.mpr c65
      subst c65
      have H1 : (some false) = some r := by rw [if_neg (show ¬ (false = true) by decide)] at H;exact H
      clear H
      have H := H1
      clear H1
      obtain rfl := Option.some.inj H
      go_enter Try.func7, Try.ntmps7
      try go_wp2_with (first | ((with_reducible refine gate_dst (N := 2) rfl ?_);refine box_event ?hg (N := 2) ?hd (cs := #[.slice A0_0 l0_0.length c0_0, .slice A0_1 l0_1.length c0_1]) (t := 48) ?hr ?_;(case hd => rfl);(case hg => rfl);(case hr => first | (go_simp;done) | (go_simp;rfl));intro gb101 hg w110 hbox hb;have n0_ := Aside0.mk (below_step (by exact HB.out) hb);have n1_ := Aside0.mk (hbox);have n2_ := Aside0.mk ((by rw [hg];exact (below_size (by exact HB.out)) : w.heap.size ≤ gb101));have n3_ := Aside0.mk ((by rw [hg];exact (below_size (by exact HB.out)) : w.heap.size ≤ gb101));clear HB;have HB := n0_;have BK101 := n1_;have GW101 := n2_;have GE101 := n3_;clear n0_ n1_ n2_ n3_;clear hb hbox hg) | ((with_reducible refine gate_dst (N := 3) rfl ?_);refine box_event ?hg (N := 3) ?hd (cs := #[.slice A1_0 l1_0.length c1_0, .slice A1_1 l1_1.length c1_1]) (t := 48) ?hr ?_;(case hd => rfl);(case hg => rfl);(case hr => first | (go_simp;done) | (go_simp;rfl));intro gb102 hg w111 hbox hb;have n0_ := Aside0.mk (blk_below BK101.out hb);have n1_ := Aside0.mk (below_step (by exact HB.out) hb);have n2_ := Aside0.mk (hbox);have n3_ := Aside0.mk ((by rw [hg];exact (below_size (by exact HB.out)) : w.heap.size ≤ gb102));have n4_ := Aside0.mk ((by rw [hg];exact (below_size (by exact HB.out)) : w.heap.size ≤ gb102));have n5_ := Aside0.mk ((by rw [hg];exact Nat.ne_of_lt (blk_lt BK101.out) : gb101 ≠ gb102));have n6_ := Aside0.mk ((by rw [hg];exact Nat.ne_of_gt (blk_lt BK101.out) : gb102 ≠ gb101));clear BK101;clear HB;have BK101 := n0_;have HB := n1_;have BK102 := n2_;have GW102 := n3_;have GE102 := n4_;have NB101_102 := n5_;have NB102_101 := n6_;clear n0_ n1_ n2_ n3_ n4_ n5_ n6_;clear hb hbox hg;have hnb112 := NB101_102.out;have hnc112 := NB102_101.out;have hcz113_0 : w111.cell? ⟨gb101, 0, none⟩ = some (.slice A0_0 l0_0.length c0_0) := (blk_cell BK101.out 0).trans rfl;have hcz113_1 : w111.cell? ⟨gb101, 1, none⟩ = some (.slice A0_1 l0_1.length c0_1) := (blk_cell BK101.out 1).trans rfl;have hfz113_0 := blk_frozen BK101.out 0;have hfz113_1 := blk_frozen BK101.out 1) | ((with_reducible refine gate_callee (f := 35) rfl ?_);refine goesL_ (some 12) rfl rfl Try.func35 (by kernel_rfl) rfl #[.agg #[.slice A0_0 l0_0.length c0_0, .slice A0_1 l0_1.length c0_1], .int .i64 1048576] rfl (by (try simp only [List.map_toArray, List.map_cons, List.map_nil]);first | done | rfl | (simp only [List.length_drop, List.length_take];rfl)) ?_;(with_reducible refine (laws_szSpan.calls k _ _ l0_0 _ _ l0_1 1048576 t103 _ ?side1 ?side2 ?side3 ?side4 A3.out).mono ?_);(case side1 => repeat (first | exact (Kd.C_below HR0_0.out HB.out) | (with_reducible refine Kd.C_alloc ?_ _) | (with_reducible refine Kd.C_drewN ?_ _) | (with_reducible refine Kd.C_drew ?_)));(case side2 => exact HC0_0.out);(case side3 => repeat (first | exact (Kd.C_below HR0_1.out HB.out) | (with_reducible refine Kd.C_alloc ?_ _) | (with_reducible refine Kd.C_drewN ?_ _) | (with_reducible refine Kd.C_drew ?_)));(case side4 => exact HC0_1.out);rintro e w114 ⟨rfl, hb⟩;refine ⟨_, rfl, ?_⟩;have n0_ := Aside0.mk (blk_below BK101.out hb);have n1_ := Aside0.mk (blk_below BK102.out hb);have n2_ := Aside0.mk (below_step (by exact HB.out) hb);clear BK101;clear BK102;clear HB;have BK101 := n0_;have BK102 := n1_;have HB := n2_;clear n0_ n1_ n2_;(try clear hb);(try clear hb2);(try clear hk);(try clear hi);have hcz115_0 : w114.cell? ⟨gb102, 0, none⟩ = some (.slice A1_0 l1_0.length c1_0) := (blk_cell BK102.out 0).trans rfl;have hcz115_1 : w114.cell? ⟨gb102, 1, none⟩ = some (.slice A1_1 l1_1.length c1_1) := (blk_cell BK102.out 1).trans rfl;have hfz115_0 := blk_frozen BK102.out 0;have hfz115_1 := blk_frozen BK102.out 1) | ((with_reducible refine gate_callee (f := 35) rfl ?_);refine goesL_ (some 17) rfl rfl Try.func35 (by kernel_rfl) rfl #[.agg #[.slice A1_0 l1_0.length c1_0, .slice A1_1 l1_1.length c1_1], .int .i64 t103] rfl (by (try simp only [List.map_toArray, List.map_cons, List.map_nil]);first | done | rfl | (simp only [List.length_drop, List.length_take];rfl)) ?_;(with_reducible refine (laws_szSpan.calls k _ _ l1_0 _ _ l1_1 t103 t104 _ ?side1 ?side2 ?side3 ?side4 A10.out).mono ?_);(case side1 => repeat (first | exact (Kd.C_below HR1_0.out HB.out) | (with_reducible refine Kd.C_alloc ?_ _) | (with_reducible refine Kd.C_drewN ?_ _) | (with_reducible refine Kd.C_drew ?_)));(case side2 => exact HC1_0.out);(case side3 => repeat (first | exact (Kd.C_below HR1_1.out HB.out) | (with_reducible refine Kd.C_alloc ?_ _) | (with_reducible refine Kd.C_drewN ?_ _) | (with_reducible refine Kd.C_drew ?_)));(case side4 => exact HC1_1.out);rintro e w116 ⟨rfl, hb⟩;refine ⟨_, rfl, ?_⟩;have n0_ := Aside0.mk (blk_below BK101.out hb);have n1_ := Aside0.mk (blk_below BK102.out hb);have n2_ := Aside0.mk (below_step (by exact HB.out) hb);clear BK101;clear BK102;clear HB;have BK101 := n0_;have BK102 := n1_;have HB := n2_;clear n0_ n1_ n2_;(try clear hb);(try clear hb2);(try clear hk);(try clear hi)))
      have n0_ := Aside0.mk (blk_drew BK101.out)
      have n1_ := Aside0.mk (blk_drew BK102.out)
      have n2_ := Aside0.mk (below_drew1 HB.out)
      clear BK101
      clear BK102
      clear HB
      have BK101 := n0_
      have BK102 := n1_
      have HB := n2_
      clear n0_ n1_ n2_
      refine start_ (n := 6) (S := fun w' => w'.cell? ⟨gb101, 0, none⟩ = some (.slice A0_0 l0_0.length c0_0) ∧ w'.cell? ⟨gb101, 1, none⟩ = some (.slice A0_1 l0_1.length c0_1) ∧ w'.cell? ⟨gb102, 0, none⟩ = some (.slice A1_0 l1_0.length c1_0) ∧ w'.cell? ⟨gb102, 1, none⟩ = some (.slice A1_1 l1_1.length c1_1)) (ds := []) #[false, false, false, false, false, false] (by kernel_rfl) rfl rfl ⟨(blk_cell BK101.out 0).trans rfl, (blk_cell BK101.out 1).trans rfl, (blk_cell BK102.out 0).trans rfl, (blk_cell BK102.out 1).trans rfl⟩ (fun hHeld => ?_)
      generalize w116.drew = w117 at BK101 BK102 HB hHeld ⊢
      refine take_ (i := 0) (N := some 20) (v := ?_) (a' := ?_) #[true, false, false, false, false, false] rfl rfl (by kernel_rfl) (fun _ _ _ h => h) (Or.inl ⟨by rfl, ?_⟩) hHeld ?_ ?_
      rotate_left
      ·rintro w' ⟨s0, s1, s2, s3⟩
       go_simp
       with_reducible rfl
      rotate_left
      ·simp only [Act.put, List.setIfInBounds_toArray, List.set_cons_zero, List.set_cons_succ, i64_w, i32_w]
       rfl
      refine take_ (i := 2) (N := some 22) (v := ?_) (a' := ?_) #[true, false, true, false, false, false] rfl rfl (by kernel_rfl) (fun _ _ _ h => h) (Or.inl ⟨by rfl, ?_⟩) hHeld ?_ ?_
      rotate_left
      ·rintro w' ⟨s0, s1, s2, s3⟩
       go_simp
       with_reducible rfl
      rotate_left
      ·simp only [Act.put, List.setIfInBounds_toArray, List.set_cons_zero, List.set_cons_succ, i64_w, i32_w]
       rfl
      refine one_ (i := 1) (N := some 21) #[true, true, true, false, false, false] rfl rfl (by kernel_rfl) (by decide) (fun K hK => ?_)
      refine goes_ Try.func37 (by kernel_rfl) rfl #[.agg #[.slice A0_0 l0_0.length c0_0, .slice A0_1 l0_1.length c0_1]] (by rfl) rfl rfl (by (try simp only [List.map_toArray, List.map_cons, List.map_nil]);first | done | rfl | (simp only [List.length_drop, List.length_take];rfl)) ?_
      with_reducible refine (laws_toSpan.calls k _ _ l0_0 _ _ l0_1 t105 t108 _ ?side1 ?side2 ?side3 ?side4 A19.out).mono ?_
      (case side1 => repeat (first | exact (Kd.C_below HR0_0.out HB.out) | (with_reducible refine Kd.C_alloc ?_ _) | (with_reducible refine Kd.C_drewN ?_ _) | (with_reducible refine Kd.C_drew ?_)))
      (case side2 => exact HC0_0.out)
      (case side3 => repeat (first | exact (Kd.C_below HR0_1.out HB.out) | (with_reducible refine Kd.C_alloc ?_ _) | (with_reducible refine Kd.C_drewN ?_ _) | (with_reducible refine Kd.C_drew ?_)))
      (case side4 => exact HC0_1.out)
      rintro e w118 ⟨v106, v109, rfl, ho0, ho1, hb⟩
      refine ⟨_, rfl, ?_⟩
      have n0_ := Aside0.mk (Kd.S_lower ho0 (below_size (by exact HB.out)))
      have n1_ := Aside0.mk (Kd.S_lower ho1 (below_size (by exact HB.out)))
      have n2_ := Aside0.mk (blk_below BK101.out hb)
      have n3_ := Aside0.mk (blk_below BK102.out hb)
      have n4_ := Aside0.mk (below_step (by exact HB.out) hb)
      clear BK101
      clear BK102
      clear HB
      have HO107 := n0_
      have HO110 := n1_
      have BK101 := n2_
      have BK102 := n3_
      have HB := n4_
      clear n0_ n1_ n2_ n3_ n4_
      (try clear hb)
      (try clear hb2)
      (try clear hk)
      (try clear hi)
      (try clear ho0)
      (try clear ho1)
      refine hK.out _ _ ⟨(blk_cell BK101.out 0).trans rfl, (blk_cell BK101.out 1).trans rfl, (blk_cell BK102.out 0).trans rfl, (blk_cell BK102.out 1).trans rfl⟩ (fun hHeld => ?_)
      clear hK K
      refine norm_ (a' := ?_) ?_ ?_
      rotate_left
      ·show Act.put _ (some 21) _ = _
       simp only [Act.put, List.setIfInBounds_toArray, List.set_cons_zero, List.set_cons_succ, i64_w, i32_w]
       rfl
      refine one_ (i := 3) (N := some 23) #[true, true, true, true, false, false] rfl rfl (by kernel_rfl) (by decide) (fun K hK => ?_)
      refine goes_ Try.func37 (by kernel_rfl) rfl #[.agg #[.slice A1_0 l1_0.length c1_0, .slice A1_1 l1_1.length c1_1]] (by rfl) rfl rfl (by (try simp only [List.map_toArray, List.map_cons, List.map_nil]);first | done | rfl | (simp only [List.length_drop, List.length_take];rfl)) ?_
      with_reducible refine (laws_toSpan.calls k _ _ l1_0 _ _ l1_1 t111 t114 _ ?side1 ?side2 ?side3 ?side4 A20.out).mono ?_
      (case side1 => repeat (first | exact (Kd.C_below HR1_0.out HB.out) | (with_reducible refine Kd.C_alloc ?_ _) | (with_reducible refine Kd.C_drewN ?_ _) | (with_reducible refine Kd.C_drew ?_)))
      (case side2 => exact HC1_0.out)
      (case side3 => repeat (first | exact (Kd.C_below HR1_1.out HB.out) | (with_reducible refine Kd.C_alloc ?_ _) | (with_reducible refine Kd.C_drewN ?_ _) | (with_reducible refine Kd.C_drew ?_)))
      (case side4 => exact HC1_1.out)
      rintro e w119 ⟨v112, v115, rfl, ho0, ho1, hb⟩
      refine ⟨_, rfl, ?_⟩
      have n0_ := Aside0.mk (Kd.S_mono (Kd.S_told (Kd.S_told (Kd.S_old (by exact HO107.out) hb) (Kd.S_base ho0)) (Kd.S_base ho1)) (fun _ h_ => h_.1))
      have n1_ := Aside0.mk (Kd.S_mono (Kd.S_told (Kd.S_told (Kd.S_old (by exact HO110.out) hb) (Kd.S_base ho0)) (Kd.S_base ho1)) (fun _ h_ => h_.1))
      have n2_ := Aside0.mk (Kd.S_lower (Kd.S_new' (Kd.S_new' ho0 (Kd.S_lt (by exact HO107.out))) (Kd.S_lt (by exact HO110.out))) (below_size (by exact HB.out)))
      have n3_ := Aside0.mk (Kd.S_lower (Kd.S_new' (Kd.S_new' ho1 (Kd.S_lt (by exact HO107.out))) (Kd.S_lt (by exact HO110.out))) (below_size (by exact HB.out)))
      have n4_ := Aside0.mk (blk_below BK101.out hb)
      have n5_ := Aside0.mk (blk_below BK102.out hb)
      have n6_ := Aside0.mk (below_step (by exact HB.out) hb)
      clear HO107
      clear HO110
      clear BK101
      clear BK102
      clear HB
      have HO107 := n0_
      have HO110 := n1_
      have HO113 := n2_
      have HO116 := n3_
      have BK101 := n4_
      have BK102 := n5_
      have HB := n6_
      clear n0_ n1_ n2_ n3_ n4_ n5_ n6_
      (try clear hb)
      (try clear hb2)
      (try clear hk)
      (try clear hi)
      (try clear ho0)
      (try clear ho1)
      obtain ⟨Ao120, co120, eo120⟩ := Kd.S_slice HO107.out
      (first | subst eo120 | (injection eo120 with f1_ f2_ f3_;have f4_ := f1_.symm;have f5_ := f3_.symm;clear f1_ f2_ f3_;subst f4_;subst f5_))
      obtain ⟨Ao121, co121, eo121⟩ := Kd.S_slice HO110.out
      (first | subst eo121 | (injection eo121 with f1_ f2_ f3_;have f4_ := f1_.symm;have f5_ := f3_.symm;clear f1_ f2_ f3_;subst f4_;subst f5_))
      obtain ⟨Ao122, co122, eo122⟩ := Kd.S_slice HO113.out
      (first | subst eo122 | (injection eo122 with f1_ f2_ f3_;have f4_ := f1_.symm;have f5_ := f3_.symm;clear f1_ f2_ f3_;subst f4_;subst f5_))
      obtain ⟨Ao123, co123, eo123⟩ := Kd.S_slice HO116.out
      (first | subst eo123 | (injection eo123 with f1_ f2_ f3_;have f4_ := f1_.symm;have f5_ := f3_.symm;clear f1_ f2_ f3_;subst f4_;subst f5_))
      refine hK.out _ _ ⟨(blk_cell BK101.out 0).trans rfl, (blk_cell BK101.out 1).trans rfl, (blk_cell BK102.out 0).trans rfl, (blk_cell BK102.out 1).trans rfl⟩ (fun hHeld => ?_)
      clear hK K
      refine norm_ (a' := ?_) ?_ ?_
      rotate_left
      ·show Act.put _ (some 23) _ = _
       simp only [Act.put, List.setIfInBounds_toArray, List.set_cons_zero, List.set_cons_succ, i64_w, i32_w]
       rfl
      refine one_ (i := 4) (N := some 24) #[true, true, true, true, true, false] rfl rfl (by kernel_rfl) (by decide) (fun K hK => ?_)
      refine goes_ Try.func36 (by kernel_rfl) rfl #[.agg #[.slice Ao120 t105.length co120, .slice Ao121 t108.length co121], .agg #[.slice Ao122 t111.length co122, .slice Ao123 t114.length co123]] (by rfl) rfl rfl (by (try simp only [List.map_toArray, List.map_cons, List.map_nil]);first | done | rfl | (simp only [List.length_drop, List.length_take];rfl)) ?_
      with_reducible refine (spec_SpanSame.calls k _ _ t105 _ _ t108 _ _ t111 _ _ t114 t117 _ ?side1 ?side2 ?side3 ?side4 ?side5 ?side6 ?side7 ?side8 A21.out).mono ?_
      (case side1 => repeat (first | exact (Kd.S_reads' HO107.out).2.2 | (with_reducible refine Kd.C_alloc ?_ _) | (with_reducible refine Kd.C_drewN ?_ _) | (with_reducible refine Kd.C_drew ?_)))
      (case side2 => exact (Kd.S_reads' HO107.out).2.1)
      (case side3 => repeat (first | exact (Kd.S_reads' HO110.out).2.2 | (with_reducible refine Kd.C_alloc ?_ _) | (with_reducible refine Kd.C_drewN ?_ _) | (with_reducible refine Kd.C_drew ?_)))
      (case side4 => exact (Kd.S_reads' HO110.out).2.1)
      (case side5 => repeat (first | exact (Kd.S_reads' HO113.out).2.2 | (with_reducible refine Kd.C_alloc ?_ _) | (with_reducible refine Kd.C_drewN ?_ _) | (with_reducible refine Kd.C_drew ?_)))
      (case side6 => exact (Kd.S_reads' HO113.out).2.1)
      (case side7 => repeat (first | exact (Kd.S_reads' HO116.out).2.2 | (with_reducible refine Kd.C_alloc ?_ _) | (with_reducible refine Kd.C_drewN ?_ _) | (with_reducible refine Kd.C_drew ?_)))
      (case side8 => exact (Kd.S_reads' HO116.out).2.1)
      rintro e w124 ⟨rfl, hb⟩
      refine ⟨_, rfl, ?_⟩
      have n0_ := Aside0.mk (Kd.S_below (by exact HO107.out) hb)
      have n1_ := Aside0.mk (Kd.S_below (by exact HO110.out) hb)
      have n2_ := Aside0.mk (Kd.S_below (by exact HO113.out) hb)
      have n3_ := Aside0.mk (Kd.S_below (by exact HO116.out) hb)
      have n4_ := Aside0.mk (blk_below BK101.out hb)
      have n5_ := Aside0.mk (blk_below BK102.out hb)
      have n6_ := Aside0.mk (below_step (by exact HB.out) hb)
      clear HO107
      clear HO110
      clear HO113
      clear HO116
      clear BK101
      clear BK102
      clear HB
      have HO107 := n0_
      have HO110 := n1_
      have HO113 := n2_
      have HO116 := n3_
      have BK101 := n4_
      have BK102 := n5_
      have HB := n6_
      clear n0_ n1_ n2_ n3_ n4_ n5_ n6_
      (try clear hb)
      (try clear hb2)
      (try clear hk)
      (try clear hi)
      refine hK.out _ _ ⟨(blk_cell BK101.out 0).trans rfl, (blk_cell BK101.out 1).trans rfl, (blk_cell BK102.out 0).trans rfl, (blk_cell BK102.out 1).trans rfl⟩ (fun hHeld => ?_)
      clear hK K
      refine norm_ (a' := ?_) ?_ ?_
      rotate_left
      ·show Act.put _ (some 24) _ = _
       simp only [Act.put, List.setIfInBounds_toArray, List.set_cons_zero, List.set_cons_succ, i64_w, i32_w]
       rfl
      refine pure_ (i := 5) (N := some 6) (v := ?_) (a' := ?_) #[true, true, true, true, true, true] rfl rfl (by kernel_rfl) (fun _ _ _ h => h) (Or.inl ⟨by rfl, ?_⟩) ?_ ?_
      rotate_left
      ·intro w'
       go_simp
       with_reducible rfl
      rotate_left
      ·simp only [Act.put, List.setIfInBounds_toArray, List.set_cons_zero, List.set_cons_succ, i64_w, i32_w]
       rfl
      refine done_ (by kernel_rfl) ?_
      have hcz125_0 : w124.cell? ⟨gb101, 0, none⟩ = some (.slice A0_0 l0_0.length c0_0) := (blk_cell BK101.out 0).trans rfl
      have hcz125_1 : w124.cell? ⟨gb101, 1, none⟩ = some (.slice A0_1 l0_1.length c0_1) := (blk_cell BK101.out 1).trans rfl
      have hfz125_0 := blk_frozen BK101.out 0
      have hfz125_1 := blk_frozen BK101.out 1
      try go_wp2_with (first | ((with_reducible refine gate_callee (f := 37) rfl ?_);refine goesL_ (some 26) rfl rfl Try.func37 (by kernel_rfl) rfl #[.agg #[.slice A0_0 l0_0.length c0_0, .slice A0_1 l0_1.length c0_1]] rfl (by (try simp only [List.map_toArray, List.map_cons, List.map_nil]);first | done | rfl | (simp only [List.length_drop, List.length_take];rfl)) ?_;(with_reducible refine (laws_toSpan.calls k _ _ l0_0 _ _ l0_1 t118 t121 _ ?side1 ?side2 ?side3 ?side4 A22.out).mono ?_);(case side1 => repeat (first | exact (Kd.C_below HR0_0.out HB.out) | (with_reducible refine Kd.C_alloc ?_ _) | (with_reducible refine Kd.C_drewN ?_ _) | (with_reducible refine Kd.C_drew ?_)));(case side2 => exact HC0_0.out);(case side3 => repeat (first | exact (Kd.C_below HR0_1.out HB.out) | (with_reducible refine Kd.C_alloc ?_ _) | (with_reducible refine Kd.C_drewN ?_ _) | (with_reducible refine Kd.C_drew ?_)));(case side4 => exact HC0_1.out);rintro e w126 ⟨v119, v122, rfl, ho0, ho1, hb⟩;refine ⟨_, rfl, ?_⟩;have n0_ := Aside0.mk (Kd.S_mono (Kd.S_told (Kd.S_told (Kd.S_old (by exact HO107.out) hb) (Kd.S_base ho0)) (Kd.S_base ho1)) (fun _ h_ => h_.1));have n1_ := Aside0.mk (Kd.S_mono (Kd.S_told (Kd.S_told (Kd.S_old (by exact HO110.out) hb) (Kd.S_base ho0)) (Kd.S_base ho1)) (fun _ h_ => h_.1));have n2_ := Aside0.mk (Kd.S_mono (Kd.S_told (Kd.S_told (Kd.S_old (by exact HO113.out) hb) (Kd.S_base ho0)) (Kd.S_base ho1)) (fun _ h_ => h_.1));have n3_ := Aside0.mk (Kd.S_mono (Kd.S_told (Kd.S_told (Kd.S_old (by exact HO116.out) hb) (Kd.S_base ho0)) (Kd.S_base ho1)) (fun _ h_ => h_.1));have n4_ := Aside0.mk (Kd.S_lower (Kd.S_new' (Kd.S_new' (Kd.S_new' (Kd.S_new' ho0 (Kd.S_lt (by exact HO107.out))) (Kd.S_lt (by exact HO110.out))) (Kd.S_lt (by exact HO113.out))) (Kd.S_lt (by exact HO116.out))) (below_size (by repeat (first | (with_reducible first | exact HB.out | apply below_alloc | apply pw_below_drewN | apply below_drew1 | refine below_set ?_ GE101.out | refine below_set ?_ GE102.out) | exact HB.out))));have n5_ := Aside0.mk (Kd.S_lower (Kd.S_new' (Kd.S_new' (Kd.S_new' (Kd.S_new' ho1 (Kd.S_lt (by exact HO107.out))) (Kd.S_lt (by exact HO110.out))) (Kd.S_lt (by exact HO113.out))) (Kd.S_lt (by exact HO116.out))) (below_size (by repeat (first | (with_reducible first | exact HB.out | apply below_alloc | apply pw_below_drewN | apply below_drew1 | refine below_set ?_ GE101.out | refine below_set ?_ GE102.out) | exact HB.out))));have n6_ := Aside0.mk (blk_below BK101.out hb);have n7_ := Aside0.mk (blk_below BK102.out hb);have n8_ := Aside0.mk (below_step (by repeat (first | (with_reducible first | exact HB.out | apply below_alloc | apply pw_below_drewN | apply below_drew1 | refine below_set ?_ GE101.out | refine below_set ?_ GE102.out) | exact HB.out)) hb);clear HO107;clear HO110;clear HO113;clear HO116;clear BK101;clear BK102;clear HB;have HO107 := n0_;have HO110 := n1_;have HO113 := n2_;have HO116 := n3_;have HO120 := n4_;have HO123 := n5_;have BK101 := n6_;have BK102 := n7_;have HB := n8_;clear n0_ n1_ n2_ n3_ n4_ n5_ n6_ n7_ n8_;(try clear hb);(try clear hb2);(try clear hk);(try clear hi);(try clear ho0);(try clear ho1)) | ((with_reducible refine gate_dst (N := 7) rfl ?_);refine box_event ?hg (N := 7) ?hd (cs := #[.slice none 0 0, .slice none 0 0]) (t := 52) ?hr ?_;(case hd => rfl);(case hg => rfl);(case hr => first | (go_simp;done) | (go_simp;rfl));intro gb124 hg w127 hbox hb;have n0_ := Aside0.mk (Kd.S_below (by exact HO107.out) hb);have n1_ := Aside0.mk (Kd.S_below (by exact HO110.out) hb);have n2_ := Aside0.mk (Kd.S_below (by exact HO113.out) hb);have n3_ := Aside0.mk (Kd.S_below (by exact HO116.out) hb);have n4_ := Aside0.mk (Kd.S_below (by exact HO120.out) hb);have n5_ := Aside0.mk (Kd.S_below (by exact HO123.out) hb);have n6_ := Aside0.mk (blk_below BK101.out hb);have n7_ := Aside0.mk (blk_below BK102.out hb);have n8_ := Aside0.mk (below_step (by repeat (first | (with_reducible first | exact HB.out | apply below_alloc | apply pw_below_drewN | apply below_drew1 | refine below_set ?_ GE101.out | refine below_set ?_ GE102.out) | exact HB.out)) hb);have n9_ := Aside0.mk (hbox);have n10_ := Aside0.mk ((by rw [hg];exact (below_size (by repeat (first | (with_reducible first | exact HB.out | apply below_alloc | apply pw_below_drewN | apply below_drew1 | refine below_set ?_ GE101.out | refine below_set ?_ GE102.out) | exact HB.out))) : w.heap.size ≤ gb124));have n11_ := Aside0.mk ((by rw [hg];exact (below_size (by repeat (first | (with_reducible first | exact HB.out | apply below_alloc | apply pw_below_drewN | apply below_drew1 | refine below_set ?_ GE101.out | refine below_set ?_ GE102.out) | exact HB.out))) : w.heap.size ≤ gb124));have n12_ := Aside0.mk ((by rw [hg];exact Nat.ne_of_lt (blk_lt BK101.out) : gb101 ≠ gb124));have n13_ := Aside0.mk ((by rw [hg];exact Nat.ne_of_gt (blk_lt BK101.out) : gb124 ≠ gb101));have n14_ := Aside0.mk ((by rw [hg];exact Nat.ne_of_lt (blk_lt BK102.out) : gb102 ≠ gb124));have n15_ := Aside0.mk ((by rw [hg];exact Nat.ne_of_gt (blk_lt BK102.out) : gb124 ≠ gb102));clear HO107;clear HO110;clear HO113;clear HO116;clear HO120;clear HO123;clear BK101;clear BK102;clear HB;have HO107 := n0_;have HO110 := n1_;have HO113 := n2_;have HO116 := n3_;have HO120 := n4_;have HO123 := n5_;have BK101 := n6_;have BK102 := n7_;have HB := n8_;have BK124 := n9_;have GW124 := n10_;have GE124 := n11_;have NB101_124 := n12_;have NB124_101 := n13_;have NB102_124 := n14_;have NB124_102 := n15_;clear n0_ n1_ n2_ n3_ n4_ n5_ n6_ n7_ n8_ n9_ n10_ n11_ n12_ n13_ n14_ n15_;clear hb hbox hg;obtain ⟨Ao128, co128, eo128⟩ := Kd.S_slice HO120.out;subst eo128;have hnb129 := NB124_101.out;have hnc129 := NB101_124.out;have hnb130 := NB124_102.out;have hnc130 := NB102_124.out;have hcz131_0 : w127.cell? ⟨gb124, 0, none⟩ = some (.slice none 0 0) := (blk_cell BK124.out 0).trans rfl;have hcz131_1 : w127.cell? ⟨gb124, 1, none⟩ = some (.slice none 0 0) := (blk_cell BK124.out 1).trans rfl;have hfz131_0 := blk_frozen BK124.out 0;have hfz131_1 := blk_frozen BK124.out 1;obtain ⟨Ao132, co132, eo132⟩ := Kd.S_slice HO123.out;subst eo132;have hcz133_0 : w127.cell? ⟨gb102, 0, none⟩ = some (.slice A1_0 l1_0.length c1_0) := (blk_cell BK102.out 0).trans rfl;have hcz133_1 : w127.cell? ⟨gb102, 1, none⟩ = some (.slice A1_1 l1_1.length c1_1) := (blk_cell BK102.out 1).trans rfl;have hfz133_0 := blk_frozen BK102.out 0;have hfz133_1 := blk_frozen BK102.out 1) | ((with_reducible refine gate_callee (f := 37) rfl ?_);refine goesL_ (some 28) rfl rfl Try.func37 (by kernel_rfl) rfl #[.agg #[.slice A1_0 l1_0.length c1_0, .slice A1_1 l1_1.length c1_1]] rfl (by (try simp only [List.map_toArray, List.map_cons, List.map_nil]);first | done | rfl | (simp only [List.length_drop, List.length_take];rfl)) ?_;(with_reducible refine (laws_toSpan.calls k _ _ l1_0 _ _ l1_1 t125 t128 _ ?side1 ?side2 ?side3 ?side4 A23.out).mono ?_);(case side1 => exact Kd.C_below HR1_0.out (by repeat (first | (with_reducible first | exact HB.out | apply below_alloc | apply pw_below_drewN | apply below_drew1 | refine below_set ?_ GE101.out | refine below_set ?_ GE102.out | refine below_set ?_ GE124.out) | exact HB.out)));(case side2 => exact HC1_0.out);(case side3 => exact Kd.C_below HR1_1.out (by repeat (first | (with_reducible first | exact HB.out | apply below_alloc | apply pw_below_drewN | apply below_drew1 | refine below_set ?_ GE101.out | refine below_set ?_ GE102.out | refine below_set ?_ GE124.out) | exact HB.out)));(case side4 => exact HC1_1.out);rintro e w134 ⟨v126, v129, rfl, ho0, ho1, hb⟩;refine ⟨_, rfl, ?_⟩;have n0_ := Aside0.mk (Kd.S_mono (Kd.S_told (Kd.S_told (Kd.S_old (by (with_reducible repeat (first | apply Kd.S_alloc | apply Kd.S_drewN | apply Kd.S_drew));exact (Kd.S_mono (Kd.S_far (p := ⟨gb124, 1, none⟩) (Kd.S_far (p := ⟨gb124, 0, none⟩) (Kd.S_types HO107.out BK124.out (by decide)) (fun _ hk => hk.2) (.slice Ao128 t118.length co128)) (fun _ hk => hk.2) (.slice Ao132 t121.length co132)) (fun _ h_ => h_.1))) hb) (Kd.S_base ho0)) (Kd.S_base ho1)) (fun _ h_ => h_.1));have n1_ := Aside0.mk (Kd.S_mono (Kd.S_told (Kd.S_told (Kd.S_old (by (with_reducible repeat (first | apply Kd.S_alloc | apply Kd.S_drewN | apply Kd.S_drew));exact (Kd.S_mono (Kd.S_far (p := ⟨gb124, 1, none⟩) (Kd.S_far (p := ⟨gb124, 0, none⟩) (Kd.S_types HO110.out BK124.out (by decide)) (fun _ hk => hk.2) (.slice Ao128 t118.length co128)) (fun _ hk => hk.2) (.slice Ao132 t121.length co132)) (fun _ h_ => h_.1))) hb) (Kd.S_base ho0)) (Kd.S_base ho1)) (fun _ h_ => h_.1));have n2_ := Aside0.mk (Kd.S_mono (Kd.S_told (Kd.S_told (Kd.S_old (by (with_reducible repeat (first | apply Kd.S_alloc | apply Kd.S_drewN | apply Kd.S_drew));exact (Kd.S_mono (Kd.S_far (p := ⟨gb124, 1, none⟩) (Kd.S_far (p := ⟨gb124, 0, none⟩) (Kd.S_types HO113.out BK124.out (by decide)) (fun _ hk => hk.2) (.slice Ao128 t118.length co128)) (fun _ hk => hk.2) (.slice Ao132 t121.length co132)) (fun _ h_ => h_.1))) hb) (Kd.S_base ho0)) (Kd.S_base ho1)) (fun _ h_ => h_.1));have n3_ := Aside0.mk (Kd.S_mono (Kd.S_told (Kd.S_told (Kd.S_old (by (with_reducible repeat (first | apply Kd.S_alloc | apply Kd.S_drewN | apply Kd.S_drew));exact (Kd.S_mono (Kd.S_far (p := ⟨gb124, 1, none⟩) (Kd.S_far (p := ⟨gb124, 0, none⟩) (Kd.S_types HO116.out BK124.out (by decide)) (fun _ hk => hk.2) (.slice Ao128 t118.length co128)) (fun _ hk => hk.2) (.slice Ao132 t121.length co132)) (fun _ h_ => h_.1))) hb) (Kd.S_base ho0)) (Kd.S_base ho1)) (fun _ h_ => h_.1));have n4_ := Aside0.mk (Kd.S_mono (Kd.S_told (Kd.S_told (Kd.S_old (by (with_reducible repeat (first | apply Kd.S_alloc | apply Kd.S_drewN | apply Kd.S_drew));exact (Kd.S_mono (Kd.S_far (p := ⟨gb124, 1, none⟩) (Kd.S_far (p := ⟨gb124, 0, none⟩) (Kd.S_types HO120.out BK124.out (by decide)) (fun _ hk => hk.2) (.slice Ao128 t118.length co128)) (fun _ hk => hk.2) (.slice Ao132 t121.length co132)) (fun _ h_ => h_.1))) hb) (Kd.S_base ho0)) (Kd.S_base ho1)) (fun _ h_ => h_.1));have n5_ := Aside0.mk (Kd.S_mono (Kd.S_told (Kd.S_told (Kd.S_old (by (with_reducible repeat (first | apply Kd.S_alloc | apply Kd.S_drewN | apply Kd.S_drew));exact (Kd.S_mono (Kd.S_far (p := ⟨gb124, 1, none⟩) (Kd.S_far (p := ⟨gb124, 0, none⟩) (Kd.S_types HO123.out BK124.out (by decide)) (fun _ hk => hk.2) (.slice Ao128 t118.length co128)) (fun _ hk => hk.2) (.slice Ao132 t121.length co132)) (fun _ h_ => h_.1))) hb) (Kd.S_base ho0)) (Kd.S_base ho1)) (fun _ h_ => h_.1));have n6_ := Aside0.mk (Kd.S_lower (Kd.S_new' (Kd.S_new' (Kd.S_new' (Kd.S_new' (Kd.S_new' (Kd.S_new' ho0 (Kd.S_lt (by (with_reducible repeat (first | apply Kd.S_alloc | apply Kd.S_drewN | apply Kd.S_drew));exact (Kd.S_mono (Kd.S_far (p := ⟨gb124, 1, none⟩) (Kd.S_far (p := ⟨gb124, 0, none⟩) (Kd.S_types HO107.out BK124.out (by decide)) (fun _ hk => hk.2) (.slice Ao128 t118.length co128)) (fun _ hk => hk.2) (.slice Ao132 t121.length co132)) (fun _ h_ => h_.1))))) (Kd.S_lt (by (with_reducible repeat (first | apply Kd.S_alloc | apply Kd.S_drewN | apply Kd.S_drew));exact (Kd.S_mono (Kd.S_far (p := ⟨gb124, 1, none⟩) (Kd.S_far (p := ⟨gb124, 0, none⟩) (Kd.S_types HO110.out BK124.out (by decide)) (fun _ hk => hk.2) (.slice Ao128 t118.length co128)) (fun _ hk => hk.2) (.slice Ao132 t121.length co132)) (fun _ h_ => h_.1))))) (Kd.S_lt (by (with_reducible repeat (first | apply Kd.S_alloc | apply Kd.S_drewN | apply Kd.S_drew));exact (Kd.S_mono (Kd.S_far (p := ⟨gb124, 1, none⟩) (Kd.S_far (p := ⟨gb124, 0, none⟩) (Kd.S_types HO113.out BK124.out (by decide)) (fun _ hk => hk.2) (.slice Ao128 t118.length co128)) (fun _ hk => hk.2) (.slice Ao132 t121.length co132)) (fun _ h_ => h_.1))))) (Kd.S_lt (by (with_reducible repeat (first | apply Kd.S_alloc | apply Kd.S_drewN | apply Kd.S_drew));exact (Kd.S_mono (Kd.S_far (p := ⟨gb124, 1, none⟩) (Kd.S_far (p := ⟨gb124, 0, none⟩) (Kd.S_types HO116.out BK124.out (by decide)) (fun _ hk => hk.2) (.slice Ao128 t118.length co128)) (fun _ hk => hk.2) (.slice Ao132 t121.length co132)) (fun _ h_ => h_.1))))) (Kd.S_lt (by (with_reducible repeat (first | apply Kd.S_alloc | apply Kd.S_drewN | apply Kd.S_drew));exact (Kd.S_mono (Kd.S_far (p := ⟨gb124, 1, none⟩) (Kd.S_far (p := ⟨gb124, 0, none⟩) (Kd.S_types HO120.out BK124.out (by decide)) (fun _ hk => hk.2) (.slice Ao128 t118.length co128)) (fun _ hk => hk.2) (.slice Ao132 t121.length co132)) (fun _ h_ => h_.1))))) (Kd.S_lt (by (with_reducible repeat (first | apply Kd.S_alloc | apply Kd.S_drewN | apply Kd.S_drew));exact (Kd.S_mono (Kd.S_far (p := ⟨gb124, 1, none⟩) (Kd.S_far (p := ⟨gb124, 0, none⟩) (Kd.S_types HO123.out BK124.out (by decide)) (fun _ hk => hk.2) (.slice Ao128 t118.length co128)) (fun _ hk => hk.2) (.slice Ao132 t121.length co132)) (fun _ h_ => h_.1))))) (below_size (by repeat (first | (with_reducible first | exact HB.out | apply below_alloc | apply pw_below_drewN | apply below_drew1 | refine below_set ?_ GE101.out | refine below_set ?_ GE102.out | refine below_set ?_ GE124.out) | exact HB.out))));have n7_ := Aside0.mk (Kd.S_lower (Kd.S_new' (Kd.S_new' (Kd.S_new' (Kd.S_new' (Kd.S_new' (Kd.S_new' ho1 (Kd.S_lt (by (with_reducible repeat (first | apply Kd.S_alloc | apply Kd.S_drewN | apply Kd.S_drew));exact (Kd.S_mono (Kd.S_far (p := ⟨gb124, 1, none⟩) (Kd.S_far (p := ⟨gb124, 0, none⟩) (Kd.S_types HO107.out BK124.out (by decide)) (fun _ hk => hk.2) (.slice Ao128 t118.length co128)) (fun _ hk => hk.2) (.slice Ao132 t121.length co132)) (fun _ h_ => h_.1))))) (Kd.S_lt (by (with_reducible repeat (first | apply Kd.S_alloc | apply Kd.S_drewN | apply Kd.S_drew));exact (Kd.S_mono (Kd.S_far (p := ⟨gb124, 1, none⟩) (Kd.S_far (p := ⟨gb124, 0, none⟩) (Kd.S_types HO110.out BK124.out (by decide)) (fun _ hk => hk.2) (.slice Ao128 t118.length co128)) (fun _ hk => hk.2) (.slice Ao132 t121.length co132)) (fun _ h_ => h_.1))))) (Kd.S_lt (by (with_reducible repeat (first | apply Kd.S_alloc | apply Kd.S_drewN | apply Kd.S_drew));exact (Kd.S_mono (Kd.S_far (p := ⟨gb124, 1, none⟩) (Kd.S_far (p := ⟨gb124, 0, none⟩) (Kd.S_types HO113.out BK124.out (by decide)) (fun _ hk => hk.2) (.slice Ao128 t118.length co128)) (fun _ hk => hk.2) (.slice Ao132 t121.length co132)) (fun _ h_ => h_.1))))) (Kd.S_lt (by (with_reducible repeat (first | apply Kd.S_alloc | apply Kd.S_drewN | apply Kd.S_drew));exact (Kd.S_mono (Kd.S_far (p := ⟨gb124, 1, none⟩) (Kd.S_far (p := ⟨gb124, 0, none⟩) (Kd.S_types HO116.out BK124.out (by decide)) (fun _ hk => hk.2) (.slice Ao128 t118.length co128)) (fun _ hk => hk.2) (.slice Ao132 t121.length co132)) (fun _ h_ => h_.1))))) (Kd.S_lt (by (with_reducible repeat (first | apply Kd.S_alloc | apply Kd.S_drewN | apply Kd.S_drew));exact (Kd.S_mono (Kd.S_far (p := ⟨gb124, 1, none⟩) (Kd.S_far (p := ⟨gb124, 0, none⟩) (Kd.S_types HO120.out BK124.out (by decide)) (fun _ hk => hk.2) (.slice Ao128 t118.length co128)) (fun _ hk => hk.2) (.slice Ao132 t121.length co132)) (fun _ h_ => h_.1))))) (Kd.S_lt (by (with_reducible repeat (first | apply Kd.S_alloc | apply Kd.S_drewN | apply Kd.S_drew));exact (Kd.S_mono (Kd.S_far (p := ⟨gb124, 1, none⟩) (Kd.S_far (p := ⟨gb124, 0, none⟩) (Kd.S_types HO123.out BK124.out (by decide)) (fun _ hk => hk.2) (.slice Ao128 t118.length co128)) (fun _ hk => hk.2) (.slice Ao132 t121.length co132)) (fun _ h_ => h_.1))))) (below_size (by repeat (first | (with_reducible first | exact HB.out | apply below_alloc | apply pw_below_drewN | apply below_drew1 | refine below_set ?_ GE101.out | refine below_set ?_ GE102.out | refine below_set ?_ GE124.out) | exact HB.out))));have n8_ := Aside0.mk (blk_below (g := gb101) (o := .cells #[.slice A0_0 l0_0.length c0_0, .slice A0_1 l0_1.length c0_1] 48 (0, 0)) (by (with_reducible repeat (first | refine blk_drewN ?_ _ | refine blk_drew ?_ | refine blk_alloc ?_ _));refine blk_far ?_ NB101_124.out _;(with_reducible repeat (first | refine blk_drewN ?_ _ | refine blk_drew ?_ | refine blk_alloc ?_ _));refine blk_far ?_ NB101_124.out _;(with_reducible repeat (first | refine blk_drewN ?_ _ | refine blk_drew ?_ | refine blk_alloc ?_ _));exact BK101.out) hb);have n9_ := Aside0.mk (blk_below (g := gb102) (o := .cells #[.slice A1_0 l1_0.length c1_0, .slice A1_1 l1_1.length c1_1] 48 (0, 0)) (by (with_reducible repeat (first | refine blk_drewN ?_ _ | refine blk_drew ?_ | refine blk_alloc ?_ _));refine blk_far ?_ NB102_124.out _;(with_reducible repeat (first | refine blk_drewN ?_ _ | refine blk_drew ?_ | refine blk_alloc ?_ _));refine blk_far ?_ NB102_124.out _;(with_reducible repeat (first | refine blk_drewN ?_ _ | refine blk_drew ?_ | refine blk_alloc ?_ _));exact BK102.out) hb);have n10_ := Aside0.mk (blk_below (g := gb124) (o := .cells #[.slice Ao128 t118.length co128, .slice Ao132 t121.length co132] 52 (0, 0)) (by (with_reducible repeat (first | refine blk_drewN ?_ _ | refine blk_drew ?_ | refine blk_alloc ?_ _));refine blk_put (cs := #[.slice Ao128 t118.length co128, .slice none 0 0]) ?_ 1 _ rfl;(with_reducible repeat (first | refine blk_drewN ?_ _ | refine blk_drew ?_ | refine blk_alloc ?_ _));refine blk_put (cs := #[.slice none 0 0, .slice none 0 0]) ?_ 0 _ rfl;(with_reducible repeat (first | refine blk_drewN ?_ _ | refine blk_drew ?_ | refine blk_alloc ?_ _));exact BK124.out) hb);have n11_ := Aside0.mk (below_step (by repeat (first | (with_reducible first | exact HB.out | apply below_alloc | apply pw_below_drewN | apply below_drew1 | refine below_set ?_ GE101.out | refine below_set ?_ GE102.out | refine below_set ?_ GE124.out) | exact HB.out)) hb);clear HO107;clear HO110;clear HO113;clear HO116;clear HO120;clear HO123;clear BK101;clear BK102;clear BK124;clear HB;have HO107 := n0_;have HO110 := n1_;have HO113 := n2_;have HO116 := n3_;have HO120 := n4_;have HO123 := n5_;have HO127 := n6_;have HO130 := n7_;have BK101 := n8_;have BK102 := n9_;have BK124 := n10_;have HB := n11_;clear n0_ n1_ n2_ n3_ n4_ n5_ n6_ n7_ n8_ n9_ n10_ n11_;(try clear hb);(try clear hb2);(try clear hk);(try clear hi);(try clear ho0);(try clear ho1)) | ((with_reducible refine gate_dst (N := 8) rfl ?_);refine box_event ?hg (N := 8) ?hd (cs := #[.slice none 0 0, .slice none 0 0]) (t := 52) ?hr ?_;(case hd => rfl);(case hg => rfl);(case hr => first | (go_simp;done) | (go_simp;rfl));intro gb131 hg w135 hbox hb;have n0_ := Aside0.mk (Kd.S_below (by exact HO107.out) hb);have n1_ := Aside0.mk (Kd.S_below (by exact HO110.out) hb);have n2_ := Aside0.mk (Kd.S_below (by exact HO113.out) hb);have n3_ := Aside0.mk (Kd.S_below (by exact HO116.out) hb);have n4_ := Aside0.mk (Kd.S_below (by exact HO120.out) hb);have n5_ := Aside0.mk (Kd.S_below (by exact HO123.out) hb);have n6_ := Aside0.mk (Kd.S_below (by exact HO127.out) hb);have n7_ := Aside0.mk (Kd.S_below (by exact HO130.out) hb);have n8_ := Aside0.mk (blk_below BK101.out hb);have n9_ := Aside0.mk (blk_below BK102.out hb);have n10_ := Aside0.mk (blk_below BK124.out hb);have n11_ := Aside0.mk (below_step (by repeat (first | (with_reducible first | exact HB.out | apply below_alloc | apply pw_below_drewN | apply below_drew1 | refine below_set ?_ GE101.out | refine below_set ?_ GE102.out | refine below_set ?_ GE124.out) | exact HB.out)) hb);have n12_ := Aside0.mk (hbox);have n13_ := Aside0.mk ((by rw [hg];exact (below_size (by repeat (first | (with_reducible first | exact HB.out | apply below_alloc | apply pw_below_drewN | apply below_drew1 | refine below_set ?_ GE101.out | refine below_set ?_ GE102.out | refine below_set ?_ GE124.out) | exact HB.out))) : w.heap.size ≤ gb131));have n14_ := Aside0.mk ((by rw [hg];exact (below_size (by repeat (first | (with_reducible first | exact HB.out | apply below_alloc | apply pw_below_drewN | apply below_drew1 | refine below_set ?_ GE101.out | refine below_set ?_ GE102.out | refine below_set ?_ GE124.out) | exact HB.out))) : w.heap.size ≤ gb131));have n15_ := Aside0.mk ((by rw [hg];exact Nat.ne_of_lt (blk_lt BK101.out) : gb101 ≠ gb131));have n16_ := Aside0.mk ((by rw [hg];exact Nat.ne_of_gt (blk_lt BK101.out) : gb131 ≠ gb101));have n17_ := Aside0.mk ((by rw [hg];exact Nat.ne_of_lt (blk_lt BK102.out) : gb102 ≠ gb131));have n18_ := Aside0.mk ((by rw [hg];exact Nat.ne_of_gt (blk_lt BK102.out) : gb131 ≠ gb102));have n19_ := Aside0.mk ((by rw [hg];exact Nat.ne_of_lt (blk_lt BK124.out) : gb124 ≠ gb131));have n20_ := Aside0.mk ((by rw [hg];exact Nat.ne_of_gt (blk_lt BK124.out) : gb131 ≠ gb124));clear HO107;clear HO110;clear HO113;clear HO116;clear HO120;clear HO123;clear HO127;clear HO130;clear BK101;clear BK102;clear BK124;clear HB;have HO107 := n0_;have HO110 := n1_;have HO113 := n2_;have HO116 := n3_;have HO120 := n4_;have HO123 := n5_;have HO127 := n6_;have HO130 := n7_;have BK101 := n8_;have BK102 := n9_;have BK124 := n10_;have HB := n11_;have BK131 := n12_;have GW131 := n13_;have GE131 := n14_;have NB101_131 := n15_;have NB131_101 := n16_;have NB102_131 := n17_;have NB131_102 := n18_;have NB124_131 := n19_;have NB131_124 := n20_;clear n0_ n1_ n2_ n3_ n4_ n5_ n6_ n7_ n8_ n9_ n10_ n11_ n12_ n13_ n14_ n15_ n16_ n17_ n18_ n19_ n20_;clear hb hbox hg;obtain ⟨Ao136, co136, eo136⟩ := Kd.S_slice HO127.out;subst eo136;have hnb137 := NB131_101.out;have hnc137 := NB101_131.out;have hnb138 := NB131_102.out;have hnc138 := NB102_131.out;have hnb139 := NB131_124.out;have hnc139 := NB124_131.out;have hcz140_0 : w135.cell? ⟨gb131, 0, none⟩ = some (.slice none 0 0) := (blk_cell BK131.out 0).trans rfl;have hcz140_1 : w135.cell? ⟨gb131, 1, none⟩ = some (.slice none 0 0) := (blk_cell BK131.out 1).trans rfl;have hfz140_0 := blk_frozen BK131.out 0;have hfz140_1 := blk_frozen BK131.out 1;obtain ⟨Ao141, co141, eo141⟩ := Kd.S_slice HO130.out;subst eo141;have hcz142_0 : w135.cell? ⟨gb124, 0, none⟩ = some (.slice Ao128 t118.length co128) := (blk_cell BK124.out 0).trans rfl;have hcz142_1 : w135.cell? ⟨gb124, 1, none⟩ = some (.slice Ao132 t121.length co132) := (blk_cell BK124.out 1).trans rfl;have hfz142_0 := blk_frozen BK124.out 0;have hfz142_1 := blk_frozen BK124.out 1) | ((with_reducible refine gate_callee (f := 38) rfl ?_);refine goesL_ (some 31) rfl rfl Try.func38 (by kernel_rfl) rfl #[.agg #[.slice Ao128 t118.length co128, .slice Ao132 t121.length co132], .agg #[.slice Ao136 t125.length co136, .slice Ao141 t128.length co141]] rfl (by (try simp only [List.map_toArray, List.map_cons, List.map_nil]);first | done | rfl | (simp only [List.length_drop, List.length_take];rfl)) ?_;(with_reducible refine (impl_SpanSame.calls k _ _ t118 _ _ t121 _ _ t125 _ _ t128 t132 _ ?side1 ?side2 ?side3 ?side4 ?side5 ?side6 ?side7 ?side8 A24.out).mono ?_);(case side1 => refine (Kd.S_reads' (e := 27) (base := w.heap.size) (ok := fun k_ => ((((((some k_ ≠ (.slice Ao132 t121.length co132 : Value).ownBlock ∧ some k_ ≠ (.slice Ao120 t105.length co120 : Value).ownBlock) ∧ some k_ ≠ (.slice Ao121 t108.length co121 : Value).ownBlock) ∧ some k_ ≠ (.slice Ao122 t111.length co122 : Value).ownBlock) ∧ some k_ ≠ (.slice Ao123 t114.length co123 : Value).ownBlock) ∧ some k_ ≠ (.slice Ao136 t125.length co136 : Value).ownBlock) ∧ some k_ ≠ (.slice Ao141 t128.length co141 : Value).ownBlock)) (n := t118.length) (c := co128) ?_).2.2;exact (by (with_reducible repeat (first | apply Kd.S_alloc | apply Kd.S_drewN | apply Kd.S_drew));exact (Kd.S_mono (Kd.S_far (p := ⟨gb131, 1, none⟩) (Kd.S_far (p := ⟨gb131, 0, none⟩) (Kd.S_types HO120.out BK131.out (by decide)) (fun _ hk => hk.2) (.slice Ao136 t125.length co136)) (fun _ hk => hk.2) (.slice Ao141 t128.length co141)) (fun _ h_ => h_.1))));(case side2 => exact (Kd.S_reads' HO120.out).2.1);(case side3 => refine (Kd.S_reads' (e := 27) (base := w.heap.size) (ok := fun k_ => ((((((some k_ ≠ (.slice Ao128 t118.length co128 : Value).ownBlock ∧ some k_ ≠ (.slice Ao120 t105.length co120 : Value).ownBlock) ∧ some k_ ≠ (.slice Ao121 t108.length co121 : Value).ownBlock) ∧ some k_ ≠ (.slice Ao122 t111.length co122 : Value).ownBlock) ∧ some k_ ≠ (.slice Ao123 t114.length co123 : Value).ownBlock) ∧ some k_ ≠ (.slice Ao136 t125.length co136 : Value).ownBlock) ∧ some k_ ≠ (.slice Ao141 t128.length co141 : Value).ownBlock)) (n := t121.length) (c := co132) ?_).2.2;exact (by (with_reducible repeat (first | apply Kd.S_alloc | apply Kd.S_drewN | apply Kd.S_drew));exact (Kd.S_mono (Kd.S_far (p := ⟨gb131, 1, none⟩) (Kd.S_far (p := ⟨gb131, 0, none⟩) (Kd.S_types HO123.out BK131.out (by decide)) (fun _ hk => hk.2) (.slice Ao136 t125.length co136)) (fun _ hk => hk.2) (.slice Ao141 t128.length co141)) (fun _ h_ => h_.1))));(case side4 => exact (Kd.S_reads' HO123.out).2.1);(case side5 => refine (Kd.S_reads' (e := 27) (base := w.heap.size) (ok := fun k_ => ((((((some k_ ≠ (.slice Ao141 t128.length co141 : Value).ownBlock ∧ some k_ ≠ (.slice Ao120 t105.length co120 : Value).ownBlock) ∧ some k_ ≠ (.slice Ao121 t108.length co121 : Value).ownBlock) ∧ some k_ ≠ (.slice Ao122 t111.length co122 : Value).ownBlock) ∧ some k_ ≠ (.slice Ao123 t114.length co123 : Value).ownBlock) ∧ some k_ ≠ (.slice Ao128 t118.length co128 : Value).ownBlock) ∧ some k_ ≠ (.slice Ao132 t121.length co132 : Value).ownBlock)) (n := t125.length) (c := co136) ?_).2.2;exact (by (with_reducible repeat (first | apply Kd.S_alloc | apply Kd.S_drewN | apply Kd.S_drew));exact (Kd.S_mono (Kd.S_far (p := ⟨gb131, 1, none⟩) (Kd.S_far (p := ⟨gb131, 0, none⟩) (Kd.S_types HO127.out BK131.out (by decide)) (fun _ hk => hk.2) (.slice Ao136 t125.length co136)) (fun _ hk => hk.2) (.slice Ao141 t128.length co141)) (fun _ h_ => h_.1))));(case side6 => exact (Kd.S_reads' HO127.out).2.1);(case side7 => refine (Kd.S_reads' (e := 27) (base := w.heap.size) (ok := fun k_ => ((((((some k_ ≠ (.slice Ao136 t125.length co136 : Value).ownBlock ∧ some k_ ≠ (.slice Ao120 t105.length co120 : Value).ownBlock) ∧ some k_ ≠ (.slice Ao121 t108.length co121 : Value).ownBlock) ∧ some k_ ≠ (.slice Ao122 t111.length co122 : Value).ownBlock) ∧ some k_ ≠ (.slice Ao123 t114.length co123 : Value).ownBlock) ∧ some k_ ≠ (.slice Ao128 t118.length co128 : Value).ownBlock) ∧ some k_ ≠ (.slice Ao132 t121.length co132 : Value).ownBlock)) (n := t128.length) (c := co141) ?_).2.2;exact (by (with_reducible repeat (first | apply Kd.S_alloc | apply Kd.S_drewN | apply Kd.S_drew));exact (Kd.S_mono (Kd.S_far (p := ⟨gb131, 1, none⟩) (Kd.S_far (p := ⟨gb131, 0, none⟩) (Kd.S_types HO130.out BK131.out (by decide)) (fun _ hk => hk.2) (.slice Ao136 t125.length co136)) (fun _ hk => hk.2) (.slice Ao141 t128.length co141)) (fun _ h_ => h_.1))));(case side8 => exact (Kd.S_reads' HO130.out).2.1);rintro e w143 ⟨rfl, hb⟩;refine ⟨_, rfl, ?_⟩;have n0_ := Aside0.mk (Kd.S_below (by (with_reducible repeat (first | apply Kd.S_alloc | apply Kd.S_drewN | apply Kd.S_drew));exact (Kd.S_mono (Kd.S_far (p := ⟨gb131, 1, none⟩) (Kd.S_far (p := ⟨gb131, 0, none⟩) (Kd.S_types HO107.out BK131.out (by decide)) (fun _ hk => hk.2) (.slice Ao136 t125.length co136)) (fun _ hk => hk.2) (.slice Ao141 t128.length co141)) (fun _ h_ => h_.1))) hb);have n1_ := Aside0.mk (Kd.S_below (by (with_reducible repeat (first | apply Kd.S_alloc | apply Kd.S_drewN | apply Kd.S_drew));exact (Kd.S_mono (Kd.S_far (p := ⟨gb131, 1, none⟩) (Kd.S_far (p := ⟨gb131, 0, none⟩) (Kd.S_types HO110.out BK131.out (by decide)) (fun _ hk => hk.2) (.slice Ao136 t125.length co136)) (fun _ hk => hk.2) (.slice Ao141 t128.length co141)) (fun _ h_ => h_.1))) hb);have n2_ := Aside0.mk (Kd.S_below (by (with_reducible repeat (first | apply Kd.S_alloc | apply Kd.S_drewN | apply Kd.S_drew));exact (Kd.S_mono (Kd.S_far (p := ⟨gb131, 1, none⟩) (Kd.S_far (p := ⟨gb131, 0, none⟩) (Kd.S_types HO113.out BK131.out (by decide)) (fun _ hk => hk.2) (.slice Ao136 t125.length co136)) (fun _ hk => hk.2) (.slice Ao141 t128.length co141)) (fun _ h_ => h_.1))) hb);have n3_ := Aside0.mk (Kd.S_below (by (with_reducible repeat (first | apply Kd.S_alloc | apply Kd.S_drewN | apply Kd.S_drew));exact (Kd.S_mono (Kd.S_far (p := ⟨gb131, 1, none⟩) (Kd.S_far (p := ⟨gb131, 0, none⟩) (Kd.S_types HO116.out BK131.out (by decide)) (fun _ hk => hk.2) (.slice Ao136 t125.length co136)) (fun _ hk => hk.2) (.slice Ao141 t128.length co141)) (fun _ h_ => h_.1))) hb);have n4_ := Aside0.mk (Kd.S_below (by (with_reducible repeat (first | apply Kd.S_alloc | apply Kd.S_drewN | apply Kd.S_drew));exact (Kd.S_mono (Kd.S_far (p := ⟨gb131, 1, none⟩) (Kd.S_far (p := ⟨gb131, 0, none⟩) (Kd.S_types HO120.out BK131.out (by decide)) (fun _ hk => hk.2) (.slice Ao136 t125.length co136)) (fun _ hk => hk.2) (.slice Ao141 t128.length co141)) (fun _ h_ => h_.1))) hb);have n5_ := Aside0.mk (Kd.S_below (by (with_reducible repeat (first | apply Kd.S_alloc | apply Kd.S_drewN | apply Kd.S_drew));exact (Kd.S_mono (Kd.S_far (p := ⟨gb131, 1, none⟩) (Kd.S_far (p := ⟨gb131, 0, none⟩) (Kd.S_types HO123.out BK131.out (by decide)) (fun _ hk => hk.2) (.slice Ao136 t125.length co136)) (fun _ hk => hk.2) (.slice Ao141 t128.length co141)) (fun _ h_ => h_.1))) hb);have n6_ := Aside0.mk (Kd.S_below (by (with_reducible repeat (first | apply Kd.S_alloc | apply Kd.S_drewN | apply Kd.S_drew));exact (Kd.S_mono (Kd.S_far (p := ⟨gb131, 1, none⟩) (Kd.S_far (p := ⟨gb131, 0, none⟩) (Kd.S_types HO127.out BK131.out (by decide)) (fun _ hk => hk.2) (.slice Ao136 t125.length co136)) (fun _ hk => hk.2) (.slice Ao141 t128.length co141)) (fun _ h_ => h_.1))) hb);have n7_ := Aside0.mk (Kd.S_below (by (with_reducible repeat (first | apply Kd.S_alloc | apply Kd.S_drewN | apply Kd.S_drew));exact (Kd.S_mono (Kd.S_far (p := ⟨gb131, 1, none⟩) (Kd.S_far (p := ⟨gb131, 0, none⟩) (Kd.S_types HO130.out BK131.out (by decide)) (fun _ hk => hk.2) (.slice Ao136 t125.length co136)) (fun _ hk => hk.2) (.slice Ao141 t128.length co141)) (fun _ h_ => h_.1))) hb);have n8_ := Aside0.mk (blk_below (g := gb101) (o := .cells #[.slice A0_0 l0_0.length c0_0, .slice A0_1 l0_1.length c0_1] 48 (0, 0)) (by (with_reducible repeat (first | refine blk_drewN ?_ _ | refine blk_drew ?_ | refine blk_alloc ?_ _));refine blk_far ?_ NB101_131.out _;(with_reducible repeat (first | refine blk_drewN ?_ _ | refine blk_drew ?_ | refine blk_alloc ?_ _));refine blk_far ?_ NB101_131.out _;(with_reducible repeat (first | refine blk_drewN ?_ _ | refine blk_drew ?_ | refine blk_alloc ?_ _));exact BK101.out) hb);have n9_ := Aside0.mk (blk_below (g := gb102) (o := .cells #[.slice A1_0 l1_0.length c1_0, .slice A1_1 l1_1.length c1_1] 48 (0, 0)) (by (with_reducible repeat (first | refine blk_drewN ?_ _ | refine blk_drew ?_ | refine blk_alloc ?_ _));refine blk_far ?_ NB102_131.out _;(with_reducible repeat (first | refine blk_drewN ?_ _ | refine blk_drew ?_ | refine blk_alloc ?_ _));refine blk_far ?_ NB102_131.out _;(with_reducible repeat (first | refine blk_drewN ?_ _ | refine blk_drew ?_ | refine blk_alloc ?_ _));exact BK102.out) hb);have n10_ := Aside0.mk (blk_below (g := gb124) (o := .cells #[.slice Ao128 t118.length co128, .slice Ao132 t121.length co132] 52 (0, 0)) (by (with_reducible repeat (first | refine blk_drewN ?_ _ | refine blk_drew ?_ | refine blk_alloc ?_ _));refine blk_far ?_ NB124_131.out _;(with_reducible repeat (first | refine blk_drewN ?_ _ | refine blk_drew ?_ | refine blk_alloc ?_ _));refine blk_far ?_ NB124_131.out _;(with_reducible repeat (first | refine blk_drewN ?_ _ | refine blk_drew ?_ | refine blk_alloc ?_ _));exact BK124.out) hb);have n11_ := Aside0.mk (blk_below (g := gb131) (o := .cells #[.slice Ao136 t125.length co136, .slice Ao141 t128.length co141] 52 (0, 0)) (by (with_reducible repeat (first | refine blk_drewN ?_ _ | refine blk_drew ?_ | refine blk_alloc ?_ _));refine blk_put (cs := #[.slice Ao136 t125.length co136, .slice none 0 0]) ?_ 1 _ rfl;(with_reducible repeat (first | refine blk_drewN ?_ _ | refine blk_drew ?_ | refine blk_alloc ?_ _));refine blk_put (cs := #[.slice none 0 0, .slice none 0 0]) ?_ 0 _ rfl;(with_reducible repeat (first | refine blk_drewN ?_ _ | refine blk_drew ?_ | refine blk_alloc ?_ _));exact BK131.out) hb);have n12_ := Aside0.mk (below_step (by repeat (first | (with_reducible first | exact HB.out | apply below_alloc | apply pw_below_drewN | apply below_drew1 | refine below_set ?_ GE101.out | refine below_set ?_ GE102.out | refine below_set ?_ GE124.out | refine below_set ?_ GE131.out) | exact HB.out)) hb);clear HO107;clear HO110;clear HO113;clear HO116;clear HO120;clear HO123;clear HO127;clear HO130;clear BK101;clear BK102;clear BK124;clear BK131;clear HB;have HO107 := n0_;have HO110 := n1_;have HO113 := n2_;have HO116 := n3_;have HO120 := n4_;have HO123 := n5_;have HO127 := n6_;have HO130 := n7_;have BK101 := n8_;have BK102 := n9_;have BK124 := n10_;have BK131 := n11_;have HB := n12_;clear n0_ n1_ n2_ n3_ n4_ n5_ n6_ n7_ n8_ n9_ n10_ n11_ n12_;(try clear hb);(try clear hb2);(try clear hk);(try clear hi)))
      have n0_ := Aside0.mk (Kd.S_drew HO107.out)
      have n1_ := Aside0.mk (Kd.S_drew HO110.out)
      have n2_ := Aside0.mk (Kd.S_drew HO113.out)
      have n3_ := Aside0.mk (Kd.S_drew HO116.out)
      have n4_ := Aside0.mk (Kd.S_drew HO120.out)
      have n5_ := Aside0.mk (Kd.S_drew HO123.out)
      have n6_ := Aside0.mk (Kd.S_drew HO127.out)
      have n7_ := Aside0.mk (Kd.S_drew HO130.out)
      have n8_ := Aside0.mk (blk_drew BK101.out)
      have n9_ := Aside0.mk (blk_drew BK102.out)
      have n10_ := Aside0.mk (blk_drew BK124.out)
      have n11_ := Aside0.mk (blk_drew BK131.out)
      have n12_ := Aside0.mk (below_drew1 HB.out)
      clear HO107
      clear HO110
      clear HO113
      clear HO116
      clear HO120
      clear HO123
      clear HO127
      clear HO130
      clear BK101
      clear BK102
      clear BK124
      clear BK131
      clear HB
      have HO107 := n0_
      have HO110 := n1_
      have HO113 := n2_
      have HO116 := n3_
      have HO120 := n4_
      have HO123 := n5_
      have HO127 := n6_
      have HO130 := n7_
      have BK101 := n8_
      have BK102 := n9_
      have BK124 := n10_
      have BK131 := n11_
      have HB := n12_
      clear n0_ n1_ n2_ n3_ n4_ n5_ n6_ n7_ n8_ n9_ n10_ n11_ n12_
      refine start_ (n := 5) (S := fun w' => w'.cell? ⟨gb124, 0, none⟩ = some (.slice Ao128 t118.length co128) ∧ w'.cell? ⟨gb124, 1, none⟩ = some (.slice Ao132 t121.length co132) ∧ w'.cell? ⟨gb101, 0, none⟩ = some (.slice A0_0 l0_0.length c0_0) ∧ w'.cell? ⟨gb101, 1, none⟩ = some (.slice A0_1 l0_1.length c0_1)) (ds := []) #[false, false, false, false, false] (by kernel_rfl) rfl rfl ⟨(blk_cell BK124.out 0).trans rfl, (blk_cell BK124.out 1).trans rfl, (blk_cell BK101.out 0).trans rfl, (blk_cell BK101.out 1).trans rfl⟩ (fun hHeld => ?_)
      generalize w143.drew = w144 at HO107 HO110 HO113 HO116 HO120 HO123 HO127 HO130 BK101 BK102 BK124 BK131 HB hHeld ⊢
      refine take_ (i := 0) (N := some 35) (v := ?_) (a' := ?_) #[true, false, false, false, false] rfl rfl (by kernel_rfl) (fun _ _ _ h => h) (Or.inl ⟨by rfl, ?_⟩) hHeld ?_ ?_
      rotate_left
      ·rintro w' ⟨s0, s1, s2, s3⟩
       go_simp
       with_reducible rfl
      rotate_left
      ·simp only [Act.put, List.setIfInBounds_toArray, List.set_cons_zero, List.set_cons_succ, i64_w, i32_w]
       rfl
      refine take_ (i := 1) (N := some 36) (v := ?_) (a' := ?_) #[true, true, false, false, false] rfl rfl (by kernel_rfl) (fun _ _ _ h => h) (Or.inl ⟨by rfl, ?_⟩) hHeld ?_ ?_
      rotate_left
      ·rintro w' ⟨s0, s1, s2, s3⟩
       go_simp
       with_reducible rfl
      rotate_left
      ·simp only [Act.put, List.setIfInBounds_toArray, List.set_cons_zero, List.set_cons_succ, i64_w, i32_w]
       rfl
      refine one_ (i := 2) (N := some 37) #[true, true, true, false, false] rfl rfl (by kernel_rfl) (by decide) (fun K hK => ?_)
      refine goes_ Try.func37 (by kernel_rfl) rfl #[.agg #[.slice A0_0 l0_0.length c0_0, .slice A0_1 l0_1.length c0_1]] (by rfl) rfl rfl (by (try simp only [List.map_toArray, List.map_cons, List.map_nil]);first | done | rfl | (simp only [List.length_drop, List.length_take];rfl)) ?_
      with_reducible refine (laws_toSpan.calls k _ _ l0_0 _ _ l0_1 t133 t136 _ ?side1 ?side2 ?side3 ?side4 A60.out).mono ?_
      (case side1 => repeat (first | exact (Kd.C_below HR0_0.out HB.out) | (with_reducible refine Kd.C_alloc ?_ _) | (with_reducible refine Kd.C_drewN ?_ _) | (with_reducible refine Kd.C_drew ?_)))
      (case side2 => exact HC0_0.out)
      (case side3 => repeat (first | exact (Kd.C_below HR0_1.out HB.out) | (with_reducible refine Kd.C_alloc ?_ _) | (with_reducible refine Kd.C_drewN ?_ _) | (with_reducible refine Kd.C_drew ?_)))
      (case side4 => exact HC0_1.out)
      rintro e w145 ⟨v134, v137, rfl, ho0, ho1, hb⟩
      refine ⟨_, rfl, ?_⟩
      have n0_ := Aside0.mk (Kd.S_mono (Kd.S_told (Kd.S_told (Kd.S_old (by exact HO107.out) hb) (Kd.S_base ho0)) (Kd.S_base ho1)) (fun _ h_ => h_.1))
      have n1_ := Aside0.mk (Kd.S_mono (Kd.S_told (Kd.S_told (Kd.S_old (by exact HO110.out) hb) (Kd.S_base ho0)) (Kd.S_base ho1)) (fun _ h_ => h_.1))
      have n2_ := Aside0.mk (Kd.S_mono (Kd.S_told (Kd.S_told (Kd.S_old (by exact HO113.out) hb) (Kd.S_base ho0)) (Kd.S_base ho1)) (fun _ h_ => h_.1))
      have n3_ := Aside0.mk (Kd.S_mono (Kd.S_told (Kd.S_told (Kd.S_old (by exact HO116.out) hb) (Kd.S_base ho0)) (Kd.S_base ho1)) (fun _ h_ => h_.1))
      have n4_ := Aside0.mk (Kd.S_mono (Kd.S_told (Kd.S_told (Kd.S_old (by exact HO120.out) hb) (Kd.S_base ho0)) (Kd.S_base ho1)) (fun _ h_ => h_.1))
      have n5_ := Aside0.mk (Kd.S_mono (Kd.S_told (Kd.S_told (Kd.S_old (by exact HO123.out) hb) (Kd.S_base ho0)) (Kd.S_base ho1)) (fun _ h_ => h_.1))
      have n6_ := Aside0.mk (Kd.S_mono (Kd.S_told (Kd.S_told (Kd.S_old (by exact HO127.out) hb) (Kd.S_base ho0)) (Kd.S_base ho1)) (fun _ h_ => h_.1))
      have n7_ := Aside0.mk (Kd.S_mono (Kd.S_told (Kd.S_told (Kd.S_old (by exact HO130.out) hb) (Kd.S_base ho0)) (Kd.S_base ho1)) (fun _ h_ => h_.1))
      have n8_ := Aside0.mk (Kd.S_lower (Kd.S_new' (Kd.S_new' (Kd.S_new' (Kd.S_new' (Kd.S_new' (Kd.S_new' (Kd.S_new' (Kd.S_new' ho0 (Kd.S_lt (by exact HO107.out))) (Kd.S_lt (by exact HO110.out))) (Kd.S_lt (by exact HO113.out))) (Kd.S_lt (by exact HO116.out))) (Kd.S_lt (by exact HO120.out))) (Kd.S_lt (by exact HO123.out))) (Kd.S_lt (by exact HO127.out))) (Kd.S_lt (by exact HO130.out))) (below_size (by exact HB.out)))
      have n9_ := Aside0.mk (Kd.S_lower (Kd.S_new' (Kd.S_new' (Kd.S_new' (Kd.S_new' (Kd.S_new' (Kd.S_new' (Kd.S_new' (Kd.S_new' ho1 (Kd.S_lt (by exact HO107.out))) (Kd.S_lt (by exact HO110.out))) (Kd.S_lt (by exact HO113.out))) (Kd.S_lt (by exact HO116.out))) (Kd.S_lt (by exact HO120.out))) (Kd.S_lt (by exact HO123.out))) (Kd.S_lt (by exact HO127.out))) (Kd.S_lt (by exact HO130.out))) (below_size (by exact HB.out)))
      have n10_ := Aside0.mk (blk_below BK101.out hb)
      have n11_ := Aside0.mk (blk_below BK102.out hb)
      have n12_ := Aside0.mk (blk_below BK124.out hb)
      have n13_ := Aside0.mk (blk_below BK131.out hb)
      have n14_ := Aside0.mk (below_step (by exact HB.out) hb)
      clear HO107
      clear HO110
      clear HO113
      clear HO116
      clear HO120
      clear HO123
      clear HO127
      clear HO130
      clear BK101
      clear BK102
      clear BK124
      clear BK131
      clear HB
      have HO107 := n0_
      have HO110 := n1_
      have HO113 := n2_
      have HO116 := n3_
      have HO120 := n4_
      have HO123 := n5_
      have HO127 := n6_
      have HO130 := n7_
      have HO135 := n8_
      have HO138 := n9_
      have BK101 := n10_
      have BK102 := n11_
      have BK124 := n12_
      have BK131 := n13_
      have HB := n14_
      clear n0_ n1_ n2_ n3_ n4_ n5_ n6_ n7_ n8_ n9_ n10_ n11_ n12_ n13_ n14_
      (try clear hb)
      (try clear hb2)
      (try clear hk)
      (try clear hi)
      (try clear ho0)
      (try clear ho1)
      obtain ⟨Ao146, co146, eo146⟩ := Kd.S_slice HO135.out
      (first | subst eo146 | (injection eo146 with f1_ f2_ f3_;have f4_ := f1_.symm;have f5_ := f3_.symm;clear f1_ f2_ f3_;subst f4_;subst f5_))
      obtain ⟨Ao147, co147, eo147⟩ := Kd.S_slice HO138.out
      (first | subst eo147 | (injection eo147 with f1_ f2_ f3_;have f4_ := f1_.symm;have f5_ := f3_.symm;clear f1_ f2_ f3_;subst f4_;subst f5_))
      refine hK.out _ _ ⟨(blk_cell BK124.out 0).trans rfl, (blk_cell BK124.out 1).trans rfl, (blk_cell BK101.out 0).trans rfl, (blk_cell BK101.out 1).trans rfl⟩ (fun hHeld => ?_)
      clear hK K
      refine norm_ (a' := ?_) ?_ ?_
      rotate_left
      ·show Act.put _ (some 37) _ = _
       simp only [Act.put, List.setIfInBounds_toArray, List.set_cons_zero, List.set_cons_succ, i64_w, i32_w]
       rfl
      refine one_ (i := 3) (N := some 38) #[true, true, true, true, false] rfl rfl (by kernel_rfl) (by decide) (fun K hK => ?_)
      refine goes_ Try.func39 (by kernel_rfl) rfl #[.agg #[.slice Ao128 t118.length co128, .slice Ao132 t121.length co132], .agg #[.slice Ao146 t133.length co146, .slice Ao147 t136.length co147]] (by rfl) rfl rfl (by (try simp only [List.map_toArray, List.map_cons, List.map_nil]);first | done | rfl | (simp only [List.length_drop, List.length_take];rfl)) ?_
      with_reducible refine (laws_eqSpan.calls k _ _ t118 _ _ t121 _ _ t133 _ _ t136 true _ ?side1 ?side2 ?side3 ?side4 ?side5 ?side6 ?side7 ?side8 A61.out).mono ?_
      (case side1 => repeat (first | exact (Kd.S_reads' HO120.out).2.2 | (with_reducible refine Kd.C_alloc ?_ _) | (with_reducible refine Kd.C_drewN ?_ _) | (with_reducible refine Kd.C_drew ?_)))
      (case side2 => exact (Kd.S_reads' HO120.out).2.1)
      (case side3 => repeat (first | exact (Kd.S_reads' HO123.out).2.2 | (with_reducible refine Kd.C_alloc ?_ _) | (with_reducible refine Kd.C_drewN ?_ _) | (with_reducible refine Kd.C_drew ?_)))
      (case side4 => exact (Kd.S_reads' HO123.out).2.1)
      (case side5 => repeat (first | exact (Kd.S_reads' HO135.out).2.2 | (with_reducible refine Kd.C_alloc ?_ _) | (with_reducible refine Kd.C_drewN ?_ _) | (with_reducible refine Kd.C_drew ?_)))
      (case side6 => exact (Kd.S_reads' HO135.out).2.1)
      (case side7 => repeat (first | exact (Kd.S_reads' HO138.out).2.2 | (with_reducible refine Kd.C_alloc ?_ _) | (with_reducible refine Kd.C_drewN ?_ _) | (with_reducible refine Kd.C_drew ?_)))
      (case side8 => exact (Kd.S_reads' HO138.out).2.1)
      rintro e w148 ⟨rfl, hb⟩
      refine ⟨_, rfl, ?_⟩
      have n0_ := Aside0.mk (Kd.S_below (by exact HO107.out) hb)
      have n1_ := Aside0.mk (Kd.S_below (by exact HO110.out) hb)
      have n2_ := Aside0.mk (Kd.S_below (by exact HO113.out) hb)
      have n3_ := Aside0.mk (Kd.S_below (by exact HO116.out) hb)
      have n4_ := Aside0.mk (Kd.S_below (by exact HO120.out) hb)
      have n5_ := Aside0.mk (Kd.S_below (by exact HO123.out) hb)
      have n6_ := Aside0.mk (Kd.S_below (by exact HO127.out) hb)
      have n7_ := Aside0.mk (Kd.S_below (by exact HO130.out) hb)
      have n8_ := Aside0.mk (Kd.S_below (by exact HO135.out) hb)
      have n9_ := Aside0.mk (Kd.S_below (by exact HO138.out) hb)
      have n10_ := Aside0.mk (blk_below BK101.out hb)
      have n11_ := Aside0.mk (blk_below BK102.out hb)
      have n12_ := Aside0.mk (blk_below BK124.out hb)
      have n13_ := Aside0.mk (blk_below BK131.out hb)
      have n14_ := Aside0.mk (below_step (by exact HB.out) hb)
      clear HO107
      clear HO110
      clear HO113
      clear HO116
      clear HO120
      clear HO123
      clear HO127
      clear HO130
      clear HO135
      clear HO138
      clear BK101
      clear BK102
      clear BK124
      clear BK131
      clear HB
      have HO107 := n0_
      have HO110 := n1_
      have HO113 := n2_
      have HO116 := n3_
      have HO120 := n4_
      have HO123 := n5_
      have HO127 := n6_
      have HO130 := n7_
      have HO135 := n8_
      have HO138 := n9_
      have BK101 := n10_
      have BK102 := n11_
      have BK124 := n12_
      have BK131 := n13_
      have HB := n14_
      clear n0_ n1_ n2_ n3_ n4_ n5_ n6_ n7_ n8_ n9_ n10_ n11_ n12_ n13_ n14_
      (try clear hb)
      (try clear hb2)
      (try clear hk)
      (try clear hi)
      refine hK.out _ _ ⟨(blk_cell BK124.out 0).trans rfl, (blk_cell BK124.out 1).trans rfl, (blk_cell BK101.out 0).trans rfl, (blk_cell BK101.out 1).trans rfl⟩ (fun hHeld => ?_)
      clear hK K
      refine norm_ (a' := ?_) ?_ ?_
      rotate_left
      ·show Act.put _ (some 38) _ = _
       simp only [Act.put, List.setIfInBounds_toArray, List.set_cons_zero, List.set_cons_succ, i64_w, i32_w]
       rfl
      refine pure_ (i := 4) (N := some 39) (v := ?_) (a' := ?_) #[true, true, true, true, true] rfl rfl (by kernel_rfl) (fun _ _ _ h => h) (Or.inl ⟨by rfl, ?_⟩) ?_ ?_
      rotate_left
      ·intro w'
       go_simp
       with_reducible rfl
      rotate_left
      ·simp only [Act.put, List.setIfInBounds_toArray, List.set_cons_zero, List.set_cons_succ, i64_w, i32_w]
       rfl
      refine done_ (by kernel_rfl) ?_
      try go_wp2
      have n0_ := Aside0.mk (Kd.S_drew HO107.out)
      have n1_ := Aside0.mk (Kd.S_drew HO110.out)
      have n2_ := Aside0.mk (Kd.S_drew HO113.out)
      have n3_ := Aside0.mk (Kd.S_drew HO116.out)
      have n4_ := Aside0.mk (Kd.S_drew HO120.out)
      have n5_ := Aside0.mk (Kd.S_drew HO123.out)
      have n6_ := Aside0.mk (Kd.S_drew HO127.out)
      have n7_ := Aside0.mk (Kd.S_drew HO130.out)
      have n8_ := Aside0.mk (Kd.S_drew HO135.out)
      have n9_ := Aside0.mk (Kd.S_drew HO138.out)
      have n10_ := Aside0.mk (blk_drew BK101.out)
      have n11_ := Aside0.mk (blk_drew BK102.out)
      have n12_ := Aside0.mk (blk_drew BK124.out)
      have n13_ := Aside0.mk (blk_drew BK131.out)
      have n14_ := Aside0.mk (below_drew1 HB.out)
      clear HO107
      clear HO110
      clear HO113
      clear HO116
      clear HO120
      clear HO123
      clear HO127
      clear HO130
      clear HO135
      clear HO138
      clear BK101
      clear BK102
      clear BK124
      clear BK131
      clear HB
      have HO107 := n0_
      have HO110 := n1_
      have HO113 := n2_
      have HO116 := n3_
      have HO120 := n4_
      have HO123 := n5_
      have HO127 := n6_
      have HO130 := n7_
      have HO135 := n8_
      have HO138 := n9_
      have BK101 := n10_
      have BK102 := n11_
      have BK124 := n12_
      have BK131 := n13_
      have HB := n14_
      clear n0_ n1_ n2_ n3_ n4_ n5_ n6_ n7_ n8_ n9_ n10_ n11_ n12_ n13_ n14_
      refine start_ (n := 5) (S := fun w' => w'.cell? ⟨gb131, 0, none⟩ = some (.slice Ao136 t125.length co136) ∧ w'.cell? ⟨gb131, 1, none⟩ = some (.slice Ao141 t128.length co141) ∧ w'.cell? ⟨gb102, 0, none⟩ = some (.slice A1_0 l1_0.length c1_0) ∧ w'.cell? ⟨gb102, 1, none⟩ = some (.slice A1_1 l1_1.length c1_1)) (ds := []) #[false, false, false, false, false] (by kernel_rfl) rfl rfl ⟨(blk_cell BK131.out 0).trans rfl, (blk_cell BK131.out 1).trans rfl, (blk_cell BK102.out 0).trans rfl, (blk_cell BK102.out 1).trans rfl⟩ (fun hHeld => ?_)
      generalize w148.drew = w149 at HO107 HO110 HO113 HO116 HO120 HO123 HO127 HO130 HO135 HO138 BK101 BK102 BK124 BK131 HB hHeld ⊢
      refine take_ (i := 0) (N := some 40) (v := ?_) (a' := ?_) #[true, false, false, false, false] rfl rfl (by kernel_rfl) (fun _ _ _ h => h) (Or.inl ⟨by rfl, ?_⟩) hHeld ?_ ?_
      rotate_left
      ·rintro w' ⟨s0, s1, s2, s3⟩
       go_simp
       with_reducible rfl
      rotate_left
      ·simp only [Act.put, List.setIfInBounds_toArray, List.set_cons_zero, List.set_cons_succ, i64_w, i32_w]
       rfl
      refine take_ (i := 1) (N := some 41) (v := ?_) (a' := ?_) #[true, true, false, false, false] rfl rfl (by kernel_rfl) (fun _ _ _ h => h) (Or.inl ⟨by rfl, ?_⟩) hHeld ?_ ?_
      rotate_left
      ·rintro w' ⟨s0, s1, s2, s3⟩
       go_simp
       with_reducible rfl
      rotate_left
      ·simp only [Act.put, List.setIfInBounds_toArray, List.set_cons_zero, List.set_cons_succ, i64_w, i32_w]
       rfl
      refine one_ (i := 2) (N := some 42) #[true, true, true, false, false] rfl rfl (by kernel_rfl) (by decide) (fun K hK => ?_)
      refine goes_ Try.func37 (by kernel_rfl) rfl #[.agg #[.slice A1_0 l1_0.length c1_0, .slice A1_1 l1_1.length c1_1]] (by rfl) rfl rfl (by (try simp only [List.map_toArray, List.map_cons, List.map_nil]);first | done | rfl | (simp only [List.length_drop, List.length_take];rfl)) ?_
      with_reducible refine (laws_toSpan.calls k _ _ l1_0 _ _ l1_1 t140 t143 _ ?side1 ?side2 ?side3 ?side4 A63.out).mono ?_
      (case side1 => repeat (first | exact (Kd.C_below HR1_0.out HB.out) | (with_reducible refine Kd.C_alloc ?_ _) | (with_reducible refine Kd.C_drewN ?_ _) | (with_reducible refine Kd.C_drew ?_)))
      (case side2 => exact HC1_0.out)
      (case side3 => repeat (first | exact (Kd.C_below HR1_1.out HB.out) | (with_reducible refine Kd.C_alloc ?_ _) | (with_reducible refine Kd.C_drewN ?_ _) | (with_reducible refine Kd.C_drew ?_)))
      (case side4 => exact HC1_1.out)
      rintro e w150 ⟨v141, v144, rfl, ho0, ho1, hb⟩
      refine ⟨_, rfl, ?_⟩
      have n0_ := Aside0.mk (Kd.S_mono (Kd.S_told (Kd.S_told (Kd.S_old (by exact HO107.out) hb) (Kd.S_base ho0)) (Kd.S_base ho1)) (fun _ h_ => h_.1))
      have n1_ := Aside0.mk (Kd.S_mono (Kd.S_told (Kd.S_told (Kd.S_old (by exact HO110.out) hb) (Kd.S_base ho0)) (Kd.S_base ho1)) (fun _ h_ => h_.1))
      have n2_ := Aside0.mk (Kd.S_mono (Kd.S_told (Kd.S_told (Kd.S_old (by exact HO113.out) hb) (Kd.S_base ho0)) (Kd.S_base ho1)) (fun _ h_ => h_.1))
      have n3_ := Aside0.mk (Kd.S_mono (Kd.S_told (Kd.S_told (Kd.S_old (by exact HO116.out) hb) (Kd.S_base ho0)) (Kd.S_base ho1)) (fun _ h_ => h_.1))
      have n4_ := Aside0.mk (Kd.S_mono (Kd.S_told (Kd.S_told (Kd.S_old (by exact HO120.out) hb) (Kd.S_base ho0)) (Kd.S_base ho1)) (fun _ h_ => h_.1))
      have n5_ := Aside0.mk (Kd.S_mono (Kd.S_told (Kd.S_told (Kd.S_old (by exact HO123.out) hb) (Kd.S_base ho0)) (Kd.S_base ho1)) (fun _ h_ => h_.1))
      have n6_ := Aside0.mk (Kd.S_mono (Kd.S_told (Kd.S_told (Kd.S_old (by exact HO127.out) hb) (Kd.S_base ho0)) (Kd.S_base ho1)) (fun _ h_ => h_.1))
      have n7_ := Aside0.mk (Kd.S_mono (Kd.S_told (Kd.S_told (Kd.S_old (by exact HO130.out) hb) (Kd.S_base ho0)) (Kd.S_base ho1)) (fun _ h_ => h_.1))
      have n8_ := Aside0.mk (Kd.S_mono (Kd.S_told (Kd.S_told (Kd.S_old (by exact HO135.out) hb) (Kd.S_base ho0)) (Kd.S_base ho1)) (fun _ h_ => h_.1))
      have n9_ := Aside0.mk (Kd.S_mono (Kd.S_told (Kd.S_told (Kd.S_old (by exact HO138.out) hb) (Kd.S_base ho0)) (Kd.S_base ho1)) (fun _ h_ => h_.1))
      have n10_ := Aside0.mk (Kd.S_lower (Kd.S_new' (Kd.S_new' (Kd.S_new' (Kd.S_new' (Kd.S_new' (Kd.S_new' (Kd.S_new' (Kd.S_new' (Kd.S_new' (Kd.S_new' ho0 (Kd.S_lt (by exact HO107.out))) (Kd.S_lt (by exact HO110.out))) (Kd.S_lt (by exact HO113.out))) (Kd.S_lt (by exact HO116.out))) (Kd.S_lt (by exact HO120.out))) (Kd.S_lt (by exact HO123.out))) (Kd.S_lt (by exact HO127.out))) (Kd.S_lt (by exact HO130.out))) (Kd.S_lt (by exact HO135.out))) (Kd.S_lt (by exact HO138.out))) (below_size (by exact HB.out)))
      have n11_ := Aside0.mk (Kd.S_lower (Kd.S_new' (Kd.S_new' (Kd.S_new' (Kd.S_new' (Kd.S_new' (Kd.S_new' (Kd.S_new' (Kd.S_new' (Kd.S_new' (Kd.S_new' ho1 (Kd.S_lt (by exact HO107.out))) (Kd.S_lt (by exact HO110.out))) (Kd.S_lt (by exact HO113.out))) (Kd.S_lt (by exact HO116.out))) (Kd.S_lt (by exact HO120.out))) (Kd.S_lt (by exact HO123.out))) (Kd.S_lt (by exact HO127.out))) (Kd.S_lt (by exact HO130.out))) (Kd.S_lt (by exact HO135.out))) (Kd.S_lt (by exact HO138.out))) (below_size (by exact HB.out)))
      have n12_ := Aside0.mk (blk_below BK101.out hb)
      have n13_ := Aside0.mk (blk_below BK102.out hb)
      have n14_ := Aside0.mk (blk_below BK124.out hb)
      have n15_ := Aside0.mk (blk_below BK131.out hb)
      have n16_ := Aside0.mk (below_step (by exact HB.out) hb)
      clear HO107
      clear HO110
      clear HO113
      clear HO116
      clear HO120
      clear HO123
      clear HO127
      clear HO130
      clear HO135
      clear HO138
      clear BK101
      clear BK102
      clear BK124
      clear BK131
      clear HB
      have HO107 := n0_
      have HO110 := n1_
      have HO113 := n2_
      have HO116 := n3_
      have HO120 := n4_
      have HO123 := n5_
      have HO127 := n6_
      have HO130 := n7_
      have HO135 := n8_
      have HO138 := n9_
      have HO142 := n10_
      have HO145 := n11_
      have BK101 := n12_
      have BK102 := n13_
      have BK124 := n14_
      have BK131 := n15_
      have HB := n16_
      clear n0_ n1_ n2_ n3_ n4_ n5_ n6_ n7_ n8_ n9_ n10_ n11_ n12_ n13_ n14_ n15_ n16_
      (try clear hb)
      (try clear hb2)
      (try clear hk)
      (try clear hi)
      (try clear ho0)
      (try clear ho1)
      obtain ⟨Ao151, co151, eo151⟩ := Kd.S_slice HO142.out
      (first | subst eo151 | (injection eo151 with f1_ f2_ f3_;have f4_ := f1_.symm;have f5_ := f3_.symm;clear f1_ f2_ f3_;subst f4_;subst f5_))
      obtain ⟨Ao152, co152, eo152⟩ := Kd.S_slice HO145.out
      (first | subst eo152 | (injection eo152 with f1_ f2_ f3_;have f4_ := f1_.symm;have f5_ := f3_.symm;clear f1_ f2_ f3_;subst f4_;subst f5_))
      refine hK.out _ _ ⟨(blk_cell BK131.out 0).trans rfl, (blk_cell BK131.out 1).trans rfl, (blk_cell BK102.out 0).trans rfl, (blk_cell BK102.out 1).trans rfl⟩ (fun hHeld => ?_)
      clear hK K
      refine norm_ (a' := ?_) ?_ ?_
      rotate_left
      ·show Act.put _ (some 42) _ = _
       simp only [Act.put, List.setIfInBounds_toArray, List.set_cons_zero, List.set_cons_succ, i64_w, i32_w]
       rfl
      refine one_ (i := 3) (N := some 43) #[true, true, true, true, false] rfl rfl (by kernel_rfl) (by decide) (fun K hK => ?_)
      refine goes_ Try.func39 (by kernel_rfl) rfl #[.agg #[.slice Ao136 t125.length co136, .slice Ao141 t128.length co141], .agg #[.slice Ao151 t140.length co151, .slice Ao152 t143.length co152]] (by rfl) rfl rfl (by (try simp only [List.map_toArray, List.map_cons, List.map_nil]);first | done | rfl | (simp only [List.length_drop, List.length_take];rfl)) ?_
      with_reducible refine (laws_eqSpan.calls k _ _ t125 _ _ t128 _ _ t140 _ _ t143 false _ ?side1 ?side2 ?side3 ?side4 ?side5 ?side6 ?side7 ?side8 A64.out).mono ?_
      (case side1 => repeat (first | exact (Kd.S_reads' HO127.out).2.2 | (with_reducible refine Kd.C_alloc ?_ _) | (with_reducible refine Kd.C_drewN ?_ _) | (with_reducible refine Kd.C_drew ?_)))
      (case side2 => exact (Kd.S_reads' HO127.out).2.1)
      (case side3 => repeat (first | exact (Kd.S_reads' HO130.out).2.2 | (with_reducible refine Kd.C_alloc ?_ _) | (with_reducible refine Kd.C_drewN ?_ _) | (with_reducible refine Kd.C_drew ?_)))
      (case side4 => exact (Kd.S_reads' HO130.out).2.1)
      (case side5 => repeat (first | exact (Kd.S_reads' HO142.out).2.2 | (with_reducible refine Kd.C_alloc ?_ _) | (with_reducible refine Kd.C_drewN ?_ _) | (with_reducible refine Kd.C_drew ?_)))
      (case side6 => exact (Kd.S_reads' HO142.out).2.1)
      (case side7 => repeat (first | exact (Kd.S_reads' HO145.out).2.2 | (with_reducible refine Kd.C_alloc ?_ _) | (with_reducible refine Kd.C_drewN ?_ _) | (with_reducible refine Kd.C_drew ?_)))
      (case side8 => exact (Kd.S_reads' HO145.out).2.1)
      rintro e w153 ⟨rfl, hb⟩
      refine ⟨_, rfl, ?_⟩
      have n0_ := Aside0.mk (Kd.S_below (by exact HO107.out) hb)
      have n1_ := Aside0.mk (Kd.S_below (by exact HO110.out) hb)
      have n2_ := Aside0.mk (Kd.S_below (by exact HO113.out) hb)
      have n3_ := Aside0.mk (Kd.S_below (by exact HO116.out) hb)
      have n4_ := Aside0.mk (Kd.S_below (by exact HO120.out) hb)
      have n5_ := Aside0.mk (Kd.S_below (by exact HO123.out) hb)
      have n6_ := Aside0.mk (Kd.S_below (by exact HO127.out) hb)
      have n7_ := Aside0.mk (Kd.S_below (by exact HO130.out) hb)
      have n8_ := Aside0.mk (Kd.S_below (by exact HO135.out) hb)
      have n9_ := Aside0.mk (Kd.S_below (by exact HO138.out) hb)
      have n10_ := Aside0.mk (Kd.S_below (by exact HO142.out) hb)
      have n11_ := Aside0.mk (Kd.S_below (by exact HO145.out) hb)
      have n12_ := Aside0.mk (blk_below BK101.out hb)
      have n13_ := Aside0.mk (blk_below BK102.out hb)
      have n14_ := Aside0.mk (blk_below BK124.out hb)
      have n15_ := Aside0.mk (blk_below BK131.out hb)
      have n16_ := Aside0.mk (below_step (by exact HB.out) hb)
      clear HO107
      clear HO110
      clear HO113
      clear HO116
      clear HO120
      clear HO123
      clear HO127
      clear HO130
      clear HO135
      clear HO138
      clear HO142
      clear HO145
      clear BK101
      clear BK102
      clear BK124
      clear BK131
      clear HB
      have HO107 := n0_
      have HO110 := n1_
      have HO113 := n2_
      have HO116 := n3_
      have HO120 := n4_
      have HO123 := n5_
      have HO127 := n6_
      have HO130 := n7_
      have HO135 := n8_
      have HO138 := n9_
      have HO142 := n10_
      have HO145 := n11_
      have BK101 := n12_
      have BK102 := n13_
      have BK124 := n14_
      have BK131 := n15_
      have HB := n16_
      clear n0_ n1_ n2_ n3_ n4_ n5_ n6_ n7_ n8_ n9_ n10_ n11_ n12_ n13_ n14_ n15_ n16_
      (try clear hb)
      (try clear hb2)
      (try clear hk)
      (try clear hi)
      refine hK.out _ _ ⟨(blk_cell BK131.out 0).trans rfl, (blk_cell BK131.out 1).trans rfl, (blk_cell BK102.out 0).trans rfl, (blk_cell BK102.out 1).trans rfl⟩ (fun hHeld => ?_)
      clear hK K
      refine norm_ (a' := ?_) ?_ ?_
      rotate_left
      ·show Act.put _ (some 43) _ = _
       simp only [Act.put, List.setIfInBounds_toArray, List.set_cons_zero, List.set_cons_succ, i64_w, i32_w]
       rfl
      refine pure_ (i := 4) (N := some 44) (v := ?_) (a' := ?_) #[true, true, true, true, true] rfl rfl (by kernel_rfl) (fun _ _ _ h => h) (Or.inl ⟨by rfl, ?_⟩) ?_ ?_
      rotate_left
      ·intro w'
       go_simp
       with_reducible rfl
      rotate_left
      ·simp only [Act.put, List.setIfInBounds_toArray, List.set_cons_zero, List.set_cons_succ, i64_w, i32_w]
       rfl
      refine done_ (by kernel_rfl) ?_
      try go_wp2
      go_ret
      exact ⟨by first | rfl | (simp [errW_none, errW_some] <;> rfl) | (simp [*, errW_none, errW_some] <;> rfl), by repeat (first | (with_reducible first | exact HB.out | apply below_alloc | apply pw_below_drewN | apply below_drew1 | refine below_set ?_ GE101.out | refine below_set ?_ GE102.out | refine below_set ?_ GE124.out | refine below_set ?_ GE131.out) | exact HB.out)⟩
    ·replace c62 := Bool.eq_false_iff.mpr c62
     subst c62
     have H1 : (some false) = some r := by rw [if_neg (show ¬ (false = true) by decide)] at H;exact H
     clear H
     have H := H1
     clear H1
     obtain rfl := Option.some.inj H
     go_enter Try.func7, Try.ntmps7
     try go_wp2_with (first | ((with_reducible refine gate_dst (N := 2) rfl ?_);refine box_event ?hg (N := 2) ?hd (cs := #[.slice A0_0 l0_0.length c0_0, .slice A0_1 l0_1.length c0_1]) (t := 48) ?hr ?_;(case hd => rfl);(case hg => rfl);(case hr => first | (go_simp;done) | (go_simp;rfl));intro gb101 hg w154 hbox hb;have n0_ := Aside0.mk (below_step (by exact HB.out) hb);have n1_ := Aside0.mk (hbox);have n2_ := Aside0.mk ((by rw [hg];exact (below_size (by exact HB.out)) : w.heap.size ≤ gb101));have n3_ := Aside0.mk ((by rw [hg];exact (below_size (by exact HB.out)) : w.heap.size ≤ gb101));clear HB;have HB := n0_;have BK101 := n1_;have GW101 := n2_;have GE101 := n3_;clear n0_ n1_ n2_ n3_;clear hb hbox hg) | ((with_reducible refine gate_dst (N := 3) rfl ?_);refine box_event ?hg (N := 3) ?hd (cs := #[.slice A1_0 l1_0.length c1_0, .slice A1_1 l1_1.length c1_1]) (t := 48) ?hr ?_;(case hd => rfl);(case hg => rfl);(case hr => first | (go_simp;done) | (go_simp;rfl));intro gb102 hg w155 hbox hb;have n0_ := Aside0.mk (blk_below BK101.out hb);have n1_ := Aside0.mk (below_step (by exact HB.out) hb);have n2_ := Aside0.mk (hbox);have n3_ := Aside0.mk ((by rw [hg];exact (below_size (by exact HB.out)) : w.heap.size ≤ gb102));have n4_ := Aside0.mk ((by rw [hg];exact (below_size (by exact HB.out)) : w.heap.size ≤ gb102));have n5_ := Aside0.mk ((by rw [hg];exact Nat.ne_of_lt (blk_lt BK101.out) : gb101 ≠ gb102));have n6_ := Aside0.mk ((by rw [hg];exact Nat.ne_of_gt (blk_lt BK101.out) : gb102 ≠ gb101));clear BK101;clear HB;have BK101 := n0_;have HB := n1_;have BK102 := n2_;have GW102 := n3_;have GE102 := n4_;have NB101_102 := n5_;have NB102_101 := n6_;clear n0_ n1_ n2_ n3_ n4_ n5_ n6_;clear hb hbox hg;have hnb156 := NB101_102.out;have hnc156 := NB102_101.out;have hcz157_0 : w155.cell? ⟨gb101, 0, none⟩ = some (.slice A0_0 l0_0.length c0_0) := (blk_cell BK101.out 0).trans rfl;have hcz157_1 : w155.cell? ⟨gb101, 1, none⟩ = some (.slice A0_1 l0_1.length c0_1) := (blk_cell BK101.out 1).trans rfl;have hfz157_0 := blk_frozen BK101.out 0;have hfz157_1 := blk_frozen BK101.out 1) | ((with_reducible refine gate_callee (f := 35) rfl ?_);refine goesL_ (some 12) rfl rfl Try.func35 (by kernel_rfl) rfl #[.agg #[.slice A0_0 l0_0.length c0_0, .slice A0_1 l0_1.length c0_1], .int .i64 1048576] rfl (by (try simp only [List.map_toArray, List.map_cons, List.map_nil]);first | done | rfl | (simp only [List.length_drop, List.length_take];rfl)) ?_;(with_reducible refine (laws_szSpan.calls k _ _ l0_0 _ _ l0_1 1048576 t103 _ ?side1 ?side2 ?side3 ?side4 A3.out).mono ?_);(case side1 => repeat (first | exact (Kd.C_below HR0_0.out HB.out) | (with_reducible refine Kd.C_alloc ?_ _) | (with_reducible refine Kd.C_drewN ?_ _) | (with_reducible refine Kd.C_drew ?_)));(case side2 => exact HC0_0.out);(case side3 => repeat (first | exact (Kd.C_below HR0_1.out HB.out) | (with_reducible refine Kd.C_alloc ?_ _) | (with_reducible refine Kd.C_drewN ?_ _) | (with_reducible refine Kd.C_drew ?_)));(case side4 => exact HC0_1.out);rintro e w158 ⟨rfl, hb⟩;refine ⟨_, rfl, ?_⟩;have n0_ := Aside0.mk (blk_below BK101.out hb);have n1_ := Aside0.mk (blk_below BK102.out hb);have n2_ := Aside0.mk (below_step (by exact HB.out) hb);clear BK101;clear BK102;clear HB;have BK101 := n0_;have BK102 := n1_;have HB := n2_;clear n0_ n1_ n2_;(try clear hb);(try clear hb2);(try clear hk);(try clear hi);have hcz159_0 : w158.cell? ⟨gb102, 0, none⟩ = some (.slice A1_0 l1_0.length c1_0) := (blk_cell BK102.out 0).trans rfl;have hcz159_1 : w158.cell? ⟨gb102, 1, none⟩ = some (.slice A1_1 l1_1.length c1_1) := (blk_cell BK102.out 1).trans rfl;have hfz159_0 := blk_frozen BK102.out 0;have hfz159_1 := blk_frozen BK102.out 1) | ((with_reducible refine gate_callee (f := 35) rfl ?_);refine goesL_ (some 17) rfl rfl Try.func35 (by kernel_rfl) rfl #[.agg #[.slice A1_0 l1_0.length c1_0, .slice A1_1 l1_1.length c1_1], .int .i64 t103] rfl (by (try simp only [List.map_toArray, List.map_cons, List.map_nil]);first | done | rfl | (simp only [List.length_drop, List.length_take];rfl)) ?_;(with_reducible refine (laws_szSpan.calls k _ _ l1_0 _ _ l1_1 t103 t104 _ ?side1 ?side2 ?side3 ?side4 A10.out).mono ?_);(case side1 => repeat (first | exact (Kd.C_below HR1_0.out HB.out) | (with_reducible refine Kd.C_alloc ?_ _) | (with_reducible refine Kd.C_drewN ?_ _) | (with_reducible refine Kd.C_drew ?_)));(case side2 => exact HC1_0.out);(case side3 => repeat (first | exact (Kd.C_below HR1_1.out HB.out) | (with_reducible refine Kd.C_alloc ?_ _) | (with_reducible refine Kd.C_drewN ?_ _) | (with_reducible refine Kd.C_drew ?_)));(case side4 => exact HC1_1.out);rintro e w160 ⟨rfl, hb⟩;refine ⟨_, rfl, ?_⟩;have n0_ := Aside0.mk (blk_below BK101.out hb);have n1_ := Aside0.mk (blk_below BK102.out hb);have n2_ := Aside0.mk (below_step (by exact HB.out) hb);clear BK101;clear BK102;clear HB;have BK101 := n0_;have BK102 := n1_;have HB := n2_;clear n0_ n1_ n2_;(try clear hb);(try clear hb2);(try clear hk);(try clear hi)))
     have n0_ := Aside0.mk (blk_drew BK101.out)
     have n1_ := Aside0.mk (blk_drew BK102.out)
     have n2_ := Aside0.mk (below_drew1 HB.out)
     clear BK101
     clear BK102
     clear HB
     have BK101 := n0_
     have BK102 := n1_
     have HB := n2_
     clear n0_ n1_ n2_
     refine start_ (n := 6) (S := fun w' => w'.cell? ⟨gb101, 0, none⟩ = some (.slice A0_0 l0_0.length c0_0) ∧ w'.cell? ⟨gb101, 1, none⟩ = some (.slice A0_1 l0_1.length c0_1) ∧ w'.cell? ⟨gb102, 0, none⟩ = some (.slice A1_0 l1_0.length c1_0) ∧ w'.cell? ⟨gb102, 1, none⟩ = some (.slice A1_1 l1_1.length c1_1)) (ds := []) #[false, false, false, false, false, false] (by kernel_rfl) rfl rfl ⟨(blk_cell BK101.out 0).trans rfl, (blk_cell BK101.out 1).trans rfl, (blk_cell BK102.out 0).trans rfl, (blk_cell BK102.out 1).trans rfl⟩ (fun hHeld => ?_)
     generalize w160.drew = w161 at BK101 BK102 HB hHeld ⊢
     refine take_ (i := 0) (N := some 20) (v := ?_) (a' := ?_) #[true, false, false, false, false, false] rfl rfl (by kernel_rfl) (fun _ _ _ h => h) (Or.inl ⟨by rfl, ?_⟩) hHeld ?_ ?_
     rotate_left
     ·rintro w' ⟨s0, s1, s2, s3⟩
      go_simp
      with_reducible rfl
     rotate_left
     ·simp only [Act.put, List.setIfInBounds_toArray, List.set_cons_zero, List.set_cons_succ, i64_w, i32_w]
      rfl
     refine take_ (i := 2) (N := some 22) (v := ?_) (a' := ?_) #[true, false, true, false, false, false] rfl rfl (by kernel_rfl) (fun _ _ _ h => h) (Or.inl ⟨by rfl, ?_⟩) hHeld ?_ ?_
     rotate_left
     ·rintro w' ⟨s0, s1, s2, s3⟩
      go_simp
      with_reducible rfl
     rotate_left
     ·simp only [Act.put, List.setIfInBounds_toArray, List.set_cons_zero, List.set_cons_succ, i64_w, i32_w]
      rfl
     refine one_ (i := 1) (N := some 21) #[true, true, true, false, false, false] rfl rfl (by kernel_rfl) (by decide) (fun K hK => ?_)
     refine goes_ Try.func37 (by kernel_rfl) rfl #[.agg #[.slice A0_0 l0_0.length c0_0, .slice A0_1 l0_1.length c0_1]] (by rfl) rfl rfl (by (try simp only [List.map_toArray, List.map_cons, List.map_nil]);first | done | rfl | (simp only [List.length_drop, List.length_take];rfl)) ?_
     with_reducible refine (laws_toSpan.calls k _ _ l0_0 _ _ l0_1 t105 t108 _ ?side1 ?side2 ?side3 ?side4 A19.out).mono ?_
     (case side1 => repeat (first | exact (Kd.C_below HR0_0.out HB.out) | (with_reducible refine Kd.C_alloc ?_ _) | (with_reducible refine Kd.C_drewN ?_ _) | (with_reducible refine Kd.C_drew ?_)))
     (case side2 => exact HC0_0.out)
     (case side3 => repeat (first | exact (Kd.C_below HR0_1.out HB.out) | (with_reducible refine Kd.C_alloc ?_ _) | (with_reducible refine Kd.C_drewN ?_ _) | (with_reducible refine Kd.C_drew ?_)))
     (case side4 => exact HC0_1.out)
     rintro e w162 ⟨v106, v109, rfl, ho0, ho1, hb⟩
     refine ⟨_, rfl, ?_⟩
     have n0_ := Aside0.mk (Kd.S_lower ho0 (below_size (by exact HB.out)))
     have n1_ := Aside0.mk (Kd.S_lower ho1 (below_size (by exact HB.out)))
     have n2_ := Aside0.mk (blk_below BK101.out hb)
     have n3_ := Aside0.mk (blk_below BK102.out hb)
     have n4_ := Aside0.mk (below_step (by exact HB.out) hb)
     clear BK101
     clear BK102
     clear HB
     have HO107 := n0_
     have HO110 := n1_
     have BK101 := n2_
     have BK102 := n3_
     have HB := n4_
     clear n0_ n1_ n2_ n3_ n4_
     (try clear hb)
     (try clear hb2)
     (try clear hk)
     (try clear hi)
     (try clear ho0)
     (try clear ho1)
     refine hK.out _ _ ⟨(blk_cell BK101.out 0).trans rfl, (blk_cell BK101.out 1).trans rfl, (blk_cell BK102.out 0).trans rfl, (blk_cell BK102.out 1).trans rfl⟩ (fun hHeld => ?_)
     clear hK K
     refine norm_ (a' := ?_) ?_ ?_
     rotate_left
     ·show Act.put _ (some 21) _ = _
      simp only [Act.put, List.setIfInBounds_toArray, List.set_cons_zero, List.set_cons_succ, i64_w, i32_w]
      rfl
     refine one_ (i := 3) (N := some 23) #[true, true, true, true, false, false] rfl rfl (by kernel_rfl) (by decide) (fun K hK => ?_)
     refine goes_ Try.func37 (by kernel_rfl) rfl #[.agg #[.slice A1_0 l1_0.length c1_0, .slice A1_1 l1_1.length c1_1]] (by rfl) rfl rfl (by (try simp only [List.map_toArray, List.map_cons, List.map_nil]);first | done | rfl | (simp only [List.length_drop, List.length_take];rfl)) ?_
     with_reducible refine (laws_toSpan.calls k _ _ l1_0 _ _ l1_1 t111 t114 _ ?side1 ?side2 ?side3 ?side4 A20.out).mono ?_
     (case side1 => repeat (first | exact (Kd.C_below HR1_0.out HB.out) | (with_reducible refine Kd.C_alloc ?_ _) | (with_reducible refine Kd.C_drewN ?_ _) | (with_reducible refine Kd.C_drew ?_)))
     (case side2 => exact HC1_0.out)
     (case side3 => repeat (first | exact (Kd.C_below HR1_1.out HB.out) | (with_reducible refine Kd.C_alloc ?_ _) | (with_reducible refine Kd.C_drewN ?_ _) | (with_reducible refine Kd.C_drew ?_)))
     (case side4 => exact HC1_1.out)
     rintro e w163 ⟨v112, v115, rfl, ho0, ho1, hb⟩
     refine ⟨_, rfl, ?_⟩
     have n0_ := Aside0.mk (Kd.S_mono (Kd.S_told (Kd.S_told (Kd.S_old (by exact HO107.out) hb) (Kd.S_base ho0)) (Kd.S_base ho1)) (fun _ h_ => h_.1))
     have n1_ := Aside0.mk (Kd.S_mono (Kd.S_told (Kd.S_told (Kd.S_old (by exact HO110.out) hb) (Kd.S_base ho0)) (Kd.S_base ho1)) (fun _ h_ => h_.1))
     have n2_ := Aside0.mk (Kd.S_lower (Kd.S_new' (Kd.S_new' ho0 (Kd.S_lt (by exact HO107.out))) (Kd.S_lt (by exact HO110.out))) (below_size (by exact HB.out)))
     have n3_ := Aside0.mk (Kd.S_lower (Kd.S_new' (Kd.S_new' ho1 (Kd.S_lt (by exact HO107.out))) (Kd.S_lt (by exact HO110.out))) (below_size (by exact HB.out)))
     have n4_ := Aside0.mk (blk_below BK101.out hb)
     have n5_ := Aside0.mk (blk_below BK102.out hb)
     have n6_ := Aside0.mk (below_step (by exact HB.out) hb)
     clear HO107
     clear HO110
     clear BK101
     clear BK102
     clear HB
     have HO107 := n0_
     have HO110 := n1_
     have HO113 := n2_
     have HO116 := n3_
     have BK101 := n4_
     have BK102 := n5_
     have HB := n6_
     clear n0_ n1_ n2_ n3_ n4_ n5_ n6_
     (try clear hb)
     (try clear hb2)
     (try clear hk)
     (try clear hi)
     (try clear ho0)
     (try clear ho1)
     obtain ⟨Ao164, co164, eo164⟩ := Kd.S_slice HO107.out
     (first | subst eo164 | (injection eo164 with f1_ f2_ f3_;have f4_ := f1_.symm;have f5_ := f3_.symm;clear f1_ f2_ f3_;subst f4_;subst f5_))
     obtain ⟨Ao165, co165, eo165⟩ := Kd.S_slice HO110.out
     (first | subst eo165 | (injection eo165 with f1_ f2_ f3_;have f4_ := f1_.symm;have f5_ := f3_.symm;clear f1_ f2_ f3_;subst f4_;subst f5_))
     obtain ⟨Ao166, co166, eo166⟩ := Kd.S_slice HO113.out
     (first | subst eo166 | (injection eo166 with f1_ f2_ f3_;have f4_ := f1_.symm;have f5_ := f3_.symm;clear f1_ f2_ f3_;subst f4_;subst f5_))
     obtain ⟨Ao167, co167, eo167⟩ := Kd.S_slice HO116.out
     (first | subst eo167 | (injection eo167 with f1_ f2_ f3_;have f4_ := f1_.symm;have f5_ := f3_.symm;clear f1_ f2_ f3_;subst f4_;subst f5_))
     refine hK.out _ _ ⟨(blk_cell BK101.out 0).trans rfl, (blk_cell BK101.out 1).trans rfl, (blk_cell BK102.out 0).trans rfl, (blk_cell BK102.out 1).trans rfl⟩ (fun hHeld => ?_)
     clear hK K
     refine norm_ (a' := ?_) ?_ ?_
     rotate_left
     ·show Act.put _ (some 23) _ = _
      simp only [Act.put, List.setIfInBounds_toArray, List.set_cons_zero, List.set_cons_succ, i64_w, i32_w]
      rfl
     refine one_ (i := 4) (N := some 24) #[true, true, true, true, true, false] rfl rfl (by kernel_rfl) (by decide) (fun K hK => ?_)
     refine goes_ Try.func36 (by kernel_rfl) rfl #[.agg #[.slice Ao164 t105.length co164, .slice Ao165 t108.length co165], .agg #[.slice Ao166 t111.length co166, .slice Ao167 t114.length co167]] (by rfl) rfl rfl (by (try simp only [List.map_toArray, List.map_cons, List.map_nil]);first | done | rfl | (simp only [List.length_drop, List.length_take];rfl)) ?_
     with_reducible refine (spec_SpanSame.calls k _ _ t105 _ _ t108 _ _ t111 _ _ t114 t117 _ ?side1 ?side2 ?side3 ?side4 ?side5 ?side6 ?side7 ?side8 A21.out).mono ?_
     (case side1 => repeat (first | exact (Kd.S_reads' HO107.out).2.2 | (with_reducible refine Kd.C_alloc ?_ _) | (with_reducible refine Kd.C_drewN ?_ _) | (with_reducible refine Kd.C_drew ?_)))
     (case side2 => exact (Kd.S_reads' HO107.out).2.1)
     (case side3 => repeat (first | exact (Kd.S_reads' HO110.out).2.2 | (with_reducible refine Kd.C_alloc ?_ _) | (with_reducible refine Kd.C_drewN ?_ _) | (with_reducible refine Kd.C_drew ?_)))
     (case side4 => exact (Kd.S_reads' HO110.out).2.1)
     (case side5 => repeat (first | exact (Kd.S_reads' HO113.out).2.2 | (with_reducible refine Kd.C_alloc ?_ _) | (with_reducible refine Kd.C_drewN ?_ _) | (with_reducible refine Kd.C_drew ?_)))
     (case side6 => exact (Kd.S_reads' HO113.out).2.1)
     (case side7 => repeat (first | exact (Kd.S_reads' HO116.out).2.2 | (with_reducible refine Kd.C_alloc ?_ _) | (with_reducible refine Kd.C_drewN ?_ _) | (with_reducible refine Kd.C_drew ?_)))
     (case side8 => exact (Kd.S_reads' HO116.out).2.1)
     rintro e w168 ⟨rfl, hb⟩
     refine ⟨_, rfl, ?_⟩
     have n0_ := Aside0.mk (Kd.S_below (by exact HO107.out) hb)
     have n1_ := Aside0.mk (Kd.S_below (by exact HO110.out) hb)
     have n2_ := Aside0.mk (Kd.S_below (by exact HO113.out) hb)
     have n3_ := Aside0.mk (Kd.S_below (by exact HO116.out) hb)
     have n4_ := Aside0.mk (blk_below BK101.out hb)
     have n5_ := Aside0.mk (blk_below BK102.out hb)
     have n6_ := Aside0.mk (below_step (by exact HB.out) hb)
     clear HO107
     clear HO110
     clear HO113
     clear HO116
     clear BK101
     clear BK102
     clear HB
     have HO107 := n0_
     have HO110 := n1_
     have HO113 := n2_
     have HO116 := n3_
     have BK101 := n4_
     have BK102 := n5_
     have HB := n6_
     clear n0_ n1_ n2_ n3_ n4_ n5_ n6_
     (try clear hb)
     (try clear hb2)
     (try clear hk)
     (try clear hi)
     refine hK.out _ _ ⟨(blk_cell BK101.out 0).trans rfl, (blk_cell BK101.out 1).trans rfl, (blk_cell BK102.out 0).trans rfl, (blk_cell BK102.out 1).trans rfl⟩ (fun hHeld => ?_)
     clear hK K
     refine norm_ (a' := ?_) ?_ ?_
     rotate_left
     ·show Act.put _ (some 24) _ = _
      simp only [Act.put, List.setIfInBounds_toArray, List.set_cons_zero, List.set_cons_succ, i64_w, i32_w]
      rfl
     refine pure_ (i := 5) (N := some 6) (v := ?_) (a' := ?_) #[true, true, true, true, true, true] rfl rfl (by kernel_rfl) (fun _ _ _ h => h) (Or.inl ⟨by rfl, ?_⟩) ?_ ?_
     rotate_left
     ·intro w'
      go_simp
      with_reducible rfl
     rotate_left
     ·simp only [Act.put, List.setIfInBounds_toArray, List.set_cons_zero, List.set_cons_succ, i64_w, i32_w]
      rfl
     refine done_ (by kernel_rfl) ?_
     have hcz169_0 : w168.cell? ⟨gb101, 0, none⟩ = some (.slice A0_0 l0_0.length c0_0) := (blk_cell BK101.out 0).trans rfl
     have hcz169_1 : w168.cell? ⟨gb101, 1, none⟩ = some (.slice A0_1 l0_1.length c0_1) := (blk_cell BK101.out 1).trans rfl
     have hfz169_0 := blk_frozen BK101.out 0
     have hfz169_1 := blk_frozen BK101.out 1
     try go_wp2_with (first | ((with_reducible refine gate_callee (f := 37) rfl ?_);refine goesL_ (some 26) rfl rfl Try.func37 (by kernel_rfl) rfl #[.agg #[.slice A0_0 l0_0.length c0_0, .slice A0_1 l0_1.length c0_1]] rfl (by (try simp only [List.map_toArray, List.map_cons, List.map_nil]);first | done | rfl | (simp only [List.length_drop, List.length_take];rfl)) ?_;(with_reducible refine (laws_toSpan.calls k _ _ l0_0 _ _ l0_1 t118 t121 _ ?side1 ?side2 ?side3 ?side4 A22.out).mono ?_);(case side1 => repeat (first | exact (Kd.C_below HR0_0.out HB.out) | (with_reducible refine Kd.C_alloc ?_ _) | (with_reducible refine Kd.C_drewN ?_ _) | (with_reducible refine Kd.C_drew ?_)));(case side2 => exact HC0_0.out);(case side3 => repeat (first | exact (Kd.C_below HR0_1.out HB.out) | (with_reducible refine Kd.C_alloc ?_ _) | (with_reducible refine Kd.C_drewN ?_ _) | (with_reducible refine Kd.C_drew ?_)));(case side4 => exact HC0_1.out);rintro e w170 ⟨v119, v122, rfl, ho0, ho1, hb⟩;refine ⟨_, rfl, ?_⟩;have n0_ := Aside0.mk (Kd.S_mono (Kd.S_told (Kd.S_told (Kd.S_old (by exact HO107.out) hb) (Kd.S_base ho0)) (Kd.S_base ho1)) (fun _ h_ => h_.1));have n1_ := Aside0.mk (Kd.S_mono (Kd.S_told (Kd.S_told (Kd.S_old (by exact HO110.out) hb) (Kd.S_base ho0)) (Kd.S_base ho1)) (fun _ h_ => h_.1));have n2_ := Aside0.mk (Kd.S_mono (Kd.S_told (Kd.S_told (Kd.S_old (by exact HO113.out) hb) (Kd.S_base ho0)) (Kd.S_base ho1)) (fun _ h_ => h_.1));have n3_ := Aside0.mk (Kd.S_mono (Kd.S_told (Kd.S_told (Kd.S_old (by exact HO116.out) hb) (Kd.S_base ho0)) (Kd.S_base ho1)) (fun _ h_ => h_.1));have n4_ := Aside0.mk (Kd.S_lower (Kd.S_new' (Kd.S_new' (Kd.S_new' (Kd.S_new' ho0 (Kd.S_lt (by exact HO107.out))) (Kd.S_lt (by exact HO110.out))) (Kd.S_lt (by exact HO113.out))) (Kd.S_lt (by exact HO116.out))) (below_size (by repeat (first | (with_reducible first | exact HB.out | apply below_alloc | apply pw_below_drewN | apply below_drew1 | refine below_set ?_ GE101.out | refine below_set ?_ GE102.out) | exact HB.out))));have n5_ := Aside0.mk (Kd.S_lower (Kd.S_new' (Kd.S_new' (Kd.S_new' (Kd.S_new' ho1 (Kd.S_lt (by exact HO107.out))) (Kd.S_lt (by exact HO110.out))) (Kd.S_lt (by exact HO113.out))) (Kd.S_lt (by exact HO116.out))) (below_size (by repeat (first | (with_reducible first | exact HB.out | apply below_alloc | apply pw_below_drewN | apply below_drew1 | refine below_set ?_ GE101.out | refine below_set ?_ GE102.out) | exact HB.out))));have n6_ := Aside0.mk (blk_below BK101.out hb);have n7_ := Aside0.mk (blk_below BK102.out hb);have n8_ := Aside0.mk (below_step (by repeat (first | (with_reducible first | exact HB.out | apply below_alloc | apply pw_below_drewN | apply below_drew1 | refine below_set ?_ GE101.out | refine below_set ?_ GE102.out) | exact HB.out)) hb);clear HO107;clear HO110;clear HO113;clear HO116;clear BK101;clear BK102;clear HB;have HO107 := n0_;have HO110 := n1_;have HO113 := n2_;have HO116 := n3_;have HO120 := n4_;have HO123 := n5_;have BK101 := n6_;have BK102 := n7_;have HB := n8_;clear n0_ n1_ n2_ n3_ n4_ n5_ n6_ n7_ n8_;(try clear hb);(try clear hb2);(try clear hk);(try clear hi);(try clear ho0);(try clear ho1)) | ((with_reducible refine gate_dst (N := 7) rfl ?_);refine box_event ?hg (N := 7) ?hd (cs := #[.slice none 0 0, .slice none 0 0]) (t := 52) ?hr ?_;(case hd => rfl);(case hg => rfl);(case hr => first | (go_simp;done) | (go_simp;rfl));intro gb124 hg w171 hbox hb;have n0_ := Aside0.mk (Kd.S_below (by exact HO107.out) hb);have n1_ := Aside0.mk (Kd.S_below (by exact HO110.out) hb);have n2_ := Aside0.mk (Kd.S_below (by exact HO113.out) hb);have n3_ := Aside0.mk (Kd.S_below (by exact HO116.out) hb);have n4_ := Aside0.mk (Kd.S_below (by exact HO120.out) hb);have n5_ := Aside0.mk (Kd.S_below (by exact HO123.out) hb);have n6_ := Aside0.mk (blk_below BK101.out hb);have n7_ := Aside0.mk (blk_below BK102.out hb);have n8_ := Aside0.mk (below_step (by repeat (first | (with_reducible first | exact HB.out | apply below_alloc | apply pw_below_drewN | apply below_drew1 | refine below_set ?_ GE101.out | refine below_set ?_ GE102.out) | exact HB.out)) hb);have n9_ := Aside0.mk (hbox);have n10_ := Aside0.mk ((by rw [hg];exact (below_size (by repeat (first | (with_reducible first | exact HB.out | apply below_alloc | apply pw_below_drewN | apply below_drew1 | refine below_set ?_ GE101.out | refine below_set ?_ GE102.out) | exact HB.out))) : w.heap.size ≤ gb124));have n11_ := Aside0.mk ((by rw [hg];exact (below_size (by repeat (first | (with_reducible first | exact HB.out | apply below_alloc | apply pw_below_drewN | apply below_drew1 | refine below_set ?_ GE101.out | refine below_set ?_ GE102.out) | exact HB.out))) : w.heap.size ≤ gb124));have n12_ := Aside0.mk ((by rw [hg];exact Nat.ne_of_lt (blk_lt BK101.out) : gb101 ≠ gb124));have n13_ := Aside0.mk ((by rw [hg];exact Nat.ne_of_gt (blk_lt BK101.out) : gb124 ≠ gb101));have n14_ := Aside0.mk ((by rw [hg];exact Nat.ne_of_lt (blk_lt BK102.out) : gb102 ≠ gb124));have n15_ := Aside0.mk ((by rw [hg];exact Nat.ne_of_gt (blk_lt BK102.out) : gb124 ≠ gb102));clear HO107;clear HO110;clear HO113;clear HO116;clear HO120;clear HO123;clear BK101;clear BK102;clear HB;have HO107 := n0_;have HO110 := n1_;have HO113 := n2_;have HO116 := n3_;have HO120 := n4_;have HO123 := n5_;have BK101 := n6_;have BK102 := n7_;have HB := n8_;have BK124 := n9_;have GW124 := n10_;have GE124 := n11_;have NB101_124 := n12_;have NB124_101 := n13_;have NB102_124 := n14_;have NB124_102 := n15_;clear n0_ n1_ n2_ n3_ n4_ n5_ n6_ n7_ n8_ n9_ n10_ n11_ n12_ n13_ n14_ n15_;clear hb hbox hg;obtain ⟨Ao172, co172, eo172⟩ := Kd.S_slice HO120.out;subst eo172;have hnb173 := NB124_101.out;have hnc173 := NB101_124.out;have hnb174 := NB124_102.out;have hnc174 := NB102_124.out;have hcz175_0 : w171.cell? ⟨gb124, 0, none⟩ = some (.slice none 0 0) := (blk_cell BK124.out 0).trans rfl;have hcz175_1 : w171.cell? ⟨gb124, 1, none⟩ = some (.slice none 0 0) := (blk_cell BK124.out 1).trans rfl;have hfz175_0 := blk_frozen BK124.out 0;have hfz175_1 := blk_frozen BK124.out 1;obtain ⟨Ao176, co176, eo176⟩ := Kd.S_slice HO123.out;subst eo176;have hcz177_0 : w171.cell? ⟨gb102, 0, none⟩ = some (.slice A1_0 l1_0.length c1_0) := (blk_cell BK102.out 0).trans rfl;have hcz177_1 : w171.cell? ⟨gb102, 1, none⟩ = some (.slice A1_1 l1_1.length c1_1) := (blk_cell BK102.out 1).trans rfl;have hfz177_0 := blk_frozen BK102.out 0;have hfz177_1 := blk_frozen BK102.out 1) | ((with_reducible refine gate_callee (f := 37) rfl ?_);refine goesL_ (some 28) rfl rfl Try.func37 (by kernel_rfl) rfl #[.agg #[.slice A1_0 l1_0.length c1_0, .slice A1_1 l1_1.length c1_1]] rfl (by (try simp only [List.map_toArray, List.map_cons, List.map_nil]);first | done | rfl | (simp only [List.length_drop, List.length_take];rfl)) ?_;(with_reducible refine (laws_toSpan.calls k _ _ l1_0 _ _ l1_1 t125 t128 _ ?side1 ?side2 ?side3 ?side4 A23.out).mono ?_);(case side1 => exact Kd.C_below HR1_0.out (by repeat (first | (with_reducible first | exact HB.out | apply below_alloc | apply pw_below_drewN | apply below_drew1 | refine below_set ?_ GE101.out | refine below_set ?_ GE102.out | refine below_set ?_ GE124.out) | exact HB.out)));(case side2 => exact HC1_0.out);(case side3 => exact Kd.C_below HR1_1.out (by repeat (first | (with_reducible first | exact HB.out | apply below_alloc | apply pw_below_drewN | apply below_drew1 | refine below_set ?_ GE101.out | refine below_set ?_ GE102.out | refine below_set ?_ GE124.out) | exact HB.out)));(case side4 => exact HC1_1.out);rintro e w178 ⟨v126, v129, rfl, ho0, ho1, hb⟩;refine ⟨_, rfl, ?_⟩;have n0_ := Aside0.mk (Kd.S_mono (Kd.S_told (Kd.S_told (Kd.S_old (by (with_reducible repeat (first | apply Kd.S_alloc | apply Kd.S_drewN | apply Kd.S_drew));exact (Kd.S_mono (Kd.S_far (p := ⟨gb124, 1, none⟩) (Kd.S_far (p := ⟨gb124, 0, none⟩) (Kd.S_types HO107.out BK124.out (by decide)) (fun _ hk => hk.2) (.slice Ao172 t118.length co172)) (fun _ hk => hk.2) (.slice Ao176 t121.length co176)) (fun _ h_ => h_.1))) hb) (Kd.S_base ho0)) (Kd.S_base ho1)) (fun _ h_ => h_.1));have n1_ := Aside0.mk (Kd.S_mono (Kd.S_told (Kd.S_told (Kd.S_old (by (with_reducible repeat (first | apply Kd.S_alloc | apply Kd.S_drewN | apply Kd.S_drew));exact (Kd.S_mono (Kd.S_far (p := ⟨gb124, 1, none⟩) (Kd.S_far (p := ⟨gb124, 0, none⟩) (Kd.S_types HO110.out BK124.out (by decide)) (fun _ hk => hk.2) (.slice Ao172 t118.length co172)) (fun _ hk => hk.2) (.slice Ao176 t121.length co176)) (fun _ h_ => h_.1))) hb) (Kd.S_base ho0)) (Kd.S_base ho1)) (fun _ h_ => h_.1));have n2_ := Aside0.mk (Kd.S_mono (Kd.S_told (Kd.S_told (Kd.S_old (by (with_reducible repeat (first | apply Kd.S_alloc | apply Kd.S_drewN | apply Kd.S_drew));exact (Kd.S_mono (Kd.S_far (p := ⟨gb124, 1, none⟩) (Kd.S_far (p := ⟨gb124, 0, none⟩) (Kd.S_types HO113.out BK124.out (by decide)) (fun _ hk => hk.2) (.slice Ao172 t118.length co172)) (fun _ hk => hk.2) (.slice Ao176 t121.length co176)) (fun _ h_ => h_.1))) hb) (Kd.S_base ho0)) (Kd.S_base ho1)) (fun _ h_ => h_.1));have n3_ := Aside0.mk (Kd.S_mono (Kd.S_told (Kd.S_told (Kd.S_old (by (with_reducible repeat (first | apply Kd.S_alloc | apply Kd.S_drewN | apply Kd.S_drew));exact (Kd.S_mono (Kd.S_far (p := ⟨gb124, 1, none⟩) (Kd.S_far (p := ⟨gb124, 0, none⟩) (Kd.S_types HO116.out BK124.out (by decide)) (fun _ hk => hk.2) (.slice Ao172 t118.length co172)) (fun _ hk => hk.2) (.slice Ao176 t121.length co176)) (fun _ h_ => h_.1))) hb) (Kd.S_base ho0)) (Kd.S_base ho1)) (fun _ h_ => h_.1));have n4_ := Aside0.mk (Kd.S_mono (Kd.S_told (Kd.S_told (Kd.S_old (by (with_reducible repeat (first | apply Kd.S_alloc | apply Kd.S_drewN | apply Kd.S_drew));exact (Kd.S_mono (Kd.S_far (p := ⟨gb124, 1, none⟩) (Kd.S_far (p := ⟨gb124, 0, none⟩) (Kd.S_types HO120.out BK124.out (by decide)) (fun _ hk => hk.2) (.slice Ao172 t118.length co172)) (fun _ hk => hk.2) (.slice Ao176 t121.length co176)) (fun _ h_ => h_.1))) hb) (Kd.S_base ho0)) (Kd.S_base ho1)) (fun _ h_ => h_.1));have n5_ := Aside0.mk (Kd.S_mono (Kd.S_told (Kd.S_told (Kd.S_old (by (with_reducible repeat (first | apply Kd.S_alloc | apply Kd.S_drewN | apply Kd.S_drew));exact (Kd.S_mono (Kd.S_far (p := ⟨gb124, 1, none⟩) (Kd.S_far (p := ⟨gb124, 0, none⟩) (Kd.S_types HO123.out BK124.out (by decide)) (fun _ hk => hk.2) (.slice Ao172 t118.length co172)) (fun _ hk => hk.2) (.slice Ao176 t121.length co176)) (fun _ h_ => h_.1))) hb) (Kd.S_base ho0)) (Kd.S_base ho1)) (fun _ h_ => h_.1));have n6_ := Aside0.mk (Kd.S_lower (Kd.S_new' (Kd.S_new' (Kd.S_new' (Kd.S_new' (Kd.S_new' (Kd.S_new' ho0 (Kd.S_lt (by (with_reducible repeat (first | apply Kd.S_alloc | apply Kd.S_drewN | apply Kd.S_drew));exact (Kd.S_mono (Kd.S_far (p := ⟨gb124, 1, none⟩) (Kd.S_far (p := ⟨gb124, 0, none⟩) (Kd.S_types HO107.out BK124.out (by decide)) (fun _ hk => hk.2) (.slice Ao172 t118.length co172)) (fun _ hk => hk.2) (.slice Ao176 t121.length co176)) (fun _ h_ => h_.1))))) (Kd.S_lt (by (with_reducible repeat (first | apply Kd.S_alloc | apply Kd.S_drewN | apply Kd.S_drew));exact (Kd.S_mono (Kd.S_far (p := ⟨gb124, 1, none⟩) (Kd.S_far (p := ⟨gb124, 0, none⟩) (Kd.S_types HO110.out BK124.out (by decide)) (fun _ hk => hk.2) (.slice Ao172 t118.length co172)) (fun _ hk => hk.2) (.slice Ao176 t121.length co176)) (fun _ h_ => h_.1))))) (Kd.S_lt (by (with_reducible repeat (first | apply Kd.S_alloc | apply Kd.S_drewN | apply Kd.S_drew));exact (Kd.S_mono (Kd.S_far (p := ⟨gb124, 1, none⟩) (Kd.S_far (p := ⟨gb124, 0, none⟩) (Kd.S_types HO113.out BK124.out (by decide)) (fun _ hk => hk.2) (.slice Ao172 t118.length co172)) (fun _ hk => hk.2) (.slice Ao176 t121.length co176)) (fun _ h_ => h_.1))))) (Kd.S_lt (by (with_reducible repeat (first | apply Kd.S_alloc | apply Kd.S_drewN | apply Kd.S_drew));exact (Kd.S_mono (Kd.S_far (p := ⟨gb124, 1, none⟩) (Kd.S_far (p := ⟨gb124, 0, none⟩) (Kd.S_types HO116.out BK124.out (by decide)) (fun _ hk => hk.2) (.slice Ao172 t118.length co172)) (fun _ hk => hk.2) (.slice Ao176 t121.length co176)) (fun _ h_ => h_.1))))) (Kd.S_lt (by (with_reducible repeat (first | apply Kd.S_alloc | apply Kd.S_drewN | apply Kd.S_drew));exact (Kd.S_mono (Kd.S_far (p := ⟨gb124, 1, none⟩) (Kd.S_far (p := ⟨gb124, 0, none⟩) (Kd.S_types HO120.out BK124.out (by decide)) (fun _ hk => hk.2) (.slice Ao172 t118.length co172)) (fun _ hk => hk.2) (.slice Ao176 t121.length co176)) (fun _ h_ => h_.1))))) (Kd.S_lt (by (with_reducible repeat (first | apply Kd.S_alloc | apply Kd.S_drewN | apply Kd.S_drew));exact (Kd.S_mono (Kd.S_far (p := ⟨gb124, 1, none⟩) (Kd.S_far (p := ⟨gb124, 0, none⟩) (Kd.S_types HO123.out BK124.out (by decide)) (fun _ hk => hk.2) (.slice Ao172 t118.length co172)) (fun _ hk => hk.2) (.slice Ao176 t121.length co176)) (fun _ h_ => h_.1))))) (below_size (by repeat (first | (with_reducible first | exact HB.out | apply below_alloc | apply pw_below_drewN | apply below_drew1 | refine below_set ?_ GE101.out | refine below_set ?_ GE102.out | refine below_set ?_ GE124.out) | exact HB.out))));have n7_ := Aside0.mk (Kd.S_lower (Kd.S_new' (Kd.S_new' (Kd.S_new' (Kd.S_new' (Kd.S_new' (Kd.S_new' ho1 (Kd.S_lt (by (with_reducible repeat (first | apply Kd.S_alloc | apply Kd.S_drewN | apply Kd.S_drew));exact (Kd.S_mono (Kd.S_far (p := ⟨gb124, 1, none⟩) (Kd.S_far (p := ⟨gb124, 0, none⟩) (Kd.S_types HO107.out BK124.out (by decide)) (fun _ hk => hk.2) (.slice Ao172 t118.length co172)) (fun _ hk => hk.2) (.slice Ao176 t121.length co176)) (fun _ h_ => h_.1))))) (Kd.S_lt (by (with_reducible repeat (first | apply Kd.S_alloc | apply Kd.S_drewN | apply Kd.S_drew));exact (Kd.S_mono (Kd.S_far (p := ⟨gb124, 1, none⟩) (Kd.S_far (p := ⟨gb124, 0, none⟩) (Kd.S_types HO110.out BK124.out (by decide)) (fun _ hk => hk.2) (.slice Ao172 t118.length co172)) (fun _ hk => hk.2) (.slice Ao176 t121.length co176)) (fun _ h_ => h_.1))))) (Kd.S_lt (by (with_reducible repeat (first | apply Kd.S_alloc | apply Kd.S_drewN | apply Kd.S_drew));exact (Kd.S_mono (Kd.S_far (p := ⟨gb124, 1, none⟩) (Kd.S_far (p := ⟨gb124, 0, none⟩) (Kd.S_types HO113.out BK124.out (by decide)) (fun _ hk => hk.2) (.slice Ao172 t118.length co172)) (fun _ hk => hk.2) (.slice Ao176 t121.length co176)) (fun _ h_ => h_.1))))) (Kd.S_lt (by (with_reducible repeat (first | apply Kd.S_alloc | apply Kd.S_drewN | apply Kd.S_drew));exact (Kd.S_mono (Kd.S_far (p := ⟨gb124, 1, none⟩) (Kd.S_far (p := ⟨gb124, 0, none⟩) (Kd.S_types HO116.out BK124.out (by decide)) (fun _ hk => hk.2) (.slice Ao172 t118.length co172)) (fun _ hk => hk.2) (.slice Ao176 t121.length co176)) (fun _ h_ => h_.1))))) (Kd.S_lt (by (with_reducible repeat (first | apply Kd.S_alloc | apply Kd.S_drewN | apply Kd.S_drew));exact (Kd.S_mono (Kd.S_far (p := ⟨gb124, 1, none⟩) (Kd.S_far (p := ⟨gb124, 0, none⟩) (Kd.S_types HO120.out BK124.out (by decide)) (fun _ hk => hk.2) (.slice Ao172 t118.length co172)) (fun _ hk => hk.2) (.slice Ao176 t121.length co176)) (fun _ h_ => h_.1))))) (Kd.S_lt (by (with_reducible repeat (first | apply Kd.S_alloc | apply Kd.S_drewN | apply Kd.S_drew));exact (Kd.S_mono (Kd.S_far (p := ⟨gb124, 1, none⟩) (Kd.S_far (p := ⟨gb124, 0, none⟩) (Kd.S_types HO123.out BK124.out (by decide)) (fun _ hk => hk.2) (.slice Ao172 t118.length co172)) (fun _ hk => hk.2) (.slice Ao176 t121.length co176)) (fun _ h_ => h_.1))))) (below_size (by repeat (first | (with_reducible first | exact HB.out | apply below_alloc | apply pw_below_drewN | apply below_drew1 | refine below_set ?_ GE101.out | refine below_set ?_ GE102.out | refine below_set ?_ GE124.out) | exact HB.out))));have n8_ := Aside0.mk (blk_below (g := gb101) (o := .cells #[.slice A0_0 l0_0.length c0_0, .slice A0_1 l0_1.length c0_1] 48 (0, 0)) (by (with_reducible repeat (first | refine blk_drewN ?_ _ | refine blk_drew ?_ | refine blk_alloc ?_ _));refine blk_far ?_ NB101_124.out _;(with_reducible repeat (first | refine blk_drewN ?_ _ | refine blk_drew ?_ | refine blk_alloc ?_ _));refine blk_far ?_ NB101_124.out _;(with_reducible repeat (first | refine blk_drewN ?_ _ | refine blk_drew ?_ | refine blk_alloc ?_ _));exact BK101.out) hb);have n9_ := Aside0.mk (blk_below (g := gb102) (o := .cells #[.slice A1_0 l1_0.length c1_0, .slice A1_1 l1_1.length c1_1] 48 (0, 0)) (by (with_reducible repeat (first | refine blk_drewN ?_ _ | refine blk_drew ?_ | refine blk_alloc ?_ _));refine blk_far ?_ NB102_124.out _;(with_reducible repeat (first | refine blk_drewN ?_ _ | refine blk_drew ?_ | refine blk_alloc ?_ _));refine blk_far ?_ NB102_124.out _;(with_reducible repeat (first | refine blk_drewN ?_ _ | refine blk_drew ?_ | refine blk_alloc ?_ _));exact BK102.out) hb);have n10_ := Aside0.mk (blk_below (g := gb124) (o := .cells #[.slice Ao172 t118.length co172, .slice Ao176 t121.length co176] 52 (0, 0)) (by (with_reducible repeat (first | refine blk_drewN ?_ _ | refine blk_drew ?_ | refine blk_alloc ?_ _));refine blk_put (cs := #[.slice Ao172 t118.length co172, .slice none 0 0]) ?_ 1 _ rfl;(with_reducible repeat (first | refine blk_drewN ?_ _ | refine blk_drew ?_ | refine blk_alloc ?_ _));refine blk_put (cs := #[.slice none 0 0, .slice none 0 0]) ?_ 0 _ rfl;(with_reducible repeat (first | refine blk_drewN ?_ _ | refine blk_drew ?_ | refine blk_alloc ?_ _));exact BK124.out) hb);have n11_ := Aside0.mk (below_step (by repeat (first | (with_reducible first | exact HB.out | apply below_alloc | apply pw_below_drewN | apply below_drew1 | refine below_set ?_ GE101.out | refine below_set ?_ GE102.out | refine below_set ?_ GE124.out) | exact HB.out)) hb);clear HO107;clear HO110;clear HO113;clear HO116;clear HO120;clear HO123;clear BK101;clear BK102;clear BK124;clear HB;have HO107 := n0_;have HO110 := n1_;have HO113 := n2_;have HO116 := n3_;have HO120 := n4_;have HO123 := n5_;have HO127 := n6_;have HO130 := n7_;have BK101 := n8_;have BK102 := n9_;have BK124 := n10_;have HB := n11_;clear n0_ n1_ n2_ n3_ n4_ n5_ n6_ n7_ n8_ n9_ n10_ n11_;(try clear hb);(try clear hb2);(try clear hk);(try clear hi);(try clear ho0);(try clear ho1)) | ((with_reducible refine gate_dst (N := 8) rfl ?_);refine box_event ?hg (N := 8) ?hd (cs := #[.slice none 0 0, .slice none 0 0]) (t := 52) ?hr ?_;(case hd => rfl);(case hg => rfl);(case hr => first | (go_simp;done) | (go_simp;rfl));intro gb131 hg w179 hbox hb;have n0_ := Aside0.mk (Kd.S_below (by exact HO107.out) hb);have n1_ := Aside0.mk (Kd.S_below (by exact HO110.out) hb);have n2_ := Aside0.mk (Kd.S_below (by exact HO113.out) hb);have n3_ := Aside0.mk (Kd.S_below (by exact HO116.out) hb);have n4_ := Aside0.mk (Kd.S_below (by exact HO120.out) hb);have n5_ := Aside0.mk (Kd.S_below (by exact HO123.out) hb);have n6_ := Aside0.mk (Kd.S_below (by exact HO127.out) hb);have n7_ := Aside0.mk (Kd.S_below (by exact HO130.out) hb);have n8_ := Aside0.mk (blk_below BK101.out hb);have n9_ := Aside0.mk (blk_below BK102.out hb);have n10_ := Aside0.mk (blk_below BK124.out hb);have n11_ := Aside0.mk (below_step (by repeat (first | (with_reducible first | exact HB.out | apply below_alloc | apply pw_below_drewN | apply below_drew1 | refine below_set ?_ GE101.out | refine below_set ?_ GE102.out | refine below_set ?_ GE124.out) | exact HB.out)) hb);have n12_ := Aside0.mk (hbox);have n13_ := Aside0.mk ((by rw [hg];exact (below_size (by repeat (first | (with_reducible first | exact HB.out | apply below_alloc | apply pw_below_drewN | apply below_drew1 | refine below_set ?_ GE101.out | refine below_set ?_ GE102.out | refine below_set ?_ GE124.out) | exact HB.out))) : w.heap.size ≤ gb131));have n14_ := Aside0.mk ((by rw [hg];exact (below_size (by repeat (first | (with_reducible first | exact HB.out | apply below_alloc | apply pw_below_drewN | apply below_drew1 | refine below_set ?_ GE101.out | refine below_set ?_ GE102.out | refine below_set ?_ GE124.out) | exact HB.out))) : w.heap.size ≤ gb131));have n15_ := Aside0.mk ((by rw [hg];exact Nat.ne_of_lt (blk_lt BK101.out) : gb101 ≠ gb131));have n16_ := Aside0.mk ((by rw [hg];exact Nat.ne_of_gt (blk_lt BK101.out) : gb131 ≠ gb101));have n17_ := Aside0.mk ((by rw [hg];exact Nat.ne_of_lt (blk_lt BK102.out) : gb102 ≠ gb131));have n18_ := Aside0.mk ((by rw [hg];exact Nat.ne_of_gt (blk_lt BK102.out) : gb131 ≠ gb102));have n19_ := Aside0.mk ((by rw [hg];exact Nat.ne_of_lt (blk_lt BK124.out) : gb124 ≠ gb131));have n20_ := Aside0.mk ((by rw [hg];exact Nat.ne_of_gt (blk_lt BK124.out) : gb131 ≠ gb124));clear HO107;clear HO110;clear HO113;clear HO116;clear HO120;clear HO123;clear HO127;clear HO130;clear BK101;clear BK102;clear BK124;clear HB;have HO107 := n0_;have HO110 := n1_;have HO113 := n2_;have HO116 := n3_;have HO120 := n4_;have HO123 := n5_;have HO127 := n6_;have HO130 := n7_;have BK101 := n8_;have BK102 := n9_;have BK124 := n10_;have HB := n11_;have BK131 := n12_;have GW131 := n13_;have GE131 := n14_;have NB101_131 := n15_;have NB131_101 := n16_;have NB102_131 := n17_;have NB131_102 := n18_;have NB124_131 := n19_;have NB131_124 := n20_;clear n0_ n1_ n2_ n3_ n4_ n5_ n6_ n7_ n8_ n9_ n10_ n11_ n12_ n13_ n14_ n15_ n16_ n17_ n18_ n19_ n20_;clear hb hbox hg;obtain ⟨Ao180, co180, eo180⟩ := Kd.S_slice HO127.out;subst eo180;have hnb181 := NB131_101.out;have hnc181 := NB101_131.out;have hnb182 := NB131_102.out;have hnc182 := NB102_131.out;have hnb183 := NB131_124.out;have hnc183 := NB124_131.out;have hcz184_0 : w179.cell? ⟨gb131, 0, none⟩ = some (.slice none 0 0) := (blk_cell BK131.out 0).trans rfl;have hcz184_1 : w179.cell? ⟨gb131, 1, none⟩ = some (.slice none 0 0) := (blk_cell BK131.out 1).trans rfl;have hfz184_0 := blk_frozen BK131.out 0;have hfz184_1 := blk_frozen BK131.out 1;obtain ⟨Ao185, co185, eo185⟩ := Kd.S_slice HO130.out;subst eo185;have hcz186_0 : w179.cell? ⟨gb124, 0, none⟩ = some (.slice Ao172 t118.length co172) := (blk_cell BK124.out 0).trans rfl;have hcz186_1 : w179.cell? ⟨gb124, 1, none⟩ = some (.slice Ao176 t121.length co176) := (blk_cell BK124.out 1).trans rfl;have hfz186_0 := blk_frozen BK124.out 0;have hfz186_1 := blk_frozen BK124.out 1) | ((with_reducible refine gate_callee (f := 38) rfl ?_);refine goesL_ (some 31) rfl rfl Try.func38 (by kernel_rfl) rfl #[.agg #[.slice Ao172 t118.length co172, .slice Ao176 t121.length co176], .agg #[.slice Ao180 t125.length co180, .slice Ao185 t128.length co185]] rfl (by (try simp only [List.map_toArray, List.map_cons, List.map_nil]);first | done | rfl | (simp only [List.length_drop, List.length_take];rfl)) ?_;(with_reducible refine (impl_SpanSame.calls k _ _ t118 _ _ t121 _ _ t125 _ _ t128 t132 _ ?side1 ?side2 ?side3 ?side4 ?side5 ?side6 ?side7 ?side8 A24.out).mono ?_);(case side1 => refine (Kd.S_reads' (e := 27) (base := w.heap.size) (ok := fun k_ => ((((((some k_ ≠ (.slice Ao176 t121.length co176 : Value).ownBlock ∧ some k_ ≠ (.slice Ao164 t105.length co164 : Value).ownBlock) ∧ some k_ ≠ (.slice Ao165 t108.length co165 : Value).ownBlock) ∧ some k_ ≠ (.slice Ao166 t111.length co166 : Value).ownBlock) ∧ some k_ ≠ (.slice Ao167 t114.length co167 : Value).ownBlock) ∧ some k_ ≠ (.slice Ao180 t125.length co180 : Value).ownBlock) ∧ some k_ ≠ (.slice Ao185 t128.length co185 : Value).ownBlock)) (n := t118.length) (c := co172) ?_).2.2;exact (by (with_reducible repeat (first | apply Kd.S_alloc | apply Kd.S_drewN | apply Kd.S_drew));exact (Kd.S_mono (Kd.S_far (p := ⟨gb131, 1, none⟩) (Kd.S_far (p := ⟨gb131, 0, none⟩) (Kd.S_types HO120.out BK131.out (by decide)) (fun _ hk => hk.2) (.slice Ao180 t125.length co180)) (fun _ hk => hk.2) (.slice Ao185 t128.length co185)) (fun _ h_ => h_.1))));(case side2 => exact (Kd.S_reads' HO120.out).2.1);(case side3 => refine (Kd.S_reads' (e := 27) (base := w.heap.size) (ok := fun k_ => ((((((some k_ ≠ (.slice Ao172 t118.length co172 : Value).ownBlock ∧ some k_ ≠ (.slice Ao164 t105.length co164 : Value).ownBlock) ∧ some k_ ≠ (.slice Ao165 t108.length co165 : Value).ownBlock) ∧ some k_ ≠ (.slice Ao166 t111.length co166 : Value).ownBlock) ∧ some k_ ≠ (.slice Ao167 t114.length co167 : Value).ownBlock) ∧ some k_ ≠ (.slice Ao180 t125.length co180 : Value).ownBlock) ∧ some k_ ≠ (.slice Ao185 t128.length co185 : Value).ownBlock)) (n := t121.length) (c := co176) ?_).2.2;exact (by (with_reducible repeat (first | apply Kd.S_alloc | apply Kd.S_drewN | apply Kd.S_drew));exact (Kd.S_mono (Kd.S_far (p := ⟨gb131, 1, none⟩) (Kd.S_far (p := ⟨gb131, 0, none⟩) (Kd.S_types HO123.out BK131.out (by decide)) (fun _ hk => hk.2) (.slice Ao180 t125.length co180)) (fun _ hk => hk.2) (.slice Ao185 t128.length co185)) (fun _ h_ => h_.1))));(case side4 => exact (Kd.S_reads' HO123.out).2.1);(case side5 => refine (Kd.S_reads' (e := 27) (base := w.heap.size) (ok := fun k_ => ((((((some k_ ≠ (.slice Ao185 t128.length co185 : Value).ownBlock ∧ some k_ ≠ (.slice Ao164 t105.length co164 : Value).ownBlock) ∧ some k_ ≠ (.slice Ao165 t108.length co165 : Value).ownBlock) ∧ some k_ ≠ (.slice Ao166 t111.length co166 : Value).ownBlock) ∧ some k_ ≠ (.slice Ao167 t114.length co167 : Value).ownBlock) ∧ some k_ ≠ (.slice Ao172 t118.length co172 : Value).ownBlock) ∧ some k_ ≠ (.slice Ao176 t121.length co176 : Value).ownBlock)) (n := t125.length) (c := co180) ?_).2.2;exact (by (with_reducible repeat (first | apply Kd.S_alloc | apply Kd.S_drewN | apply Kd.S_drew));exact (Kd.S_mono (Kd.S_far (p := ⟨gb131, 1, none⟩) (Kd.S_far (p := ⟨gb131, 0, none⟩) (Kd.S_types HO127.out BK131.out (by decide)) (fun _ hk => hk.2) (.slice Ao180 t125.length co180)) (fun _ hk => hk.2) (.slice Ao185 t128.length co185)) (fun _ h_ => h_.1))));(case side6 => exact (Kd.S_reads' HO127.out).2.1);(case side7 => refine (Kd.S_reads' (e := 27) (base := w.heap.size) (ok := fun k_ => ((((((some k_ ≠ (.slice Ao180 t125.length co180 : Value).ownBlock ∧ some k_ ≠ (.slice Ao164 t105.length co164 : Value).ownBlock) ∧ some k_ ≠ (.slice Ao165 t108.length co165 : Value).ownBlock) ∧ some k_ ≠ (.slice Ao166 t111.length co166 : Value).ownBlock) ∧ some k_ ≠ (.slice Ao167 t114.length co167 : Value).ownBlock) ∧ some k_ ≠ (.slice Ao172 t118.length co172 : Value).ownBlock) ∧ some k_ ≠ (.slice Ao176 t121.length co176 : Value).ownBlock)) (n := t128.length) (c := co185) ?_).2.2;exact (by (with_reducible repeat (first | apply Kd.S_alloc | apply Kd.S_drewN | apply Kd.S_drew));exact (Kd.S_mono (Kd.S_far (p := ⟨gb131, 1, none⟩) (Kd.S_far (p := ⟨gb131, 0, none⟩) (Kd.S_types HO130.out BK131.out (by decide)) (fun _ hk => hk.2) (.slice Ao180 t125.length co180)) (fun _ hk => hk.2) (.slice Ao185 t128.length co185)) (fun _ h_ => h_.1))));(case side8 => exact (Kd.S_reads' HO130.out).2.1);rintro e w187 ⟨rfl, hb⟩;refine ⟨_, rfl, ?_⟩;have n0_ := Aside0.mk (Kd.S_below (by (with_reducible repeat (first | apply Kd.S_alloc | apply Kd.S_drewN | apply Kd.S_drew));exact (Kd.S_mono (Kd.S_far (p := ⟨gb131, 1, none⟩) (Kd.S_far (p := ⟨gb131, 0, none⟩) (Kd.S_types HO107.out BK131.out (by decide)) (fun _ hk => hk.2) (.slice Ao180 t125.length co180)) (fun _ hk => hk.2) (.slice Ao185 t128.length co185)) (fun _ h_ => h_.1))) hb);have n1_ := Aside0.mk (Kd.S_below (by (with_reducible repeat (first | apply Kd.S_alloc | apply Kd.S_drewN | apply Kd.S_drew));exact (Kd.S_mono (Kd.S_far (p := ⟨gb131, 1, none⟩) (Kd.S_far (p := ⟨gb131, 0, none⟩) (Kd.S_types HO110.out BK131.out (by decide)) (fun _ hk => hk.2) (.slice Ao180 t125.length co180)) (fun _ hk => hk.2) (.slice Ao185 t128.length co185)) (fun _ h_ => h_.1))) hb);have n2_ := Aside0.mk (Kd.S_below (by (with_reducible repeat (first | apply Kd.S_alloc | apply Kd.S_drewN | apply Kd.S_drew));exact (Kd.S_mono (Kd.S_far (p := ⟨gb131, 1, none⟩) (Kd.S_far (p := ⟨gb131, 0, none⟩) (Kd.S_types HO113.out BK131.out (by decide)) (fun _ hk => hk.2) (.slice Ao180 t125.length co180)) (fun _ hk => hk.2) (.slice Ao185 t128.length co185)) (fun _ h_ => h_.1))) hb);have n3_ := Aside0.mk (Kd.S_below (by (with_reducible repeat (first | apply Kd.S_alloc | apply Kd.S_drewN | apply Kd.S_drew));exact (Kd.S_mono (Kd.S_far (p := ⟨gb131, 1, none⟩) (Kd.S_far (p := ⟨gb131, 0, none⟩) (Kd.S_types HO116.out BK131.out (by decide)) (fun _ hk => hk.2) (.slice Ao180 t125.length co180)) (fun _ hk => hk.2) (.slice Ao185 t128.length co185)) (fun _ h_ => h_.1))) hb);have n4_ := Aside0.mk (Kd.S_below (by (with_reducible repeat (first | apply Kd.S_alloc | apply Kd.S_drewN | apply Kd.S_drew));exact (Kd.S_mono (Kd.S_far (p := ⟨gb131, 1, none⟩) (Kd.S_far (p := ⟨gb131, 0, none⟩) (Kd.S_types HO120.out BK131.out (by decide)) (fun _ hk => hk.2) (.slice Ao180 t125.length co180)) (fun _ hk => hk.2) (.slice Ao185 t128.length co185)) (fun _ h_ => h_.1))) hb);have n5_ := Aside0.mk (Kd.S_below (by (with_reducible repeat (first | apply Kd.S_alloc | apply Kd.S_drewN | apply Kd.S_drew));exact (Kd.S_mono (Kd.S_far (p := ⟨gb131, 1, none⟩) (Kd.S_far (p := ⟨gb131, 0, none⟩) (Kd.S_types HO123.out BK131.out (by decide)) (fun _ hk => hk.2) (.slice Ao180 t125.length co180)) (fun _ hk => hk.2) (.slice Ao185 t128.length co185)) (fun _ h_ => h_.1))) hb);have n6_ := Aside0.mk (Kd.S_below (by (with_reducible repeat (first | apply Kd.S_alloc | apply Kd.S_drewN | apply Kd.S_drew));exact (Kd.S_mono (Kd.S_far (p := ⟨gb131, 1, none⟩) (Kd.S_far (p := ⟨gb131, 0, none⟩) (Kd.S_types HO127.out BK131.out (by decide)) (fun _ hk => hk.2) (.slice Ao180 t125.length co180)) (fun _ hk => hk.2) (.slice Ao185 t128.length co185)) (fun _ h_ => h_.1))) hb);have n7_ := Aside0.mk (Kd.S_below (by (with_reducible repeat (first | apply Kd.S_alloc | apply Kd.S_drewN | apply Kd.S_drew));exact (Kd.S_mono (Kd.S_far (p := ⟨gb131, 1, none⟩) (Kd.S_far (p := ⟨gb131, 0, none⟩) (Kd.S_types HO130.out BK131.out (by decide)) (fun _ hk => hk.2) (.slice Ao180 t125.length co180)) (fun _ hk => hk.2) (.slice Ao185 t128.length co185)) (fun _ h_ => h_.1))) hb);have n8_ := Aside0.mk (blk_below (g := gb101) (o := .cells #[.slice A0_0 l0_0.length c0_0, .slice A0_1 l0_1.length c0_1] 48 (0, 0)) (by (with_reducible repeat (first | refine blk_drewN ?_ _ | refine blk_drew ?_ | refine blk_alloc ?_ _));refine blk_far ?_ NB101_131.out _;(with_reducible repeat (first | refine blk_drewN ?_ _ | refine blk_drew ?_ | refine blk_alloc ?_ _));refine blk_far ?_ NB101_131.out _;(with_reducible repeat (first | refine blk_drewN ?_ _ | refine blk_drew ?_ | refine blk_alloc ?_ _));exact BK101.out) hb);have n9_ := Aside0.mk (blk_below (g := gb102) (o := .cells #[.slice A1_0 l1_0.length c1_0, .slice A1_1 l1_1.length c1_1] 48 (0, 0)) (by (with_reducible repeat (first | refine blk_drewN ?_ _ | refine blk_drew ?_ | refine blk_alloc ?_ _));refine blk_far ?_ NB102_131.out _;(with_reducible repeat (first | refine blk_drewN ?_ _ | refine blk_drew ?_ | refine blk_alloc ?_ _));refine blk_far ?_ NB102_131.out _;(with_reducible repeat (first | refine blk_drewN ?_ _ | refine blk_drew ?_ | refine blk_alloc ?_ _));exact BK102.out) hb);have n10_ := Aside0.mk (blk_below (g := gb124) (o := .cells #[.slice Ao172 t118.length co172, .slice Ao176 t121.length co176] 52 (0, 0)) (by (with_reducible repeat (first | refine blk_drewN ?_ _ | refine blk_drew ?_ | refine blk_alloc ?_ _));refine blk_far ?_ NB124_131.out _;(with_reducible repeat (first | refine blk_drewN ?_ _ | refine blk_drew ?_ | refine blk_alloc ?_ _));refine blk_far ?_ NB124_131.out _;(with_reducible repeat (first | refine blk_drewN ?_ _ | refine blk_drew ?_ | refine blk_alloc ?_ _));exact BK124.out) hb);have n11_ := Aside0.mk (blk_below (g := gb131) (o := .cells #[.slice Ao180 t125.length co180, .slice Ao185 t128.length co185] 52 (0, 0)) (by (with_reducible repeat (first | refine blk_drewN ?_ _ | refine blk_drew ?_ | refine blk_alloc ?_ _));refine blk_put (cs := #[.slice Ao180 t125.length co180, .slice none 0 0]) ?_ 1 _ rfl;(with_reducible repeat (first | refine blk_drewN ?_ _ | refine blk_drew ?_ | refine blk_alloc ?_ _));refine blk_put (cs := #[.slice none 0 0, .slice none 0 0]) ?_ 0 _ rfl;(with_reducible repeat (first | refine blk_drewN ?_ _ | refine blk_drew ?_ | refine blk_alloc ?_ _));exact BK131.out) hb);have n12_ := Aside0.mk (below_step (by repeat (first | (with_reducible first | exact HB.out | apply below_alloc | apply pw_below_drewN | apply below_drew1 | refine below_set ?_ GE101.out | refine below_set ?_ GE102.out | refine below_set ?_ GE124.out | refine below_set ?_ GE131.out) | exact HB.out)) hb);clear HO107;clear HO110;clear HO113;clear HO116;clear HO120;clear HO123;clear HO127;clear HO130;clear BK101;clear BK102;clear BK124;clear BK131;clear HB;have HO107 := n0_;have HO110 := n1_;have HO113 := n2_;have HO116 := n3_;have HO120 := n4_;have HO123 := n5_;have HO127 := n6_;have HO130 := n7_;have BK101 := n8_;have BK102 := n9_;have BK124 := n10_;have BK131 := n11_;have HB := n12_;clear n0_ n1_ n2_ n3_ n4_ n5_ n6_ n7_ n8_ n9_ n10_ n11_ n12_;(try clear hb);(try clear hb2);(try clear hk);(try clear hi)))
     have n0_ := Aside0.mk (Kd.S_drew HO107.out)
     have n1_ := Aside0.mk (Kd.S_drew HO110.out)
     have n2_ := Aside0.mk (Kd.S_drew HO113.out)
     have n3_ := Aside0.mk (Kd.S_drew HO116.out)
     have n4_ := Aside0.mk (Kd.S_drew HO120.out)
     have n5_ := Aside0.mk (Kd.S_drew HO123.out)
     have n6_ := Aside0.mk (Kd.S_drew HO127.out)
     have n7_ := Aside0.mk (Kd.S_drew HO130.out)
     have n8_ := Aside0.mk (blk_drew BK101.out)
     have n9_ := Aside0.mk (blk_drew BK102.out)
     have n10_ := Aside0.mk (blk_drew BK124.out)
     have n11_ := Aside0.mk (blk_drew BK131.out)
     have n12_ := Aside0.mk (below_drew1 HB.out)
     clear HO107
     clear HO110
     clear HO113
     clear HO116
     clear HO120
     clear HO123
     clear HO127
     clear HO130
     clear BK101
     clear BK102
     clear BK124
     clear BK131
     clear HB
     have HO107 := n0_
     have HO110 := n1_
     have HO113 := n2_
     have HO116 := n3_
     have HO120 := n4_
     have HO123 := n5_
     have HO127 := n6_
     have HO130 := n7_
     have BK101 := n8_
     have BK102 := n9_
     have BK124 := n10_
     have BK131 := n11_
     have HB := n12_
     clear n0_ n1_ n2_ n3_ n4_ n5_ n6_ n7_ n8_ n9_ n10_ n11_ n12_
     refine start_ (n := 5) (S := fun w' => w'.cell? ⟨gb124, 0, none⟩ = some (.slice Ao172 t118.length co172) ∧ w'.cell? ⟨gb124, 1, none⟩ = some (.slice Ao176 t121.length co176) ∧ w'.cell? ⟨gb101, 0, none⟩ = some (.slice A0_0 l0_0.length c0_0) ∧ w'.cell? ⟨gb101, 1, none⟩ = some (.slice A0_1 l0_1.length c0_1)) (ds := []) #[false, false, false, false, false] (by kernel_rfl) rfl rfl ⟨(blk_cell BK124.out 0).trans rfl, (blk_cell BK124.out 1).trans rfl, (blk_cell BK101.out 0).trans rfl, (blk_cell BK101.out 1).trans rfl⟩ (fun hHeld => ?_)
     generalize w187.drew = w188 at HO107 HO110 HO113 HO116 HO120 HO123 HO127 HO130 BK101 BK102 BK124 BK131 HB hHeld ⊢
     refine take_ (i := 0) (N := some 35) (v := ?_) (a' := ?_) #[true, false, false, false, false] rfl rfl (by kernel_rfl) (fun _ _ _ h => h) (Or.inl ⟨by rfl, ?_⟩) hHeld ?_ ?_
     rotate_left
     ·rintro w' ⟨s0, s1, s2, s3⟩
      go_simp
      with_reducible rfl
     rotate_left
     ·simp only [Act.put, List.setIfInBounds_toArray, List.set_cons_zero, List.set_cons_succ, i64_w, i32_w]
      rfl
     refine take_ (i := 1) (N := some 36) (v := ?_) (a' := ?_) #[true, true, false, false, false] rfl rfl (by kernel_rfl) (fun _ _ _ h => h) (Or.inl ⟨by rfl, ?_⟩) hHeld ?_ ?_
     rotate_left
     ·rintro w' ⟨s0, s1, s2, s3⟩
      go_simp
      with_reducible rfl
     rotate_left
     ·simp only [Act.put, List.setIfInBounds_toArray, List.set_cons_zero, List.set_cons_succ, i64_w, i32_w]
      rfl
     refine one_ (i := 2) (N := some 37) #[true, true, true, false, false] rfl rfl (by kernel_rfl) (by decide) (fun K hK => ?_)
     refine goes_ Try.func37 (by kernel_rfl) rfl #[.agg #[.slice A0_0 l0_0.length c0_0, .slice A0_1 l0_1.length c0_1]] (by rfl) rfl rfl (by (try simp only [List.map_toArray, List.map_cons, List.map_nil]);first | done | rfl | (simp only [List.length_drop, List.length_take];rfl)) ?_
     with_reducible refine (laws_toSpan.calls k _ _ l0_0 _ _ l0_1 t133 t136 _ ?side1 ?side2 ?side3 ?side4 A60.out).mono ?_
     (case side1 => repeat (first | exact (Kd.C_below HR0_0.out HB.out) | (with_reducible refine Kd.C_alloc ?_ _) | (with_reducible refine Kd.C_drewN ?_ _) | (with_reducible refine Kd.C_drew ?_)))
     (case side2 => exact HC0_0.out)
     (case side3 => repeat (first | exact (Kd.C_below HR0_1.out HB.out) | (with_reducible refine Kd.C_alloc ?_ _) | (with_reducible refine Kd.C_drewN ?_ _) | (with_reducible refine Kd.C_drew ?_)))
     (case side4 => exact HC0_1.out)
     rintro e w189 ⟨v134, v137, rfl, ho0, ho1, hb⟩
     refine ⟨_, rfl, ?_⟩
     have n0_ := Aside0.mk (Kd.S_mono (Kd.S_told (Kd.S_told (Kd.S_old (by exact HO107.out) hb) (Kd.S_base ho0)) (Kd.S_base ho1)) (fun _ h_ => h_.1))
     have n1_ := Aside0.mk (Kd.S_mono (Kd.S_told (Kd.S_told (Kd.S_old (by exact HO110.out) hb) (Kd.S_base ho0)) (Kd.S_base ho1)) (fun _ h_ => h_.1))
     have n2_ := Aside0.mk (Kd.S_mono (Kd.S_told (Kd.S_told (Kd.S_old (by exact HO113.out) hb) (Kd.S_base ho0)) (Kd.S_base ho1)) (fun _ h_ => h_.1))
     have n3_ := Aside0.mk (Kd.S_mono (Kd.S_told (Kd.S_told (Kd.S_old (by exact HO116.out) hb) (Kd.S_base ho0)) (Kd.S_base ho1)) (fun _ h_ => h_.1))
     have n4_ := Aside0.mk (Kd.S_mono (Kd.S_told (Kd.S_told (Kd.S_old (by exact HO120.out) hb) (Kd.S_base ho0)) (Kd.S_base ho1)) (fun _ h_ => h_.1))
     have n5_ := Aside0.mk (Kd.S_mono (Kd.S_told (Kd.S_told (Kd.S_old (by exact HO123.out) hb) (Kd.S_base ho0)) (Kd.S_base ho1)) (fun _ h_ => h_.1))
     have n6_ := Aside0.mk (Kd.S_mono (Kd.S_told (Kd.S_told (Kd.S_old (by exact HO127.out) hb) (Kd.S_base ho0)) (Kd.S_base ho1)) (fun _ h_ => h_.1))
     have n7_ := Aside0.mk (Kd.S_mono (Kd.S_told (Kd.S_told (Kd.S_old (by exact HO130.out) hb) (Kd.S_base ho0)) (Kd.S_base ho1)) (fun _ h_ => h_.1))
     have n8_ := Aside0.mk (Kd.S_lower (Kd.S_new' (Kd.S_new' (Kd.S_new' (Kd.S_new' (Kd.S_new' (Kd.S_new' (Kd.S_new' (Kd.S_new' ho0 (Kd.S_lt (by exact HO107.out))) (Kd.S_lt (by exact HO110.out))) (Kd.S_lt (by exact HO113.out))) (Kd.S_lt (by exact HO116.out))) (Kd.S_lt (by exact HO120.out))) (Kd.S_lt (by exact HO123.out))) (Kd.S_lt (by exact HO127.out))) (Kd.S_lt (by exact HO130.out))) (below_size (by exact HB.out)))
     have n9_ := Aside0.mk (Kd.S_lower (Kd.S_new' (Kd.S_new' (Kd.S_new' (Kd.S_new' (Kd.S_new' (Kd.S_new' (Kd.S_new' (Kd.S_new' ho1 (Kd.S_lt (by exact HO107.out))) (Kd.S_lt (by exact HO110.out))) (Kd.S_lt (by exact HO113.out))) (Kd.S_lt (by exact HO116.out))) (Kd.S_lt (by exact HO120.out))) (Kd.S_lt (by exact HO123.out))) (Kd.S_lt (by exact HO127.out))) (Kd.S_lt (by exact HO130.out))) (below_size (by exact HB.out)))
     have n10_ := Aside0.mk (blk_below BK101.out hb)
     have n11_ := Aside0.mk (blk_below BK102.out hb)
     have n12_ := Aside0.mk (blk_below BK124.out hb)
     have n13_ := Aside0.mk (blk_below BK131.out hb)
     have n14_ := Aside0.mk (below_step (by exact HB.out) hb)
     clear HO107
     clear HO110
     clear HO113
     clear HO116
     clear HO120
     clear HO123
     clear HO127
     clear HO130
     clear BK101
     clear BK102
     clear BK124
     clear BK131
     clear HB
     have HO107 := n0_
     have HO110 := n1_
     have HO113 := n2_
     have HO116 := n3_
     have HO120 := n4_
     have HO123 := n5_
     have HO127 := n6_
     have HO130 := n7_
     have HO135 := n8_
     have HO138 := n9_
     have BK101 := n10_
     have BK102 := n11_
     have BK124 := n12_
     have BK131 := n13_
     have HB := n14_
     clear n0_ n1_ n2_ n3_ n4_ n5_ n6_ n7_ n8_ n9_ n10_ n11_ n12_ n13_ n14_
     (try clear hb)
     (try clear hb2)
     (try clear hk)
     (try clear hi)
     (try clear ho0)
     (try clear ho1)
     obtain ⟨Ao190, co190, eo190⟩ := Kd.S_slice HO135.out
     (first | subst eo190 | (injection eo190 with f1_ f2_ f3_;have f4_ := f1_.symm;have f5_ := f3_.symm;clear f1_ f2_ f3_;subst f4_;subst f5_))
     obtain ⟨Ao191, co191, eo191⟩ := Kd.S_slice HO138.out
     (first | subst eo191 | (injection eo191 with f1_ f2_ f3_;have f4_ := f1_.symm;have f5_ := f3_.symm;clear f1_ f2_ f3_;subst f4_;subst f5_))
     refine hK.out _ _ ⟨(blk_cell BK124.out 0).trans rfl, (blk_cell BK124.out 1).trans rfl, (blk_cell BK101.out 0).trans rfl, (blk_cell BK101.out 1).trans rfl⟩ (fun hHeld => ?_)
     clear hK K
     refine norm_ (a' := ?_) ?_ ?_
     rotate_left
     ·show Act.put _ (some 37) _ = _
      simp only [Act.put, List.setIfInBounds_toArray, List.set_cons_zero, List.set_cons_succ, i64_w, i32_w]
      rfl
     refine one_ (i := 3) (N := some 38) #[true, true, true, true, false] rfl rfl (by kernel_rfl) (by decide) (fun K hK => ?_)
     refine goes_ Try.func39 (by kernel_rfl) rfl #[.agg #[.slice Ao172 t118.length co172, .slice Ao176 t121.length co176], .agg #[.slice Ao190 t133.length co190, .slice Ao191 t136.length co191]] (by rfl) rfl rfl (by (try simp only [List.map_toArray, List.map_cons, List.map_nil]);first | done | rfl | (simp only [List.length_drop, List.length_take];rfl)) ?_
     with_reducible refine (laws_eqSpan.calls k _ _ t118 _ _ t121 _ _ t133 _ _ t136 false _ ?side1 ?side2 ?side3 ?side4 ?side5 ?side6 ?side7 ?side8 A61.out).mono ?_
     (case side1 => repeat (first | exact (Kd.S_reads' HO120.out).2.2 | (with_reducible refine Kd.C_alloc ?_ _) | (with_reducible refine Kd.C_drewN ?_ _) | (with_reducible refine Kd.C_drew ?_)))
     (case side2 => exact (Kd.S_reads' HO120.out).2.1)
     (case side3 => repeat (first | exact (Kd.S_reads' HO123.out).2.2 | (with_reducible refine Kd.C_alloc ?_ _) | (with_reducible refine Kd.C_drewN ?_ _) | (with_reducible refine Kd.C_drew ?_)))
     (case side4 => exact (Kd.S_reads' HO123.out).2.1)
     (case side5 => repeat (first | exact (Kd.S_reads' HO135.out).2.2 | (with_reducible refine Kd.C_alloc ?_ _) | (with_reducible refine Kd.C_drewN ?_ _) | (with_reducible refine Kd.C_drew ?_)))
     (case side6 => exact (Kd.S_reads' HO135.out).2.1)
     (case side7 => repeat (first | exact (Kd.S_reads' HO138.out).2.2 | (with_reducible refine Kd.C_alloc ?_ _) | (with_reducible refine Kd.C_drewN ?_ _) | (with_reducible refine Kd.C_drew ?_)))
     (case side8 => exact (Kd.S_reads' HO138.out).2.1)
     rintro e w192 ⟨rfl, hb⟩
     refine ⟨_, rfl, ?_⟩
     have n0_ := Aside0.mk (Kd.S_below (by exact HO107.out) hb)
     have n1_ := Aside0.mk (Kd.S_below (by exact HO110.out) hb)
     have n2_ := Aside0.mk (Kd.S_below (by exact HO113.out) hb)
     have n3_ := Aside0.mk (Kd.S_below (by exact HO116.out) hb)
     have n4_ := Aside0.mk (Kd.S_below (by exact HO120.out) hb)
     have n5_ := Aside0.mk (Kd.S_below (by exact HO123.out) hb)
     have n6_ := Aside0.mk (Kd.S_below (by exact HO127.out) hb)
     have n7_ := Aside0.mk (Kd.S_below (by exact HO130.out) hb)
     have n8_ := Aside0.mk (Kd.S_below (by exact HO135.out) hb)
     have n9_ := Aside0.mk (Kd.S_below (by exact HO138.out) hb)
     have n10_ := Aside0.mk (blk_below BK101.out hb)
     have n11_ := Aside0.mk (blk_below BK102.out hb)
     have n12_ := Aside0.mk (blk_below BK124.out hb)
     have n13_ := Aside0.mk (blk_below BK131.out hb)
     have n14_ := Aside0.mk (below_step (by exact HB.out) hb)
     clear HO107
     clear HO110
     clear HO113
     clear HO116
     clear HO120
     clear HO123
     clear HO127
     clear HO130
     clear HO135
     clear HO138
     clear BK101
     clear BK102
     clear BK124
     clear BK131
     clear HB
     have HO107 := n0_
     have HO110 := n1_
     have HO113 := n2_
     have HO116 := n3_
     have HO120 := n4_
     have HO123 := n5_
     have HO127 := n6_
     have HO130 := n7_
     have HO135 := n8_
     have HO138 := n9_
     have BK101 := n10_
     have BK102 := n11_
     have BK124 := n12_
     have BK131 := n13_
     have HB := n14_
     clear n0_ n1_ n2_ n3_ n4_ n5_ n6_ n7_ n8_ n9_ n10_ n11_ n12_ n13_ n14_
     (try clear hb)
     (try clear hb2)
     (try clear hk)
     (try clear hi)
     refine hK.out _ _ ⟨(blk_cell BK124.out 0).trans rfl, (blk_cell BK124.out 1).trans rfl, (blk_cell BK101.out 0).trans rfl, (blk_cell BK101.out 1).trans rfl⟩ (fun hHeld => ?_)
     clear hK K
     refine norm_ (a' := ?_) ?_ ?_
     rotate_left
     ·show Act.put _ (some 38) _ = _
      simp only [Act.put, List.setIfInBounds_toArray, List.set_cons_zero, List.set_cons_succ, i64_w, i32_w]
      rfl
     refine pure_ (i := 4) (N := some 39) (v := ?_) (a' := ?_) #[true, true, true, true, true] rfl rfl (by kernel_rfl) (fun _ _ _ h => h) (Or.inl ⟨by rfl, ?_⟩) ?_ ?_
     rotate_left
     ·intro w'
      go_simp
      with_reducible rfl
     rotate_left
     ·simp only [Act.put, List.setIfInBounds_toArray, List.set_cons_zero, List.set_cons_succ, i64_w, i32_w]
      rfl
     refine done_ (by kernel_rfl) ?_
     try go_wp2
     go_ret
     exact ⟨by first | rfl | (simp [errW_none, errW_some] <;> rfl) | (simp [*, errW_none, errW_some] <;> rfl), by repeat (first | (with_reducible first | exact HB.out | apply below_alloc | apply pw_below_drewN | apply below_drew1 | refine below_set ?_ GE101.out | refine below_set ?_ GE102.out | refine below_set ?_ GE124.out | refine below_set ?_ GE131.out) | exact HB.out)⟩

end Go.Proofs.Ytiplpckgmikmeaa.M
