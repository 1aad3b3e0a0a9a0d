/- What the claim's law leans on: the program's functions, what they compute, and the law over plain values; no condition is asked. (Part 3 of 5.) -/
import Derived.Test.YtiplpckgmikmeaaCLawsFnPlusOr2
namespace Go.Proofs.Ytiplpckgmikmeaa.M
open Go.RowKit Go.Proofs.YtiplpckgmikmeaaW.PrintWords Go.Proofs.YtiplpckgmikmeaaW.PrintLast Go.Proofs.YtiplpckgmikmeaaW.PrintMore
attribute [local go_sem] max2_int min2_int max_two min_two max_three min_three max_four min_four
set_option linter.unusedVariables false
set_option linter.unusedSimpArgs false

def spec_r0Ids.f (k : Nat) (s0_0 : List Int) (s0_1 : Int) : Option (List Int × Int) := (spec_l14Rd_pick.f k s0_0 s0_1 3).bind fun bt101 => (if bt101.1 = 0 then (some ((([] : List Int)), bt101.2)) else (if bt101.1 = 1 then (some ((([2, 2] : List Int)), bt101.2)) else (some ((([24] : List Int)), bt101.2))))
set_option maxHeartbeats 8000000 in
set_option maxRecDepth 100000 in
theorem spec_r0Ids.calls (k : Nat) (g : Nat) (s0_0 : List Int) (s0_1 : Int) (r1 : List Int) (r2 : Int) (w0 w : World) (hI : IsS100 w0 w g s0_0 s0_1) (hB : Below w0.heap.size w0 w) (h : spec_r0Ids.f k s0_0 s0_1 = some (r1, r2)) :
  Calls Try.prog 97 #[.pointer (some ⟨g, 0, none⟩)] w fun e w' => ∃ v0_ : Value, e = .returned (v0_) ∧ Kd.R (Kd.int .i64) 3 w' w.heap.size (fun _ => True) v0_ r1 ∧ IsS100 w0 w' g s0_0 r2 ∧ Below w0.heap.size w0 w' ∧ KeepBut w w' g none := by
 have HI0 := Aside0.mk hI
 have HK := Aside0.mk (KeepBut.refl w g none)
 have HL := Aside0.mk hB.size
 clear hI
 have HW0 := Aside0.mk hB.size
 have HB := Aside0.mk hB
 clear hB
 have H : ((spec_l14Rd_pick.f k s0_0 s0_1 3).bind fun bt101 => (if bt101.1 = 0 then (some ((([] : List Int)), bt101.2)) else (if bt101.1 = 1 then (some ((([2, 2] : List Int)), bt101.2)) else (some ((([24] : List Int)), bt101.2))))) = some (r1, r2) := h
 clear h
 replace H := Option.bind_eq_some_iff.mp H
 obtain ⟨⟨t101, t102⟩, A20, H⟩ := H
 replace H : (if t101 = 0 then (some ((([] : List Int)), t102)) else (if t101 = 1 then (some ((([2, 2] : List Int)), t102)) else (some ((([24] : List Int)), t102)))) = some (r1, r2) := H
 have A2 := Aside0.mk A20
 clear A20
 by_cases c3 : t101 = 0
 ·rw [if_pos c3] at H
  have c3b0 : (t101 == 0) = true := beq_iff_eq.mpr c3
  have c3b1 : (t101 != 0) = false := bne_eq_false_iff_eq.mpr c3
  clear c3
  obtain ⟨y103, hy103⟩ : ∃ y_ : List Int, y_ = (([] : List Int)) := ⟨_, rfl⟩
  replace H : (some (y103, t102)) = some (r1, r2) := by first | (rw [hy103];with_reducible exact H) | (have H2_ := (Option.bind_some _ _).symm.trans H;rw [hy103];with_reducible exact H2_) | (have H2_ := (Option.bind_some _ _).symm.trans H;with_reducible exact H2_) | with_reducible exact H | (rw [hy103];exact H) | exact H
  have Ny103 := Aside0.mk hy103
  clear hy103
  simp only [Option.some.injEq, Prod.mk.injEq] at H
  obtain ⟨rfl, rfl⟩ := H
  go_enter Try.func97, Try.ntmps97
  go_wp2_with (first | ((with_reducible refine gate_callee (f := 74) rfl ?_);refine goesL_ (some 4) rfl rfl Try.func74 (by kernel_rfl) rfl #[.pointer (some ⟨g, 0, none⟩), .int .i64 3] rfl (by (try simp only [List.map_toArray, List.map_cons, List.map_nil]);first | done | rfl | (simp only [List.length_drop, List.length_take];rfl)) ?_;(with_reducible refine (spec_l14Rd_pick.calls k g s0_0 s0_1 3 t101 t102 w0 _ ?side1 ?side2 A2.out).mono ?_);(case side1 => repeat (first | (with_reducible first | exact HI0.out | apply IsS100.alloc | apply IsS100.drewN | apply IsS100.drew | apply IsS100.set_1) | exact HI0.out));(case side2 => repeat (first | (with_reducible first | exact HB.out | apply below_alloc | apply pw_below_drewN | apply below_drew1 | refine below_set ?_ (IsS100.ge HI0.out)) | exact HB.out));rintro e w4 ⟨rfl, hi, hb, hk⟩;refine ⟨_, rfl, ?_⟩;replace HK := Aside0.mk (KeepBut.trans (by repeat (first | (with_reducible first | exact HK.out | apply KeepBut.set_ | apply keep_drewN | apply keep_drew | apply keep_alloc) | exact HK.out)) hk (.inl rfl));replace HB := Aside0.mk (hb);replace HI0 := Aside0.mk (hi);(try clear hb);(try clear hb2);(try clear hk);(try clear hi)) | ((with_reducible refine gate_dst (N := 7) rfl ?_);refine Kd.R_lit (Kd.int .i64) _ 3 ?hg (N := 7) ?hd (xs := ([] : List Int)) (inner := []) (ok := fun _ => True) (okp := fun _ => True) ?hr ?hp (fun _ hk => hk) trivial (Below.refl _ _) (Nat.le_refl _) (by simp) ?_;(case hd => rfl);(case hg => rfl);(case hr => first | (go_simp;done) | (go_simp;rfl));(case hp => exact (Reps.none _ _));intro v104 w5 ho6 hb hg_ hnew_;clear hg_ hnew_;(first | rw [← Ny103.out] at ho6 | (simp only [Int.reduceToNat] at ho6;rw [← Ny103.out] at ho6));have HO105 := Aside0.mk (Kd.R_lower ho6 (keep_size (w := w) (g := g) (row := none) (by repeat (first | (with_reducible first | exact HK.out | apply KeepBut.set_ | apply keep_drewN | apply keep_drew | apply keep_alloc) | exact HK.out))));replace HK := Aside0.mk (KeepBut.trans (by repeat (first | (with_reducible first | exact HK.out | apply KeepBut.set_ | apply keep_drewN | apply keep_drew | apply keep_alloc) | exact HK.out)) (KeepBut.of_below hb g none) (.inl rfl));replace HB := Aside0.mk (below_step (by repeat (first | (with_reducible first | exact HB.out | apply below_alloc | apply pw_below_drewN | apply below_drew1 | refine below_set ?_ (IsS100.ge HI0.out)) | exact HB.out)) hb);replace HI0 := Aside0.mk (IsS100.below (by repeat (first | (with_reducible first | exact HI0.out | apply IsS100.alloc | apply IsS100.drewN | apply IsS100.drew | apply IsS100.set_1) | exact HI0.out)) hb);clear hb ho6))
  go_ret
  exact ⟨_, by first | rfl | (simp [errW_none, errW_some] <;> rfl) | (simp [*, errW_none, errW_some] <;> rfl), by (with_reducible repeat (first | apply Kd.R_alloc | apply Kd.R_drewN | apply Kd.R_drew));exact HO105.out, by repeat (first | (with_reducible first | exact HI0.out | apply IsS100.alloc | apply IsS100.drewN | apply IsS100.drew | apply IsS100.set_1) | exact HI0.out), by repeat (first | (with_reducible first | exact HB.out | apply below_alloc | apply pw_below_drewN | apply below_drew1 | refine below_set ?_ (IsS100.ge HI0.out)) | exact HB.out), by repeat (first | (with_reducible first | exact HK.out | apply KeepBut.set_ | apply keep_drewN | apply keep_drew | apply keep_alloc) | exact HK.out)⟩
 ·rw [if_neg c3] at H
  have c3b0 : (t101 == 0) = false := beq_eq_false_iff_ne.mpr c3
  have c3b1 : (t101 != 0) = true := bne_iff_ne.mpr c3
  by_cases c7 : t101 = 1
  ·rw [if_pos c7] at H
   have c7b0 : (t101 == 1) = true := beq_iff_eq.mpr c7
   have c7b1 : (t101 != 1) = false := bne_eq_false_iff_eq.mpr c7
   clear c7
   obtain ⟨y106, hy106⟩ : ∃ y_ : List Int, y_ = (([2, 2] : List Int)) := ⟨_, rfl⟩
   replace H : (some (y106, t102)) = some (r1, r2) := by first | (rw [hy106];with_reducible exact H) | (have H2_ := (Option.bind_some _ _).symm.trans H;rw [hy106];with_reducible exact H2_) | (have H2_ := (Option.bind_some _ _).symm.trans H;with_reducible exact H2_) | with_reducible exact H | (rw [hy106];exact H) | exact H
   have Ny106 := Aside0.mk hy106
   clear hy106
   simp only [Option.some.injEq, Prod.mk.injEq] at H
   obtain ⟨rfl, rfl⟩ := H
   go_enter Try.func97, Try.ntmps97
   go_wp2_with (first | ((with_reducible refine gate_callee (f := 74) rfl ?_);refine goesL_ (some 4) rfl rfl Try.func74 (by kernel_rfl) rfl #[.pointer (some ⟨g, 0, none⟩), .int .i64 3] rfl (by (try simp only [List.map_toArray, List.map_cons, List.map_nil]);first | done | rfl | (simp only [List.length_drop, List.length_take];rfl)) ?_;(with_reducible refine (spec_l14Rd_pick.calls k g s0_0 s0_1 3 t101 t102 w0 _ ?side1 ?side2 A2.out).mono ?_);(case side1 => repeat (first | (with_reducible first | exact HI0.out | apply IsS100.alloc | apply IsS100.drewN | apply IsS100.drew | apply IsS100.set_1) | exact HI0.out));(case side2 => repeat (first | (with_reducible first | exact HB.out | apply below_alloc | apply pw_below_drewN | apply below_drew1 | refine below_set ?_ (IsS100.ge HI0.out)) | exact HB.out));rintro e w8 ⟨rfl, hi, hb, hk⟩;refine ⟨_, rfl, ?_⟩;replace HK := Aside0.mk (KeepBut.trans (by repeat (first | (with_reducible first | exact HK.out | apply KeepBut.set_ | apply keep_drewN | apply keep_drew | apply keep_alloc) | exact HK.out)) hk (.inl rfl));replace HB := Aside0.mk (hb);replace HI0 := Aside0.mk (hi);(try clear hb);(try clear hb2);(try clear hk);(try clear hi)) | ((with_reducible refine gate_dst (N := 10) rfl ?_);refine Kd.R_lit (Kd.int .i64) _ 3 ?hg (N := 10) ?hd (xs := ([2, 2] : List Int)) (inner := [.int .i64 2, .int .i64 2]) (ok := fun _ => True) (okp := fun _ => True) ?hr ?hp (fun _ hk => hk) trivial (Below.refl _ _) (Nat.le_refl _) (by simp) ?_;(case hd => rfl);(case hg => rfl);(case hr => first | (go_simp;done) | (go_simp;rfl));(case hp => exact (Reps.one (show Kd.M (Kd.int .i64) _ _ _ 2 [.int .i64 2] from rfl) (Reps.one (show Kd.M (Kd.int .i64) _ _ _ 2 [.int .i64 2] from rfl) (Reps.none _ _))));intro v107 w9 ho10 hb hg_ hnew_;clear hg_ hnew_;(first | rw [← Ny106.out] at ho10 | (simp only [Int.reduceToNat] at ho10;rw [← Ny106.out] at ho10));have HO108 := Aside0.mk (Kd.R_lower ho10 (keep_size (w := w) (g := g) (row := none) (by repeat (first | (with_reducible first | exact HK.out | apply KeepBut.set_ | apply keep_drewN | apply keep_drew | apply keep_alloc) | exact HK.out))));replace HK := Aside0.mk (KeepBut.trans (by repeat (first | (with_reducible first | exact HK.out | apply KeepBut.set_ | apply keep_drewN | apply keep_drew | apply keep_alloc) | exact HK.out)) (KeepBut.of_below hb g none) (.inl rfl));replace HB := Aside0.mk (below_step (by repeat (first | (with_reducible first | exact HB.out | apply below_alloc | apply pw_below_drewN | apply below_drew1 | refine below_set ?_ (IsS100.ge HI0.out)) | exact HB.out)) hb);replace HI0 := Aside0.mk (IsS100.below (by repeat (first | (with_reducible first | exact HI0.out | apply IsS100.alloc | apply IsS100.drewN | apply IsS100.drew | apply IsS100.set_1) | exact HI0.out)) hb);clear hb ho10))
   go_ret
   exact ⟨_, by first | rfl | (simp [errW_none, errW_some] <;> rfl) | (simp [*, errW_none, errW_some] <;> rfl), by (with_reducible repeat (first | apply Kd.R_alloc | apply Kd.R_drewN | apply Kd.R_drew));exact HO108.out, by repeat (first | (with_reducible first | exact HI0.out | apply IsS100.alloc | apply IsS100.drewN | apply IsS100.drew | apply IsS100.set_1) | exact HI0.out), by repeat (first | (with_reducible first | exact HB.out | apply below_alloc | apply pw_below_drewN | apply below_drew1 | refine below_set ?_ (IsS100.ge HI0.out)) | exact HB.out), by repeat (first | (with_reducible first | exact HK.out | apply KeepBut.set_ | apply keep_drewN | apply keep_drew | apply keep_alloc) | exact HK.out)⟩
  ·rw [if_neg c7] at H
   have c7b0 : (t101 == 1) = false := beq_eq_false_iff_ne.mpr c7
   have c7b1 : (t101 != 1) = true := bne_iff_ne.mpr c7
   obtain ⟨y109, hy109⟩ : ∃ y_ : List Int, y_ = (([24] : List Int)) := ⟨_, rfl⟩
   replace H : (some (y109, t102)) = some (r1, r2) := by first | (rw [hy109];with_reducible exact H) | (have H2_ := (Option.bind_some _ _).symm.trans H;rw [hy109];with_reducible exact H2_) | (have H2_ := (Option.bind_some _ _).symm.trans H;with_reducible exact H2_) | with_reducible exact H | (rw [hy109];exact H) | exact H
   have Ny109 := Aside0.mk hy109
   clear hy109
   simp only [Option.some.injEq, Prod.mk.injEq] at H
   obtain ⟨rfl, rfl⟩ := H
   go_enter Try.func97, Try.ntmps97
   go_wp2_with (first | ((with_reducible refine gate_callee (f := 74) rfl ?_);refine goesL_ (some 4) rfl rfl Try.func74 (by kernel_rfl) rfl #[.pointer (some ⟨g, 0, none⟩), .int .i64 3] rfl (by (try simp only [List.map_toArray, List.map_cons, List.map_nil]);first | done | rfl | (simp only [List.length_drop, List.length_take];rfl)) ?_;(with_reducible refine (spec_l14Rd_pick.calls k g s0_0 s0_1 3 t101 t102 w0 _ ?side1 ?side2 A2.out).mono ?_);(case side1 => repeat (first | (with_reducible first | exact HI0.out | apply IsS100.alloc | apply IsS100.drewN | apply IsS100.drew | apply IsS100.set_1) | exact HI0.out));(case side2 => repeat (first | (with_reducible first | exact HB.out | apply below_alloc | apply pw_below_drewN | apply below_drew1 | refine below_set ?_ (IsS100.ge HI0.out)) | exact HB.out));rintro e w11 ⟨rfl, hi, hb, hk⟩;refine ⟨_, rfl, ?_⟩;replace HK := Aside0.mk (KeepBut.trans (by repeat (first | (with_reducible first | exact HK.out | apply KeepBut.set_ | apply keep_drewN | apply keep_drew | apply keep_alloc) | exact HK.out)) hk (.inl rfl));replace HB := Aside0.mk (hb);replace HI0 := Aside0.mk (hi);(try clear hb);(try clear hb2);(try clear hk);(try clear hi)) | ((with_reducible refine gate_dst (N := 11) rfl ?_);refine Kd.R_lit (Kd.int .i64) _ 3 ?hg (N := 11) ?hd (xs := ([24] : List Int)) (inner := [.int .i64 24]) (ok := fun _ => True) (okp := fun _ => True) ?hr ?hp (fun _ hk => hk) trivial (Below.refl _ _) (Nat.le_refl _) (by simp) ?_;(case hd => rfl);(case hg => rfl);(case hr => first | (go_simp;done) | (go_simp;rfl));(case hp => exact (Reps.one (show Kd.M (Kd.int .i64) _ _ _ 24 [.int .i64 24] from rfl) (Reps.none _ _)));intro v110 w12 ho13 hb hg_ hnew_;clear hg_ hnew_;(first | rw [← Ny109.out] at ho13 | (simp only [Int.reduceToNat] at ho13;rw [← Ny109.out] at ho13));have HO111 := Aside0.mk (Kd.R_lower ho13 (keep_size (w := w) (g := g) (row := none) (by repeat (first | (with_reducible first | exact HK.out | apply KeepBut.set_ | apply keep_drewN | apply keep_drew | apply keep_alloc) | exact HK.out))));replace HK := Aside0.mk (KeepBut.trans (by repeat (first | (with_reducible first | exact HK.out | apply KeepBut.set_ | apply keep_drewN | apply keep_drew | apply keep_alloc) | exact HK.out)) (KeepBut.of_below hb g none) (.inl rfl));replace HB := Aside0.mk (below_step (by repeat (first | (with_reducible first | exact HB.out | apply below_alloc | apply pw_below_drewN | apply below_drew1 | refine below_set ?_ (IsS100.ge HI0.out)) | exact HB.out)) hb);replace HI0 := Aside0.mk (IsS100.below (by repeat (first | (with_reducible first | exact HI0.out | apply IsS100.alloc | apply IsS100.drewN | apply IsS100.drew | apply IsS100.set_1) | exact HI0.out)) hb);clear hb ho13))
   go_ret
   exact ⟨_, by first | rfl | (simp [errW_none, errW_some] <;> rfl) | (simp [*, errW_none, errW_some] <;> rfl), by (with_reducible repeat (first | apply Kd.R_alloc | apply Kd.R_drewN | apply Kd.R_drew));exact HO111.out, by repeat (first | (with_reducible first | exact HI0.out | apply IsS100.alloc | apply IsS100.drewN | apply IsS100.drew | apply IsS100.set_1) | exact HI0.out), by repeat (first | (with_reducible first | exact HB.out | apply below_alloc | apply pw_below_drewN | apply below_drew1 | refine below_set ?_ (IsS100.ge HI0.out)) | exact HB.out), by repeat (first | (with_reducible first | exact HK.out | apply KeepBut.set_ | apply keep_drewN | apply keep_drew | apply keep_alloc) | exact HK.out)⟩

end Go.Proofs.Ytiplpckgmikmeaa.M
namespace Go.Proofs.Ytiplpckgmikmeaa.M
open Go.RowKit Go.Proofs.YtiplpckgmikmeaaW.PrintWords Go.Proofs.YtiplpckgmikmeaaW.PrintLast Go.Proofs.YtiplpckgmikmeaaW.PrintMore
attribute [local go_sem] max2_int min2_int max_two min_two max_three min_three max_four min_four
set_option linter.unusedVariables false
set_option linter.unusedSimpArgs false

def spec_l3Bent.f (k : Nat) (s0_0 : List Int) (s0_1 : Int) : Option ((List (S27)) × Int) := (spec_l3Some.f k s0_0 s0_1 6).bind fun bt101 => (if (bt101.1.length : Int) = 0 then (some (bt101.1, bt101.2)) else ((spec_l14Rd_pick.f k s0_0 bt101.2 (bt101.1.length : Int)).bind fun bt105 => ((spec_l14Rd_pick.f k s0_0 bt105.2 40).bind fun bt107 => (if bt107.1 = 0 then (if 0 ≤ bt105.1 then (if bt105.1 < (bt101.1.length : Int) then ((spec_l14Rd_num.f k s0_0 bt107.2 (([0, wrap64 (((rd_T27 bt101.1 bt105.1).f1) + 1)] : List Int))).bind fun bt113 => (some ((bt101.1.set (bt105.1 : Int).toNat (⟨bt113.1, (rd_T27 bt101.1 bt105.1).f1, (rd_T27 bt101.1 bt105.1).f2⟩ : S27)), bt113.2))) else (none)) else (none)) else (if bt107.1 = 1 then ((spec_r0Ids.f k s0_0 bt107.2).bind fun bt116 => (if 0 ≤ bt105.1 then (if bt105.1 < (bt101.1.length : Int) then (some ((bt101.1.set (bt105.1 : Int).toNat (⟨(rd_T27 bt101.1 bt105.1).f0, (rd_T27 bt101.1 bt105.1).f1, bt116.1⟩ : S27)), bt116.2)) else (none)) else (none))) else (if bt107.1 = 2 then (if 0 < (bt101.1.length : Int) then (if bt101.1.length < 3518437208883 then (some ((bt101.1 ++ [(⟨(rd_T27 bt101.1 0).f0, (rd_T27 bt101.1 0).f1, (rd_T27 bt101.1 0).f2⟩ : S27)]), bt107.2)) else (none)) else (none)) else (if bt107.1 = 3 then (if 0 ≤ bt105.1 then (if bt105.1 < (bt101.1.length : Int) then (some ((bt101.1.set (bt105.1 : Int).toNat (⟨(rd_T27 bt101.1 bt105.1).f0, 2001, (rd_T27 bt101.1 bt105.1).f2⟩ : S27)), bt107.2)) else (none)) else (none)) else (some (bt101.1, bt107.2)))))))))
set_option maxHeartbeats 8000000 in
set_option maxRecDepth 100000 in
theorem spec_l3Bent.calls (k : Nat) (g : Nat) (s0_0 : List Int) (s0_1 : Int) (r1 : List (S27)) (r2 : Int) (w0 w : World) (hI : IsS100 w0 w g s0_0 s0_1) (hB : Below w0.heap.size w0 w) (h : spec_l3Bent.f k s0_0 s0_1 = some (r1, r2)) :
  Calls Try.prog 77 #[.pointer (some ⟨g, 0, none⟩)] w fun e w' => ∃ v0_ : Value, e = .returned (v0_) ∧ Kd.N k27 27 w' w.heap.size (fun k_ => (w.heap.size ≤ k_)) v0_ r1 ∧ IsS100 w0 w' g s0_0 r2 ∧ Below w0.heap.size w0 w' ∧ KeepBut w w' g none := by
 have hu27 := Try.underlying27
 have HI0 := Aside0.mk hI
 have HK := Aside0.mk (KeepBut.refl w g none)
 have HL := Aside0.mk hB.size
 clear hI
 have HW0 := Aside0.mk hB.size
 have HB := Aside0.mk hB
 clear hB
 have H : ((spec_l3Some.f k s0_0 s0_1 6).bind fun bt101 => (if (bt101.1.length : Int) = 0 then (some (bt101.1, bt101.2)) else ((spec_l14Rd_pick.f k s0_0 bt101.2 (bt101.1.length : Int)).bind fun bt105 => ((spec_l14Rd_pick.f k s0_0 bt105.2 40).bind fun bt107 => (if bt107.1 = 0 then (if 0 ≤ bt105.1 then (if bt105.1 < (bt101.1.length : Int) then ((spec_l14Rd_num.f k s0_0 bt107.2 (([0, wrap64 (((rd_T27 bt101.1 bt105.1).f1) + 1)] : List Int))).bind fun bt113 => (some ((bt101.1.set (bt105.1 : Int).toNat (⟨bt113.1, (rd_T27 bt101.1 bt105.1).f1, (rd_T27 bt101.1 bt105.1).f2⟩ : S27)), bt113.2))) else (none)) else (none)) else (if bt107.1 = 1 then ((spec_r0Ids.f k s0_0 bt107.2).bind fun bt116 => (if 0 ≤ bt105.1 then (if bt105.1 < (bt101.1.length : Int) then (some ((bt101.1.set (bt105.1 : Int).toNat (⟨(rd_T27 bt101.1 bt105.1).f0, (rd_T27 bt101.1 bt105.1).f1, bt116.1⟩ : S27)), bt116.2)) else (none)) else (none))) else (if bt107.1 = 2 then (if 0 < (bt101.1.length : Int) then (if bt101.1.length < 3518437208883 then (some ((bt101.1 ++ [(⟨(rd_T27 bt101.1 0).f0, (rd_T27 bt101.1 0).f1, (rd_T27 bt101.1 0).f2⟩ : S27)]), bt107.2)) else (none)) else (none)) else (if bt107.1 = 3 then (if 0 ≤ bt105.1 then (if bt105.1 < (bt101.1.length : Int) then (some ((bt101.1.set (bt105.1 : Int).toNat (⟨(rd_T27 bt101.1 bt105.1).f0, 2001, (rd_T27 bt101.1 bt105.1).f2⟩ : S27)), bt107.2)) else (none)) else (none)) else (some (bt101.1, bt107.2)))))))))) = some (r1, r2) := h
 clear h
 replace H := Option.bind_eq_some_iff.mp H
 obtain ⟨⟨t101, t104⟩, A20, H⟩ := H
 replace H : (if (t101.length : Int) = 0 then (some (t101, t104)) else ((spec_l14Rd_pick.f k s0_0 t104 (t101.length : Int)).bind fun bt105 => ((spec_l14Rd_pick.f k s0_0 bt105.2 40).bind fun bt107 => (if bt107.1 = 0 then (if 0 ≤ bt105.1 then (if bt105.1 < (t101.length : Int) then ((spec_l14Rd_num.f k s0_0 bt107.2 (([0, wrap64 (((rd_T27 t101 bt105.1).f1) + 1)] : List Int))).bind fun bt113 => (some ((t101.set (bt105.1 : Int).toNat (⟨bt113.1, (rd_T27 t101 bt105.1).f1, (rd_T27 t101 bt105.1).f2⟩ : S27)), bt113.2))) else (none)) else (none)) else (if bt107.1 = 1 then ((spec_r0Ids.f k s0_0 bt107.2).bind fun bt116 => (if 0 ≤ bt105.1 then (if bt105.1 < (t101.length : Int) then (some ((t101.set (bt105.1 : Int).toNat (⟨(rd_T27 t101 bt105.1).f0, (rd_T27 t101 bt105.1).f1, bt116.1⟩ : S27)), bt116.2)) else (none)) else (none))) else (if bt107.1 = 2 then (if 0 < (t101.length : Int) then (if t101.length < 3518437208883 then (some ((t101 ++ [(⟨(rd_T27 t101 0).f0, (rd_T27 t101 0).f1, (rd_T27 t101 0).f2⟩ : S27)]), bt107.2)) else (none)) else (none)) else (if bt107.1 = 3 then (if 0 ≤ bt105.1 then (if bt105.1 < (t101.length : Int) then (some ((t101.set (bt105.1 : Int).toNat (⟨(rd_T27 t101 bt105.1).f0, 2001, (rd_T27 t101 bt105.1).f2⟩ : S27)), bt107.2)) else (none)) else (none)) else (some (t101, bt107.2))))))))) = some (r1, r2) := H
 have A2 := Aside0.mk A20
 clear A20
 by_cases c3 : (t101.length : Int) = 0
 ·rw [if_pos c3] at H
  have c3b0 : ((t101.length : Int) == 0) = true := beq_iff_eq.mpr c3
  have c3b1 : ((t101.length : Int) != 0) = false := bne_eq_false_iff_eq.mpr c3
  clear c3
  simp only [Option.some.injEq, Prod.mk.injEq] at H
  obtain ⟨rfl, rfl⟩ := H
  go_enter Try.func77, Try.ntmps77
  go_wp2_with (first | ((with_reducible refine gate_callee (f := 96) rfl ?_);refine goesL_ (some 6) rfl rfl Try.func96 (by kernel_rfl) rfl #[.pointer (some ⟨g, 0, none⟩), .int .i64 6] rfl (by (try simp only [List.map_toArray, List.map_cons, List.map_nil]);first | done | rfl | (simp only [List.length_drop, List.length_take];rfl)) ?_;(with_reducible refine (spec_l3Some.calls k g s0_0 s0_1 6 t101 t104 w0 _ ?side1 ?side2 A2.out).mono ?_);(case side1 => repeat (first | (with_reducible first | exact HI0.out | apply IsS100.alloc | apply IsS100.drewN | apply IsS100.drew | apply IsS100.set_1) | exact HI0.out));(case side2 => repeat (first | (with_reducible first | exact HB.out | apply below_alloc | apply pw_below_drewN | apply below_drew1 | refine below_set ?_ (IsS100.ge HI0.out)) | exact HB.out));rintro e w4 ⟨v102, rfl, ho0, hi, hb, hk⟩;refine ⟨_, rfl, ?_⟩;have HO103 := Aside0.mk (Kd.N_lower (Kd.N_mono (ok' := fun k_ => (w.heap.size ≤ k_) ∧ k_ ≠ g) (Kd.S_N (Kd.S_bound ho0)) (fun k_ hk_ => ⟨(Nat.le_trans (keep_size (w := w) (g := g) (row := none) (by repeat (first | (with_reducible first | exact HK.out | apply KeepBut.set_ | apply keep_drewN | apply keep_drew | apply keep_alloc) | exact HK.out))) hk_.2.1), (IsS100.fresh (by repeat (first | (with_reducible first | exact HI0.out | apply IsS100.alloc | apply IsS100.drewN | apply IsS100.drew | apply IsS100.set_1) | exact HI0.out)) k_ hk_.2.1)⟩)) (keep_size (w := w) (g := g) (row := none) (by repeat (first | (with_reducible first | exact HK.out | apply KeepBut.set_ | apply keep_drewN | apply keep_drew | apply keep_alloc) | exact HK.out))));replace HK := Aside0.mk (KeepBut.trans (by repeat (first | (with_reducible first | exact HK.out | apply KeepBut.set_ | apply keep_drewN | apply keep_drew | apply keep_alloc) | exact HK.out)) hk (.inl rfl));replace HB := Aside0.mk (hb);replace HI0 := Aside0.mk (hi);(try clear hb);(try clear hb2);(try clear hk);(try clear hi);(try clear ho0);obtain ⟨Ao5, co5, eo5⟩ := Kd.N_slice HO103.out;subst eo5))
  go_ret
  exact ⟨_, by first | rfl | (simp [errW_none, errW_some] <;> rfl) | (simp [*, errW_none, errW_some] <;> rfl), by (with_reducible repeat (first | apply Kd.N_alloc | apply Kd.N_drewN | apply Kd.N_drew));exact Kd.N_mono HO103.out (fun _ hk => hk.1), by repeat (first | (with_reducible first | exact HI0.out | apply IsS100.alloc | apply IsS100.drewN | apply IsS100.drew | apply IsS100.set_1) | exact HI0.out), by repeat (first | (with_reducible first | exact HB.out | apply below_alloc | apply pw_below_drewN | apply below_drew1 | refine below_set ?_ (IsS100.ge HI0.out)) | exact HB.out), by repeat (first | (with_reducible first | exact HK.out | apply KeepBut.set_ | apply keep_drewN | apply keep_drew | apply keep_alloc) | exact HK.out)⟩
 ·rw [if_neg c3] at H
  have c3b0 : ((t101.length : Int) == 0) = false := beq_eq_false_iff_ne.mpr c3
  have c3b1 : ((t101.length : Int) != 0) = true := bne_iff_ne.mpr c3
  have c3b2 : ¬ (t101 = []) := fun h_ => c3 (by rw [h_];rfl)
  replace H := Option.bind_eq_some_iff.mp H
  obtain ⟨⟨t105, t106⟩, A60, H⟩ := H
  replace H : ((spec_l14Rd_pick.f k s0_0 t106 40).bind fun bt107 => (if bt107.1 = 0 then (if 0 ≤ t105 then (if t105 < (t101.length : Int) then ((spec_l14Rd_num.f k s0_0 bt107.2 (([0, wrap64 (((rd_T27 t101 t105).f1) + 1)] : List Int))).bind fun bt113 => (some ((t101.set (t105 : Int).toNat (⟨bt113.1, (rd_T27 t101 t105).f1, (rd_T27 t101 t105).f2⟩ : S27)), bt113.2))) else (none)) else (none)) else (if bt107.1 = 1 then ((spec_r0Ids.f k s0_0 bt107.2).bind fun bt116 => (if 0 ≤ t105 then (if t105 < (t101.length : Int) then (some ((t101.set (t105 : Int).toNat (⟨(rd_T27 t101 t105).f0, (rd_T27 t101 t105).f1, bt116.1⟩ : S27)), bt116.2)) else (none)) else (none))) else (if bt107.1 = 2 then (if 0 < (t101.length : Int) then (if t101.length < 3518437208883 then (some ((t101 ++ [(⟨(rd_T27 t101 0).f0, (rd_T27 t101 0).f1, (rd_T27 t101 0).f2⟩ : S27)]), bt107.2)) else (none)) else (none)) else (if bt107.1 = 3 then (if 0 ≤ t105 then (if t105 < (t101.length : Int) then (some ((t101.set (t105 : Int).toNat (⟨(rd_T27 t101 t105).f0, 2001, (rd_T27 t101 t105).f2⟩ : S27)), bt107.2)) else (none)) else (none)) else (some (t101, bt107.2))))))) = some (r1, r2) := H
  have A6 := Aside0.mk A60
  clear A60
  replace H := Option.bind_eq_some_iff.mp H
  obtain ⟨⟨t107, t108⟩, A70, H⟩ := H
  replace H : (if t107 = 0 then (if 0 ≤ t105 then (if t105 < (t101.length : Int) then ((spec_l14Rd_num.f k s0_0 t108 (([0, wrap64 (((rd_T27 t101 t105).f1) + 1)] : List Int))).bind fun bt113 => (some ((t101.set (t105 : Int).toNat (⟨bt113.1, (rd_T27 t101 t105).f1, (rd_T27 t101 t105).f2⟩ : S27)), bt113.2))) else (none)) else (none)) else (if t107 = 1 then ((spec_r0Ids.f k s0_0 t108).bind fun bt116 => (if 0 ≤ t105 then (if t105 < (t101.length : Int) then (some ((t101.set (t105 : Int).toNat (⟨(rd_T27 t101 t105).f0, (rd_T27 t101 t105).f1, bt116.1⟩ : S27)), bt116.2)) else (none)) else (none))) else (if t107 = 2 then (if 0 < (t101.length : Int) then (if t101.length < 3518437208883 then (some ((t101 ++ [(⟨(rd_T27 t101 0).f0, (rd_T27 t101 0).f1, (rd_T27 t101 0).f2⟩ : S27)]), t108)) else (none)) else (none)) else (if t107 = 3 then (if 0 ≤ t105 then (if t105 < (t101.length : Int) then (some ((t101.set (t105 : Int).toNat (⟨(rd_T27 t101 t105).f0, 2001, (rd_T27 t101 t105).f2⟩ : S27)), t108)) else (none)) else (none)) else (some (t101, t108)))))) = some (r1, r2) := H
  have A7 := Aside0.mk A70
  clear A70
  by_cases c8 : t107 = 0
  ·rw [if_pos c8] at H
   have c8b0 : (t107 == 0) = true := beq_iff_eq.mpr c8
   have c8b1 : (t107 != 0) = false := bne_eq_false_iff_eq.mpr c8
   clear c8
   by_cases c9 : 0 ≤ t105
   ·rw [if_pos c9] at H
    have c9b0 : decide (0 ≤ t105) = true := decide_eq_true c9
    clear c9
    by_cases c10 : t105 < (t101.length : Int)
    ·rw [if_pos c10] at H
     have c10b0 : decide (t105 < (t101.length : Int)) = true := decide_eq_true c10
     clear c10
     obtain ⟨y110, hy110⟩ : ∃ y_ : List Int, y_ = (([0, wrap64 (((rd_T27 t101 t105).f1) + 1)] : List Int)) := ⟨_, rfl⟩
     replace H : ((spec_l14Rd_num.f k s0_0 t108 y110).bind fun bt113 => (some ((t101.set (t105 : Int).toNat (⟨bt113.1, (rd_T27 t101 t105).f1, (rd_T27 t101 t105).f2⟩ : S27)), bt113.2))) = some (r1, r2) := by first | (rw [hy110];with_reducible exact H) | (have H2_ := (Option.bind_some _ _).symm.trans H;rw [hy110];with_reducible exact H2_) | (have H2_ := (Option.bind_some _ _).symm.trans H;with_reducible exact H2_) | with_reducible exact H | (rw [hy110];exact H) | exact H
     have Ny110 := Aside0.mk hy110
     clear hy110
     replace H := Option.bind_eq_some_iff.mp H
     obtain ⟨⟨t113, t114⟩, A110, H⟩ := H
     replace H : (some ((t101.set (t105 : Int).toNat (⟨t113, (rd_T27 t101 t105).f1, (rd_T27 t101 t105).f2⟩ : S27)), t114)) = some (r1, r2) := H
     have A11 := Aside0.mk A110
     clear A110
     obtain ⟨y115, hy115⟩ : ∃ y_ : List (S27), y_ = (t101.set (t105 : Int).toNat (⟨t113, (rd_T27 t101 t105).f1, (rd_T27 t101 t105).f2⟩ : S27)) := ⟨_, rfl⟩
     replace H : (some (y115, t114)) = some (r1, r2) := by first | (rw [hy115];with_reducible exact H) | (have H2_ := (Option.bind_some _ _).symm.trans H;rw [hy115];with_reducible exact H2_) | (have H2_ := (Option.bind_some _ _).symm.trans H;with_reducible exact H2_) | with_reducible exact H | (rw [hy115];exact H) | exact H
     have Ny115 := Aside0.mk hy115
     clear hy115
     simp only [Option.some.injEq, Prod.mk.injEq] at H
     obtain ⟨rfl, rfl⟩ := H
     go_enter Try.func77, Try.ntmps77
     go_wp2_with (first | ((with_reducible refine gate_callee (f := 96) rfl ?_);refine goesL_ (some 6) rfl rfl Try.func96 (by kernel_rfl) rfl #[.pointer (some ⟨g, 0, none⟩), .int .i64 6] rfl (by (try simp only [List.map_toArray, List.map_cons, List.map_nil]);first | done | rfl | (simp only [List.length_drop, List.length_take];rfl)) ?_;(with_reducible refine (spec_l3Some.calls k g s0_0 s0_1 6 t101 t104 w0 _ ?side1 ?side2 A2.out).mono ?_);(case side1 => repeat (first | (with_reducible first | exact HI0.out | apply IsS100.alloc | apply IsS100.drewN | apply IsS100.drew | apply IsS100.set_1) | exact HI0.out));(case side2 => repeat (first | (with_reducible first | exact HB.out | apply below_alloc | apply pw_below_drewN | apply below_drew1 | refine below_set ?_ (IsS100.ge HI0.out)) | exact HB.out));rintro e w13 ⟨v102, rfl, ho0, hi, hb, hk⟩;refine ⟨_, rfl, ?_⟩;have HO103 := Aside0.mk (Kd.N_lower (Kd.N_mono (ok' := fun k_ => (w.heap.size ≤ k_) ∧ k_ ≠ g) (Kd.S_N (Kd.S_bound ho0)) (fun k_ hk_ => ⟨(Nat.le_trans (keep_size (w := w) (g := g) (row := none) (by repeat (first | (with_reducible first | exact HK.out | apply KeepBut.set_ | apply keep_drewN | apply keep_drew | apply keep_alloc) | exact HK.out))) hk_.2.1), (IsS100.fresh (by repeat (first | (with_reducible first | exact HI0.out | apply IsS100.alloc | apply IsS100.drewN | apply IsS100.drew | apply IsS100.set_1) | exact HI0.out)) k_ hk_.2.1)⟩)) (keep_size (w := w) (g := g) (row := none) (by repeat (first | (with_reducible first | exact HK.out | apply KeepBut.set_ | apply keep_drewN | apply keep_drew | apply keep_alloc) | exact HK.out))));replace HK := Aside0.mk (KeepBut.trans (by repeat (first | (with_reducible first | exact HK.out | apply KeepBut.set_ | apply keep_drewN | apply keep_drew | apply keep_alloc) | exact HK.out)) hk (.inl rfl));replace HB := Aside0.mk (hb);replace HI0 := Aside0.mk (hi);(try clear hb);(try clear hb2);(try clear hk);(try clear hi);(try clear ho0);obtain ⟨Ao14, co14, eo14⟩ := Kd.N_slice HO103.out;subst eo14) | ((with_reducible refine gate_callee (f := 74) rfl ?_);refine goesL_ (some 14) rfl rfl Try.func74 (by kernel_rfl) rfl #[.pointer (some ⟨g, 0, none⟩), .int .i64 (t101.length : Int)] rfl (by (try simp only [List.map_toArray, List.map_cons, List.map_nil]);first | done | rfl | (simp only [List.length_drop, List.length_take];rfl)) ?_;(with_reducible refine (spec_l14Rd_pick.calls k g s0_0 t104 (t101.length : Int) t105 t106 w0 _ ?side1 ?side2 A6.out).mono ?_);(case side1 => repeat (first | (with_reducible first | exact HI0.out | apply IsS100.alloc | apply IsS100.drewN | apply IsS100.drew | apply IsS100.set_1) | exact HI0.out));(case side2 => repeat (first | (with_reducible first | exact HB.out | apply below_alloc | apply pw_below_drewN | apply below_drew1 | refine below_set ?_ (IsS100.ge HI0.out)) | exact HB.out));rintro e w15 ⟨rfl, hi, hb, hk⟩;refine ⟨_, rfl, ?_⟩;replace HO103 := Aside0.mk (Kd.N_mono (Kd.N_keep (Kd.N_mono (ok := fun k_ => (((w.heap.size ≤ k_)) ∧ k_ ≠ g)) (by exact HO103.out) (fun k_ hk_ => (⟨hk_, hk_.2⟩ : _ ∧ k_ ≠ g))) hk (fun _ h => h.2)) (fun _ h => h.1));replace HK := Aside0.mk (KeepBut.trans (by repeat (first | (with_reducible first | exact HK.out | apply KeepBut.set_ | apply keep_drewN | apply keep_drew | apply keep_alloc) | exact HK.out)) hk (.inl rfl));replace HB := Aside0.mk (hb);replace HI0 := Aside0.mk (hi);(try clear hb);(try clear hb2);(try clear hk);(try clear hi)) | ((with_reducible refine gate_callee (f := 74) rfl ?_);refine goesL_ (some 16) rfl rfl Try.func74 (by kernel_rfl) rfl #[.pointer (some ⟨g, 0, none⟩), .int .i64 40] rfl (by (try simp only [List.map_toArray, List.map_cons, List.map_nil]);first | done | rfl | (simp only [List.length_drop, List.length_take];rfl)) ?_;(with_reducible refine (spec_l14Rd_pick.calls k g s0_0 t106 40 t107 t108 w0 _ ?side1 ?side2 A7.out).mono ?_);(case side1 => repeat (first | (with_reducible first | exact HI0.out | apply IsS100.alloc | apply IsS100.drewN | apply IsS100.drew | apply IsS100.set_1) | exact HI0.out));(case side2 => repeat (first | (with_reducible first | exact HB.out | apply below_alloc | apply pw_below_drewN | apply below_drew1 | refine below_set ?_ (IsS100.ge HI0.out)) | exact HB.out));rintro e w16 ⟨rfl, hi, hb, hk⟩;refine ⟨_, rfl, ?_⟩;replace HO103 := Aside0.mk (Kd.N_mono (Kd.N_keep (Kd.N_mono (ok := fun k_ => (((w.heap.size ≤ k_)) ∧ k_ ≠ g)) (by exact HO103.out) (fun k_ hk_ => (⟨hk_, hk_.2⟩ : _ ∧ k_ ≠ g))) hk (fun _ h => h.2)) (fun _ h => h.1));replace HK := Aside0.mk (KeepBut.trans (by repeat (first | (with_reducible first | exact HK.out | apply KeepBut.set_ | apply keep_drewN | apply keep_drew | apply keep_alloc) | exact HK.out)) hk (.inl rfl));replace HB := Aside0.mk (hb);replace HI0 := Aside0.mk (hi);(try clear hb);(try clear hb2);(try clear hk);(try clear hi);have p109 : 0 ≤ (t105 : Int) := of_decide_eq_true (by first | (with_reducible assumption) | assumption);have q109 : t105 < (t101.length : Int) := of_decide_eq_true (by first | (with_reducible assumption) | assumption);obtain ⟨ad109, A109_2, c109_2, e109, hx109_0, hx109_1, hx109_2, hl109_2, hi109_2⟩ := at_T27 (Kd.N_reads' HO103.out).2.2 t105 p109 q109;cases e109;obtain ⟨ce109, hce109, hMe109, hcc109⟩ := Kd.N_get HO103.out z27 t105 p109 (by first | exact q109 | exact of_decide_eq_true (by first | (with_reducible assumption) | assumption) | (have e_ := (Kd.N_reads' HO103.out).1;omega));obtain ⟨ua109_2, uc109_2, rfl, ul109_2, ge109_2⟩ := k27_openF hMe109;have hv109_2 := hcc109 2 _ rfl;rw [add_field _ _ 2 (by omega)] at hv109_2;replace hv109_2 := Option.some.inj (hv109_2.symm.trans hx109_2);injection hv109_2 with hva_ hvn_ hvc_;rw [hva_] at ge109_2;rw [hvc_] at ul109_2;have HL109_2 := Aside0.mk (show Kd.V (Kd.int .i64) 3 _ w.heap.size _ _ ((rd_T27 t101 t105).f2) from Kd.V_mk ul109_2 ge109_2);clear hva_ hvn_ hvc_ ge109_2 ul109_2;clear hcc109 hce109;have HR109_2 := Aside0.mk hi109_2;have HC109_2 := Aside0.mk hl109_2;clear hi109_2 hl109_2;replace p109 := eq_true p109;replace q109 := eq_true q109) | ((with_reducible refine gate_dst (N := 28) rfl ?_);refine Kd.R_lit (Kd.int .i64) _ 3 ?hg (N := 28) ?hd (xs := ([0, wrap64 (((rd_T27 t101 t105).f1) + 1)] : List Int)) (inner := [.int .i64 0, .int .i64 (wrap64 (((rd_T27 t101 t105).f1) + 1))]) (ok := fun _ => True) (okp := fun _ => True) ?hr ?hp (fun _ hk => hk) trivial (Below.refl _ _) (Nat.le_refl _) (by simp) ?_;(case hd => rfl);(case hg => rfl);(case hr => first | (go_simp;done) | (go_simp;rfl));(case hp => exact (Reps.one (show Kd.M (Kd.int .i64) _ _ _ 0 [.int .i64 0] from rfl) (Reps.one (show Kd.M (Kd.int .i64) _ _ _ (wrap64 (((rd_T27 t101 t105).f1) + 1)) [.int .i64 (wrap64 (((rd_T27 t101 t105).f1) + 1))] from rfl) (Reps.none _ _))));intro v111 w17 ho18 hb hg_ hnew_;clear hg_ hnew_;(first | rw [← Ny110.out] at ho18 | (simp only [Int.reduceToNat] at ho18;rw [← Ny110.out] at ho18));replace HO103 := Aside0.mk (Kd.N_elder' (by exact HO103.out) (Kd.R_base ho18) hb);replace HL109_2 := Aside0.mk (Kd.V_elder' (by exact HL109_2.out) (Kd.R_base ho18) hb);have HO112 := Aside0.mk (Kd.R_lower (Kd.R_newM (M := fun k_ => (w.heap.size ≤ k_)) ho18 (keep_size (w := w) (g := g) (row := none) (by repeat (first | (with_reducible first | exact HK.out | apply KeepBut.set_ | apply keep_drewN | apply keep_drew | apply keep_alloc) | exact HK.out))) (fun k_ h_ => h_)) (keep_size (w := w) (g := g) (row := none) (by repeat (first | (with_reducible first | exact HK.out | apply KeepBut.set_ | apply keep_drewN | apply keep_drew | apply keep_alloc) | exact HK.out))));replace HR109_2 := Aside0.mk (Kd.C_below (by repeat (first | (with_reducible exact HR109_2.out) | (with_reducible refine Kd.C_alloc ?_ _) | (with_reducible refine Kd.C_drewN ?_ _) | (with_reducible refine Kd.C_drew ?_) | exact HR109_2.out)) hb);replace HK := Aside0.mk (KeepBut.trans (by repeat (first | (with_reducible first | exact HK.out | apply KeepBut.set_ | apply keep_drewN | apply keep_drew | apply keep_alloc) | exact HK.out)) (KeepBut.of_below hb g none) (.inl rfl));replace HB := Aside0.mk (below_step (by repeat (first | (with_reducible first | exact HB.out | apply below_alloc | apply pw_below_drewN | apply below_drew1 | refine below_set ?_ (IsS100.ge HI0.out)) | exact HB.out)) hb);replace HI0 := Aside0.mk (IsS100.below (by repeat (first | (with_reducible first | exact HI0.out | apply IsS100.alloc | apply IsS100.drewN | apply IsS100.drew | apply IsS100.set_1) | exact HI0.out)) hb);clear hb ho18;obtain ⟨Ao19, co19, eo19⟩ := Kd.R_slice HO112.out;subst eo19) | ((with_reducible refine gate_callee (f := 91) rfl ?_);refine goesL_ (some 29) rfl rfl Try.func91 (by kernel_rfl) rfl #[.pointer (some ⟨g, 0, none⟩), .slice Ao19 y110.length co19] rfl (by (try simp only [List.map_toArray, List.map_cons, List.map_nil]);first | done | rfl | (simp only [List.length_drop, List.length_take];rfl)) ?_;(with_reducible refine (spec_l14Rd_num.calls k g s0_0 t108 _ _ y110 t113 t114 w0 _ ?side1 ?side2 ?side3 ?side4 ?side5 A11.out).mono ?_);(case side1 => repeat (first | (with_reducible first | exact HI0.out | apply IsS100.alloc | apply IsS100.drewN | apply IsS100.drew | apply IsS100.set_1) | exact HI0.out));(case side2 => repeat (first | (with_reducible first | exact HB.out | apply below_alloc | apply pw_below_drewN | apply below_drew1 | refine below_set ?_ (IsS100.ge HI0.out)) | exact HB.out));(case side3 => repeat (first | exact (Kd.R_reads' HO112.out).2.2 | (with_reducible refine Kd.C_alloc ?_ _) | (with_reducible refine Kd.C_drewN ?_ _) | (with_reducible refine Kd.C_drew ?_)));(case side4 => exact (Kd.R_reads' HO112.out).2.1);(case side5 => exact far_slice (IsS100.own_ne HI0.out HO112.out (by decide)));rintro e w20 ⟨rfl, hi, hb, hk⟩;refine ⟨_, rfl, ?_⟩;replace HO103 := Aside0.mk (Kd.N_mono (Kd.N_keep (Kd.N_mono (ok := fun k_ => ((((w.heap.size ≤ k_)) ∧ k_ ≠ g) ∧ some k_ ≠ (.slice Ao19 y110.length co19 : Value).ownBlock)) (by exact HO103.out) (fun k_ hk_ => (⟨hk_, hk_.1.2⟩ : _ ∧ k_ ≠ g))) hk (fun _ h => h.2)) (fun _ h => h.1));replace HL109_2 := Aside0.mk (Kd.V_mono (Kd.V_keep (Kd.V_mono (ok := fun k_ => (((((w.heap.size ≤ k_)) ∧ k_ ≠ g) ∧ some k_ ≠ (.slice (some ad109) t101.length co14 : Value).ownBlock) ∧ some k_ ≠ (.slice Ao19 y110.length co19 : Value).ownBlock)) (by exact HL109_2.out) (fun k_ hk_ => (⟨hk_, hk_.1.1.2⟩ : _ ∧ k_ ≠ g))) hk (fun _ h => h.2)) (fun _ h => h.1));replace HO112 := Aside0.mk (Kd.R_mono (Kd.R_keep (IsS100.apart (show IsS100 w0 _ g s0_0 t108 from by repeat (first | (with_reducible first | exact HI0.out | apply IsS100.alloc | apply IsS100.drewN | apply IsS100.drew | apply IsS100.set_1) | exact HI0.out)) (by exact HO112.out) (by decide)) hk (fun _ h => h.2)) (fun _ h => h.1));replace HK := Aside0.mk (KeepBut.trans (by repeat (first | (with_reducible first | exact HK.out | apply KeepBut.set_ | apply keep_drewN | apply keep_drew | apply keep_alloc) | exact HK.out)) hk (.inl rfl));replace HB := Aside0.mk (hb);replace HI0 := Aside0.mk (hi);(try clear hb);(try clear hb2);(try clear hk);(try clear hi);have p12 : 0 ≤ (t105 : Int) := of_decide_eq_true (by first | (with_reducible assumption) | assumption);have q12 : (t105 : Int) < ((t101.length : Int) : Int) := of_decide_eq_true (by first | (with_reducible assumption) | assumption);obtain ⟨go12, co12, eo12, gb12, gl12, cl12, HG12⟩ := Kd.N_form HO103.out (by omega);(first | cases eo12 | (injection eo12 with ea_ en_ ec_;(first | subst ea_ | (injection ea_ with ea_;subst ea_));subst ec_;clear en_));have GB12 := Aside0.mk gb12;have GG12 := Aside0.mk HG12;clear gb12 gl12 HG12;(first | simp only [add_plain] at hx109_0 | skip);(first | simp only [add_plain] at hx109_1 | skip);(first | simp only [add_plain] at hx109_2 | skip);obtain ⟨ce12, hcl12, hM12, hcc12, hfr12⟩ := Kd.N_elem HO103.out z27 (t105 : Int) p12 q12;obtain ⟨ua12_2, uc12_2, rfl, ul12_2, ge12_2⟩ := k27_openF hM12;have hx12_0 : w20.cell? ⟨go12, (t105 : Int).toNat * 3, none⟩ = some (.int .i64 ((rd_T27 t101 t105).f0)) := hcc12 0 _ rfl;have hx12_1 : w20.cell? ⟨go12, (t105 : Int).toNat * 3 + 1, none⟩ = some (.int .i64 ((rd_T27 t101 t105).f1)) := hcc12 1 _ rfl;have hx12_2 : w20.cell? ⟨go12, (t105 : Int).toNat * 3 + 2, none⟩ = some (.slice ua12_2 ((rd_T27 t101 t105).f2).length uc12_2) := hcc12 2 _ rfl;have hf12_0 : w20.frozen? ⟨go12, (t105 : Int).toNat * 3, none⟩ = false := hfr12 0;have hf12_1 : w20.frozen? ⟨go12, (t105 : Int).toNat * 3 + 1, none⟩ = false := hfr12 1;have hf12_2 : w20.frozen? ⟨go12, (t105 : Int).toNat * 3 + 2, none⟩ = false := hfr12 2;clear hcl12 hcc12 hfr12 hM12;replace p12 := eq_true p12;replace q12 := eq_true q12;have n_ := Aside0.mk (Kd.N_mono (ok' := (fun k_ => (w.heap.size ≤ k_) ∧ some k_ ≠ (.slice Ao19 y110.length co19 : Value).ownBlock)) HO103.out (fun k_ hk => ⟨hk.1.1, hk.2⟩));clear HO103;have HO103 := n_;clear n_;have HX21 := Aside0.mk (show Kd.N k27 27 w20 w.heap.size (fun k_ => (w.heap.size ≤ k_) ∧ some k_ ≠ (.slice Ao19 y110.length co19 : Value).ownBlock) (.slice (some ⟨go12, 0, none⟩) t101.length co14) t101 from (by exact HO103.out));obtain ⟨ce21, hcl21, hM21, hcc21, hfr21⟩ := Kd.N_elem HX21.out z27 (t105 : Int) (of_decide_eq_true (by first | (with_reducible assumption) | assumption)) (by have h_ : (t105 : Int) < ((t101.length : Int) : Int) := of_decide_eq_true (by first | (with_reducible assumption) | assumption);first | exact h_ | (have e_ := (Kd.N_reads' HO103.out).1;omega) | simpa using h_);obtain ⟨ua21_2, uc21_2, rfl, ul21_2, ge21_2⟩ := k27_openF hM21;have HP21 := Kd.N_seg HX21.out (t105 : Int) (of_decide_eq_true (by first | (with_reducible assumption) | assumption)) (by have h_ : (t105 : Int) < ((t101.length : Int) : Int) := of_decide_eq_true (by first | (with_reducible assumption) | assumption);first | exact h_ | (have e_ := (Kd.N_reads' HO103.out).1;omega) | simpa using h_) (seg := [.int .i64 t113]) (j := 0) hcl21 hcc21 (show 1 ≤ 3 from by decide) (x' := (⟨t113, (rd_T27 t101 t105).f1, (rd_T27 t101 t105).f2⟩ : S27)) (k27_mkF _ _ (⟨t113, (rd_T27 t101 t105).f1, (rd_T27 t101 t105).f2⟩ : S27) ul21_2 ge21_2) (fun _ hk => hk);have hx21_0 := hcc21 0 _ rfl;(try simp only [show (k27).sz = 3 from rfl, Nat.mul_one, Nat.add_zero] at hx21_0);have hf21_0 := hfr21 0;(try simp only [show (k27).sz = 3 from rfl, Nat.mul_one, Nat.add_zero] at hf21_0);clear hcl21 hcc21 hfr21 hM21) | ((with_reducible refine gate_store (t := 3) (p := 31) rfl ?_);refine store_event (t := 3) (p := 31) (v := ?vo_w22) (w1 := (w20.setCell ⟨go12, (t105 : Int).toNat * 3, none⟩ (.int .i64 t113))) ?hg ?ho ?hn ?hr ?_;(case ho => rfl);(case hg => rfl);(case hn => rfl);(case hr => first | (go_simp;done) | (go_simp;rfl));intro w22 hw;have hg : w20.grownBy w22 (some go12) := (by rw [hw];exact HP21.2);have hp_ : Kd.N k27 27 w22 w.heap.size (fun k_ => (w.heap.size ≤ k_) ∧ some k_ ≠ (.slice Ao19 y110.length co19 : Value).ownBlock) (.slice (some ⟨go12, 0, none⟩) t101.length co14) y115 := (by rw [hw, Ny115.out];exact HP21.1);clear HP21;replace HI0 := Aside0.mk (IsS100.grown (by repeat (first | (with_reducible first | exact HI0.out | apply IsS100.alloc | apply IsS100.drewN | apply IsS100.drew | apply IsS100.set_1) | exact HI0.out)) hg (IsS100.own_neN HI0.out HO103.out (by decide)));replace HL109_2 := Aside0.mk (Kd.V_afterv (v := (.slice (some ⟨go12, 0, none⟩) t101.length co14)) (v1 := (.slice (some ⟨go12, 0, none⟩) t101.length co14)) (ok := (fun k_ => (w.heap.size ≤ k_) ∧ some k_ ≠ (.slice Ao19 y110.length co19 : Value).ownBlock ∧ k_ ≠ g)) (by (with_reducible repeat (first | apply Kd.V_alloc | apply Kd.V_drewN | apply Kd.V_drew));exact Kd.V_mono HL109_2.out (fun _ hk => ⟨⟨hk.1.1.1, ⟨hk.2, hk.1.1.2⟩⟩, hk.1.2⟩)) hg (.inl rfl));replace HO112 := Aside0.mk (Kd.R_over' (v := (.slice (some ⟨go12, 0, none⟩) t101.length co14)) (by exact HO112.out) (Kd.N_typed HO103.out) (by decide) hg);replace HB := Aside0.mk ((by rw [hw];exact below_set (HB.out) (Nat.le_trans HL.out GB12.out) : Below w0.heap.size w0 w22));replace HK := Aside0.mk (KeepBut.trans (by repeat (first | (with_reducible first | exact HK.out | apply KeepBut.set_ | apply keep_drewN | apply keep_drew | apply keep_alloc) | exact HK.out)) (KeepBut.of_grown hg g) (Kd.N_base2 HO103.out));replace HO103 := Aside0.mk (hp_);clear hg hw hp_))
     go_ret
     exact ⟨_, by first | rfl | (simp [errW_none, errW_some] <;> rfl) | (simp [*, errW_none, errW_some] <;> rfl), by (with_reducible repeat (first | apply Kd.N_alloc | apply Kd.N_drewN | apply Kd.N_drew));exact Kd.N_mono HO103.out (fun _ hk => hk.1), by repeat (first | (with_reducible first | exact HI0.out | apply IsS100.alloc | apply IsS100.drewN | apply IsS100.drew | apply IsS100.set_1) | exact HI0.out), by repeat (first | (with_reducible first | exact HB.out | apply below_alloc | apply pw_below_drewN | apply below_drew1 | refine below_set ?_ (IsS100.ge HI0.out)) | exact HB.out), by repeat (first | (with_reducible first | exact HK.out | apply KeepBut.set_ | apply keep_drewN | apply keep_drew | apply keep_alloc) | exact HK.out)⟩
    ·rw [if_neg c10] at H
     exact absurd H (by simp)
   ·rw [if_neg c9] at H
    exact absurd H (by simp)
  ·rw [if_neg c8] at H
   have c8b0 : (t107 == 0) = false := beq_eq_false_iff_ne.mpr c8
   have c8b1 : (t107 != 0) = true := bne_iff_ne.mpr c8
   by_cases c23 : t107 = 1
   ·rw [if_pos c23] at H
    have c23b0 : (t107 == 1) = true := beq_iff_eq.mpr c23
    have c23b1 : (t107 != 1) = false := bne_eq_false_iff_eq.mpr c23
    clear c23
    replace H := Option.bind_eq_some_iff.mp H
    obtain ⟨⟨t116, t119⟩, A240, H⟩ := H
    replace H : (if 0 ≤ t105 then (if t105 < (t101.length : Int) then (some ((t101.set (t105 : Int).toNat (⟨(rd_T27 t101 t105).f0, (rd_T27 t101 t105).f1, t116⟩ : S27)), t119)) else (none)) else (none)) = some (r1, r2) := H
    have A24 := Aside0.mk A240
    clear A240
    by_cases c25 : 0 ≤ t105
    ·rw [if_pos c25] at H
     have c25b0 : decide (0 ≤ t105) = true := decide_eq_true c25
     clear c25
     by_cases c26 : t105 < (t101.length : Int)
     ·rw [if_pos c26] at H
      have c26b0 : decide (t105 < (t101.length : Int)) = true := decide_eq_true c26
      clear c26
      obtain ⟨y120, hy120⟩ : ∃ y_ : List (S27), y_ = (t101.set (t105 : Int).toNat (⟨(rd_T27 t101 t105).f0, (rd_T27 t101 t105).f1, t116⟩ : S27)) := ⟨_, rfl⟩
      replace H : (some (y120, t119)) = some (r1, r2) := by first | (rw [hy120];with_reducible exact H) | (have H2_ := (Option.bind_some _ _).symm.trans H;rw [hy120];with_reducible exact H2_) | (have H2_ := (Option.bind_some _ _).symm.trans H;with_reducible exact H2_) | with_reducible exact H | (rw [hy120];exact H) | exact H
      have Ny120 := Aside0.mk hy120
      clear hy120
      simp only [Option.some.injEq, Prod.mk.injEq] at H
      obtain ⟨rfl, rfl⟩ := H
      go_enter Try.func77, Try.ntmps77
      go_wp2_with (first | ((with_reducible refine gate_callee (f := 96) rfl ?_);refine goesL_ (some 6) rfl rfl Try.func96 (by kernel_rfl) rfl #[.pointer (some ⟨g, 0, none⟩), .int .i64 6] rfl (by (try simp only [List.map_toArray, List.map_cons, List.map_nil]);first | done | rfl | (simp only [List.length_drop, List.length_take];rfl)) ?_;(with_reducible refine (spec_l3Some.calls k g s0_0 s0_1 6 t101 t104 w0 _ ?side1 ?side2 A2.out).mono ?_);(case side1 => repeat (first | (with_reducible first | exact HI0.out | apply IsS100.alloc | apply IsS100.drewN | apply IsS100.drew | apply IsS100.set_1) | exact HI0.out));(case side2 => repeat (first | (with_reducible first | exact HB.out | apply below_alloc | apply pw_below_drewN | apply below_drew1 | refine below_set ?_ (IsS100.ge HI0.out)) | exact HB.out));rintro e w28 ⟨v102, rfl, ho0, hi, hb, hk⟩;refine ⟨_, rfl, ?_⟩;have HO103 := Aside0.mk (Kd.N_lower (Kd.N_mono (ok' := fun k_ => (w.heap.size ≤ k_) ∧ k_ ≠ g) (Kd.S_N (Kd.S_bound ho0)) (fun k_ hk_ => ⟨(Nat.le_trans (keep_size (w := w) (g := g) (row := none) (by repeat (first | (with_reducible first | exact HK.out | apply KeepBut.set_ | apply keep_drewN | apply keep_drew | apply keep_alloc) | exact HK.out))) hk_.2.1), (IsS100.fresh (by repeat (first | (with_reducible first | exact HI0.out | apply IsS100.alloc | apply IsS100.drewN | apply IsS100.drew | apply IsS100.set_1) | exact HI0.out)) k_ hk_.2.1)⟩)) (keep_size (w := w) (g := g) (row := none) (by repeat (first | (with_reducible first | exact HK.out | apply KeepBut.set_ | apply keep_drewN | apply keep_drew | apply keep_alloc) | exact HK.out))));replace HK := Aside0.mk (KeepBut.trans (by repeat (first | (with_reducible first | exact HK.out | apply KeepBut.set_ | apply keep_drewN | apply keep_drew | apply keep_alloc) | exact HK.out)) hk (.inl rfl));replace HB := Aside0.mk (hb);replace HI0 := Aside0.mk (hi);(try clear hb);(try clear hb2);(try clear hk);(try clear hi);(try clear ho0);obtain ⟨Ao29, co29, eo29⟩ := Kd.N_slice HO103.out;subst eo29) | ((with_reducible refine gate_callee (f := 74) rfl ?_);refine goesL_ (some 14) rfl rfl Try.func74 (by kernel_rfl) rfl #[.pointer (some ⟨g, 0, none⟩), .int .i64 (t101.length : Int)] rfl (by (try simp only [List.map_toArray, List.map_cons, List.map_nil]);first | done | rfl | (simp only [List.length_drop, List.length_take];rfl)) ?_;(with_reducible refine (spec_l14Rd_pick.calls k g s0_0 t104 (t101.length : Int) t105 t106 w0 _ ?side1 ?side2 A6.out).mono ?_);(case side1 => repeat (first | (with_reducible first | exact HI0.out | apply IsS100.alloc | apply IsS100.drewN | apply IsS100.drew | apply IsS100.set_1) | exact HI0.out));(case side2 => repeat (first | (with_reducible first | exact HB.out | apply below_alloc | apply pw_below_drewN | apply below_drew1 | refine below_set ?_ (IsS100.ge HI0.out)) | exact HB.out));rintro e w30 ⟨rfl, hi, hb, hk⟩;refine ⟨_, rfl, ?_⟩;replace HO103 := Aside0.mk (Kd.N_mono (Kd.N_keep (Kd.N_mono (ok := fun k_ => (((w.heap.size ≤ k_)) ∧ k_ ≠ g)) (by exact HO103.out) (fun k_ hk_ => (⟨hk_, hk_.2⟩ : _ ∧ k_ ≠ g))) hk (fun _ h => h.2)) (fun _ h => h.1));replace HK := Aside0.mk (KeepBut.trans (by repeat (first | (with_reducible first | exact HK.out | apply KeepBut.set_ | apply keep_drewN | apply keep_drew | apply keep_alloc) | exact HK.out)) hk (.inl rfl));replace HB := Aside0.mk (hb);replace HI0 := Aside0.mk (hi);(try clear hb);(try clear hb2);(try clear hk);(try clear hi)) | ((with_reducible refine gate_callee (f := 74) rfl ?_);refine goesL_ (some 16) rfl rfl Try.func74 (by kernel_rfl) rfl #[.pointer (some ⟨g, 0, none⟩), .int .i64 40] rfl (by (try simp only [List.map_toArray, List.map_cons, List.map_nil]);first | done | rfl | (simp only [List.length_drop, List.length_take];rfl)) ?_;(with_reducible refine (spec_l14Rd_pick.calls k g s0_0 t106 40 t107 t108 w0 _ ?side1 ?side2 A7.out).mono ?_);(case side1 => repeat (first | (with_reducible first | exact HI0.out | apply IsS100.alloc | apply IsS100.drewN | apply IsS100.drew | apply IsS100.set_1) | exact HI0.out));(case side2 => repeat (first | (with_reducible first | exact HB.out | apply below_alloc | apply pw_below_drewN | apply below_drew1 | refine below_set ?_ (IsS100.ge HI0.out)) | exact HB.out));rintro e w31 ⟨rfl, hi, hb, hk⟩;refine ⟨_, rfl, ?_⟩;replace HO103 := Aside0.mk (Kd.N_mono (Kd.N_keep (Kd.N_mono (ok := fun k_ => (((w.heap.size ≤ k_)) ∧ k_ ≠ g)) (by exact HO103.out) (fun k_ hk_ => (⟨hk_, hk_.2⟩ : _ ∧ k_ ≠ g))) hk (fun _ h => h.2)) (fun _ h => h.1));replace HK := Aside0.mk (KeepBut.trans (by repeat (first | (with_reducible first | exact HK.out | apply KeepBut.set_ | apply keep_drewN | apply keep_drew | apply keep_alloc) | exact HK.out)) hk (.inl rfl));replace HB := Aside0.mk (hb);replace HI0 := Aside0.mk (hi);(try clear hb);(try clear hb2);(try clear hk);(try clear hi)) | ((with_reducible refine gate_callee (f := 97) rfl ?_);refine goesL_ (some 37) rfl rfl Try.func97 (by kernel_rfl) rfl #[.pointer (some ⟨g, 0, none⟩)] rfl (by (try simp only [List.map_toArray, List.map_cons, List.map_nil]);first | done | rfl | (simp only [List.length_drop, List.length_take];rfl)) ?_;(with_reducible refine (spec_r0Ids.calls k g s0_0 t108 t116 t119 w0 _ ?side1 ?side2 A24.out).mono ?_);(case side1 => repeat (first | (with_reducible first | exact HI0.out | apply IsS100.alloc | apply IsS100.drewN | apply IsS100.drew | apply IsS100.set_1) | exact HI0.out));(case side2 => repeat (first | (with_reducible first | exact HB.out | apply below_alloc | apply pw_below_drewN | apply below_drew1 | refine below_set ?_ (IsS100.ge HI0.out)) | exact HB.out));rintro e w32 ⟨v117, rfl, ho0, hi, hb, hk⟩;refine ⟨_, rfl, ?_⟩;replace HO103 := Aside0.mk (Kd.N_mono (Kd.N_told (Kd.N_oldK (Kd.N_mono (ok := fun k_ => (((w.heap.size ≤ k_)) ∧ k_ ≠ g)) (by exact HO103.out) (fun k_ hk_ => (⟨hk_, hk_.2⟩ : _ ∧ k_ ≠ g))) hk) (Kd.R_base ho0)) (fun _ h_ => h_.1));have HO118 := Aside0.mk (Kd.R_lower (Kd.R_newM (M := fun k_ => (w.heap.size ≤ k_)) ho0 (keep_size (w := w) (g := g) (row := none) (by repeat (first | (with_reducible first | exact HK.out | apply KeepBut.set_ | apply keep_drewN | apply keep_drew | apply keep_alloc) | exact HK.out))) (fun k_ h_ => h_)) (keep_size (w := w) (g := g) (row := none) (by repeat (first | (with_reducible first | exact HK.out | apply KeepBut.set_ | apply keep_drewN | apply keep_drew | apply keep_alloc) | exact HK.out))));replace HK := Aside0.mk (KeepBut.trans (by repeat (first | (with_reducible first | exact HK.out | apply KeepBut.set_ | apply keep_drewN | apply keep_drew | apply keep_alloc) | exact HK.out)) hk (.inl rfl));replace HB := Aside0.mk (hb);replace HI0 := Aside0.mk (hi);(try clear hb);(try clear hb2);(try clear hk);(try clear hi);(try clear ho0);have p27 : 0 ≤ (t105 : Int) := of_decide_eq_true (by first | (with_reducible assumption) | assumption);have q27 : (t105 : Int) < ((t101.length : Int) : Int) := of_decide_eq_true (by first | (with_reducible assumption) | assumption);obtain ⟨go27, co27, eo27, gb27, gl27, cl27, HG27⟩ := Kd.N_form HO103.out (by omega);(first | cases eo27 | (injection eo27 with ea_ en_ ec_;(first | subst ea_ | (injection ea_ with ea_;subst ea_));subst ec_;clear en_));have GB27 := Aside0.mk gb27;have GG27 := Aside0.mk HG27;clear gb27 gl27 HG27;obtain ⟨ce27, hcl27, hM27, hcc27, hfr27⟩ := Kd.N_elem HO103.out z27 (t105 : Int) p27 q27;obtain ⟨ua27_2, uc27_2, rfl, ul27_2, ge27_2⟩ := k27_openF hM27;have hx27_0 : w32.cell? ⟨go27, (t105 : Int).toNat * 3, none⟩ = some (.int .i64 ((rd_T27 t101 t105).f0)) := hcc27 0 _ rfl;have hx27_1 : w32.cell? ⟨go27, (t105 : Int).toNat * 3 + 1, none⟩ = some (.int .i64 ((rd_T27 t101 t105).f1)) := hcc27 1 _ rfl;have hx27_2 : w32.cell? ⟨go27, (t105 : Int).toNat * 3 + 2, none⟩ = some (.slice ua27_2 ((rd_T27 t101 t105).f2).length uc27_2) := hcc27 2 _ rfl;have hf27_0 : w32.frozen? ⟨go27, (t105 : Int).toNat * 3, none⟩ = false := hfr27 0;have hf27_1 : w32.frozen? ⟨go27, (t105 : Int).toNat * 3 + 1, none⟩ = false := hfr27 1;have hf27_2 : w32.frozen? ⟨go27, (t105 : Int).toNat * 3 + 2, none⟩ = false := hfr27 2;clear hcl27 hcc27 hfr27 hM27;replace p27 := eq_true p27;replace q27 := eq_true q27;obtain ⟨Ao35, co35, eo35⟩ := Kd.R_slice HO118.out;subst eo35;have n_ := Aside0.mk (Kd.N_mono (ok' := (fun k_ => (w.heap.size ≤ k_) ∧ some k_ ≠ (.slice Ao35 t116.length co35 : Value).ownBlock)) HO103.out (fun k_ hk => ⟨hk.1.1, hk.2⟩));clear HO103;have HO103 := n_;clear n_;have HX33 := Aside0.mk (show Kd.N k27 27 w32 w.heap.size (fun k_ => (w.heap.size ≤ k_)) (.slice (some ⟨go27, 0, none⟩) t101.length co29) t101 from (by (with_reducible repeat (first | apply Kd.N_alloc | apply Kd.N_drewN | apply Kd.N_drew));exact Kd.N_mono HO103.out (fun _ hk => hk.1)));obtain ⟨ce33, hcl33, hM33, hcc33, hfr33⟩ := Kd.N_elem HX33.out z27 (t105 : Int) (of_decide_eq_true (by first | (with_reducible assumption) | assumption)) (by have h_ : (t105 : Int) < ((t101.length : Int) : Int) := of_decide_eq_true (by first | (with_reducible assumption) | assumption);first | exact h_ | (have e_ := (Kd.N_reads' HO103.out).1;omega) | simpa using h_);obtain ⟨ua33_2, uc33_2, rfl, ul33_2, ge33_2⟩ := k27_openF hM33;have HP33 := Kd.N_seg HX33.out (t105 : Int) (of_decide_eq_true (by first | (with_reducible assumption) | assumption)) (by have h_ : (t105 : Int) < ((t101.length : Int) : Int) := of_decide_eq_true (by first | (with_reducible assumption) | assumption);first | exact h_ | (have e_ := (Kd.N_reads' HO103.out).1;omega) | simpa using h_) (seg := [.slice Ao35 t116.length co35]) (j := 2) hcl33 hcc33 (show 3 ≤ 3 from by decide) (x' := (⟨(rd_T27 t101 t105).f0, (rd_T27 t101 t105).f1, t116⟩ : S27)) (k27_mkF _ _ (⟨(rd_T27 t101 t105).f0, (rd_T27 t101 t105).f1, t116⟩ : S27) (Kd.R_reads' (Kd.R_mono (ok' := (fun k_ => ((fun k_ => (w.heap.size ≤ k_))) k_ ∧ k_ ≠ go27)) (Kd.R_apart' (HO118.out) (Kd.N_typed HO103.out) (by decide)) (fun k_ hk => ⟨hk.1.1, fun e_ => (hk.2) (by rw [e_];rfl)⟩))).2.1 (Kd.R_F (Kd.R_mono (ok' := (fun k_ => ((fun k_ => (w.heap.size ≤ k_))) k_ ∧ k_ ≠ go27)) (Kd.R_apart' (HO118.out) (Kd.N_typed HO103.out) (by decide)) (fun k_ hk => ⟨hk.1.1, fun e_ => (hk.2) (by rw [e_];rfl)⟩)))) (fun _ hk => hk);have hx33_2 := hcc33 2 _ rfl;(try simp only [show (k27).sz = 3 from rfl, Nat.mul_one, Nat.add_zero] at hx33_2);have hf33_2 := hfr33 2;(try simp only [show (k27).sz = 3 from rfl, Nat.mul_one, Nat.add_zero] at hf33_2);clear hcl33 hcc33 hfr33 hM33) | ((with_reducible refine gate_store (t := 22) (p := 39) rfl ?_);refine store_event (t := 22) (p := 39) (v := ?vo_w34) (w1 := (w32.setCell ⟨go27, (t105 : Int).toNat * 3 + 2, none⟩ (.slice Ao35 t116.length co35))) ?hg ?ho ?hn ?hr ?_;(case ho => rfl);(case hg => rfl);(case hn => rfl);(case hr => first | (go_simp;done) | (go_simp;rfl));intro w34 hw;have hg : w32.grownBy w34 (some go27) := (by rw [hw];exact HP33.2);have hp_ : Kd.N k27 27 w34 w.heap.size (fun k_ => (w.heap.size ≤ k_)) (.slice (some ⟨go27, 0, none⟩) t101.length co29) y120 := (by rw [hw, Ny120.out];exact HP33.1);clear HP33;have n0_ := Aside0.mk (IsS100.grown (by repeat (first | (with_reducible first | exact HI0.out | apply IsS100.alloc | apply IsS100.drewN | apply IsS100.drew | apply IsS100.set_1) | exact HI0.out)) hg (IsS100.own_neN HI0.out HO103.out (by decide)));have n1_ := Aside0.mk (hp_);have n2_ := Aside0.mk ((by rw [hw];exact below_set (HB.out) (Nat.le_trans HL.out GB27.out) : Below w0.heap.size w0 w34));have n3_ := Aside0.mk (KeepBut.trans (by repeat (first | (with_reducible first | exact HK.out | apply KeepBut.set_ | apply keep_drewN | apply keep_drew | apply keep_alloc) | exact HK.out)) (KeepBut.of_grown hg g) (Kd.N_base2 HO103.out));clear HI0;clear HO103;clear HB;clear HK;clear HO118;have HI0 := n0_;have HO103 := n1_;have HB := n2_;have HK := n3_;clear n0_ n1_ n2_ n3_;clear hg hw hp_))
      go_ret
      exact ⟨_, by first | rfl | (simp [errW_none, errW_some] <;> rfl) | (simp [*, errW_none, errW_some] <;> rfl), by (with_reducible repeat (first | apply Kd.N_alloc | apply Kd.N_drewN | apply Kd.N_drew));exact HO103.out, by repeat (first | (with_reducible first | exact HI0.out | apply IsS100.alloc | apply IsS100.drewN | apply IsS100.drew | apply IsS100.set_1) | exact HI0.out), by repeat (first | (with_reducible first | exact HB.out | apply below_alloc | apply pw_below_drewN | apply below_drew1 | refine below_set ?_ (IsS100.ge HI0.out)) | exact HB.out), by repeat (first | (with_reducible first | exact HK.out | apply KeepBut.set_ | apply keep_drewN | apply keep_drew | apply keep_alloc) | exact HK.out)⟩
     ·rw [if_neg c26] at H
      exact absurd H (by simp)
    ·rw [if_neg c25] at H
     exact absurd H (by simp)
   ·rw [if_neg c23] at H
    have c23b0 : (t107 == 1) = false := beq_eq_false_iff_ne.mpr c23
    have c23b1 : (t107 != 1) = true := bne_iff_ne.mpr c23
    by_cases c36 : t107 = 2
    ·rw [if_pos c36] at H
     have c36b0 : (t107 == 2) = true := beq_iff_eq.mpr c36
     have c36b1 : (t107 != 2) = false := bne_eq_false_iff_eq.mpr c36
     clear c36
     by_cases c37 : 0 < (t101.length : Int)
     ·rw [if_pos c37] at H
      have c37b0 : decide (0 < (t101.length : Int)) = true := decide_eq_true c37
      have c37b1 : decide (0 < t101.length) = true := decide_eq_true (by omega)
      clear c37
      by_cases c38 : t101.length < 3518437208883
      ·rw [if_pos c38] at H
       have LMc38 := Aside0.mk c38
       clear c38
       obtain ⟨y122, hy122⟩ : ∃ y_ : List (S27), y_ = (t101 ++ [(⟨(rd_T27 t101 0).f0, (rd_T27 t101 0).f1, (rd_T27 t101 0).f2⟩ : S27)]) := ⟨_, rfl⟩
       replace H : (some (y122, t108)) = some (r1, r2) := by first | (rw [hy122];with_reducible exact H) | (have H2_ := (Option.bind_some _ _).symm.trans H;rw [hy122];with_reducible exact H2_) | (have H2_ := (Option.bind_some _ _).symm.trans H;with_reducible exact H2_) | with_reducible exact H | (rw [hy122];exact H) | exact H
       have Ny122 := Aside0.mk hy122
       clear hy122
       simp only [Option.some.injEq, Prod.mk.injEq] at H
       obtain ⟨rfl, rfl⟩ := H
       go_enter Try.func77, Try.ntmps77
       go_wp2_with (first | ((with_reducible refine gate_callee (f := 96) rfl ?_);refine goesL_ (some 6) rfl rfl Try.func96 (by kernel_rfl) rfl #[.pointer (some ⟨g, 0, none⟩), .int .i64 6] rfl (by (try simp only [List.map_toArray, List.map_cons, List.map_nil]);first | done | rfl | (simp only [List.length_drop, List.length_take];rfl)) ?_;(with_reducible refine (spec_l3Some.calls k g s0_0 s0_1 6 t101 t104 w0 _ ?side1 ?side2 A2.out).mono ?_);(case side1 => repeat (first | (with_reducible first | exact HI0.out | apply IsS100.alloc | apply IsS100.drewN | apply IsS100.drew | apply IsS100.set_1) | exact HI0.out));(case side2 => repeat (first | (with_reducible first | exact HB.out | apply below_alloc | apply pw_below_drewN | apply below_drew1 | refine below_set ?_ (IsS100.ge HI0.out)) | exact HB.out));rintro e w39 ⟨v102, rfl, ho0, hi, hb, hk⟩;refine ⟨_, rfl, ?_⟩;have HO103 := Aside0.mk (Kd.N_lower (Kd.N_mono (ok' := fun k_ => (w.heap.size ≤ k_) ∧ k_ ≠ g) (Kd.S_N (Kd.S_bound ho0)) (fun k_ hk_ => ⟨(Nat.le_trans (keep_size (w := w) (g := g) (row := none) (by repeat (first | (with_reducible first | exact HK.out | apply KeepBut.set_ | apply keep_drewN | apply keep_drew | apply keep_alloc) | exact HK.out))) hk_.2.1), (IsS100.fresh (by repeat (first | (with_reducible first | exact HI0.out | apply IsS100.alloc | apply IsS100.drewN | apply IsS100.drew | apply IsS100.set_1) | exact HI0.out)) k_ hk_.2.1)⟩)) (keep_size (w := w) (g := g) (row := none) (by repeat (first | (with_reducible first | exact HK.out | apply KeepBut.set_ | apply keep_drewN | apply keep_drew | apply keep_alloc) | exact HK.out))));replace HK := Aside0.mk (KeepBut.trans (by repeat (first | (with_reducible first | exact HK.out | apply KeepBut.set_ | apply keep_drewN | apply keep_drew | apply keep_alloc) | exact HK.out)) hk (.inl rfl));replace HB := Aside0.mk (hb);replace HI0 := Aside0.mk (hi);(try clear hb);(try clear hb2);(try clear hk);(try clear hi);(try clear ho0);obtain ⟨Ao40, co40, eo40⟩ := Kd.N_slice HO103.out;subst eo40) | ((with_reducible refine gate_callee (f := 74) rfl ?_);refine goesL_ (some 14) rfl rfl Try.func74 (by kernel_rfl) rfl #[.pointer (some ⟨g, 0, none⟩), .int .i64 (t101.length : Int)] rfl (by (try simp only [List.map_toArray, List.map_cons, List.map_nil]);first | done | rfl | (simp only [List.length_drop, List.length_take];rfl)) ?_;(with_reducible refine (spec_l14Rd_pick.calls k g s0_0 t104 (t101.length : Int) t105 t106 w0 _ ?side1 ?side2 A6.out).mono ?_);(case side1 => repeat (first | (with_reducible first | exact HI0.out | apply IsS100.alloc | apply IsS100.drewN | apply IsS100.drew | apply IsS100.set_1) | exact HI0.out));(case side2 => repeat (first | (with_reducible first | exact HB.out | apply below_alloc | apply pw_below_drewN | apply below_drew1 | refine below_set ?_ (IsS100.ge HI0.out)) | exact HB.out));rintro e w41 ⟨rfl, hi, hb, hk⟩;refine ⟨_, rfl, ?_⟩;replace HO103 := Aside0.mk (Kd.N_mono (Kd.N_keep (Kd.N_mono (ok := fun k_ => (((w.heap.size ≤ k_)) ∧ k_ ≠ g)) (by exact HO103.out) (fun k_ hk_ => (⟨hk_, hk_.2⟩ : _ ∧ k_ ≠ g))) hk (fun _ h => h.2)) (fun _ h => h.1));replace HK := Aside0.mk (KeepBut.trans (by repeat (first | (with_reducible first | exact HK.out | apply KeepBut.set_ | apply keep_drewN | apply keep_drew | apply keep_alloc) | exact HK.out)) hk (.inl rfl));replace HB := Aside0.mk (hb);replace HI0 := Aside0.mk (hi);(try clear hb);(try clear hb2);(try clear hk);(try clear hi)) | ((with_reducible refine gate_callee (f := 74) rfl ?_);refine goesL_ (some 16) rfl rfl Try.func74 (by kernel_rfl) rfl #[.pointer (some ⟨g, 0, none⟩), .int .i64 40] rfl (by (try simp only [List.map_toArray, List.map_cons, List.map_nil]);first | done | rfl | (simp only [List.length_drop, List.length_take];rfl)) ?_;(with_reducible refine (spec_l14Rd_pick.calls k g s0_0 t106 40 t107 t108 w0 _ ?side1 ?side2 A7.out).mono ?_);(case side1 => repeat (first | (with_reducible first | exact HI0.out | apply IsS100.alloc | apply IsS100.drewN | apply IsS100.drew | apply IsS100.set_1) | exact HI0.out));(case side2 => repeat (first | (with_reducible first | exact HB.out | apply below_alloc | apply pw_below_drewN | apply below_drew1 | refine below_set ?_ (IsS100.ge HI0.out)) | exact HB.out));rintro e w42 ⟨rfl, hi, hb, hk⟩;refine ⟨_, rfl, ?_⟩;replace HO103 := Aside0.mk (Kd.N_mono (Kd.N_keep (Kd.N_mono (ok := fun k_ => (((w.heap.size ≤ k_)) ∧ k_ ≠ g)) (by exact HO103.out) (fun k_ hk_ => (⟨hk_, hk_.2⟩ : _ ∧ k_ ≠ g))) hk (fun _ h => h.2)) (fun _ h => h.1));replace HK := Aside0.mk (KeepBut.trans (by repeat (first | (with_reducible first | exact HK.out | apply KeepBut.set_ | apply keep_drewN | apply keep_drew | apply keep_alloc) | exact HK.out)) hk (.inl rfl));replace HB := Aside0.mk (hb);replace HI0 := Aside0.mk (hi);(try clear hb);(try clear hb2);(try clear hk);(try clear hi);have p121 : 0 ≤ (0 : Int) := (by omega);have q121 : 0 < (t101.length : Int) := of_decide_eq_true (by first | (with_reducible assumption) | assumption);obtain ⟨ad121, A121_2, c121_2, e121, hx121_0, hx121_1, hx121_2, hl121_2, hi121_2⟩ := at_T27 (Kd.N_reads' HO103.out).2.2 0 p121 q121;cases e121;obtain ⟨ce121, hce121, hMe121, hcc121⟩ := Kd.N_get HO103.out z27 0 p121 (by first | exact q121 | exact of_decide_eq_true (by first | (with_reducible assumption) | assumption) | (have e_ := (Kd.N_reads' HO103.out).1;omega));obtain ⟨ua121_2, uc121_2, rfl, ul121_2, ge121_2⟩ := k27_openF hMe121;have hv121_2 := hcc121 2 _ rfl;rw [add_field _ _ 2 (by omega)] at hv121_2;replace hv121_2 := Option.some.inj (hv121_2.symm.trans hx121_2);injection hv121_2 with hva_ hvn_ hvc_;rw [hva_] at ge121_2;rw [hvc_] at ul121_2;have HL121_2 := Aside0.mk (show Kd.V (Kd.int .i64) 3 _ w.heap.size _ _ ((rd_T27 t101 0).f2) from Kd.V_mk ul121_2 ge121_2);clear hva_ hvn_ hvc_ ge121_2 ul121_2;clear hcc121 hce121;have qi121 : (0 < t101.length) = True := eq_true (by omega);(try rw [show ((0 : Int)).toNat = 0 from rfl] at hx121_0);(try rw [show 0 * 3 = 0 from rfl] at hx121_0);(try rw [Addr.add_zero'] at hx121_0);(try rw [show ((0 : Int)).toNat = 0 from rfl] at hx121_1);(try rw [show 0 * 3 = 0 from rfl] at hx121_1);(try rw [Addr.add_zero'] at hx121_1);(try rw [show ((0 : Int)).toNat = 0 from rfl] at hx121_2);(try rw [show 0 * 3 = 0 from rfl] at hx121_2);(try rw [Addr.add_zero'] at hx121_2);have HR121_2 := Aside0.mk hi121_2;have HC121_2 := Aside0.mk hl121_2;clear hi121_2 hl121_2;replace p121 := eq_true p121;replace q121 := eq_true q121) | ((with_reducible refine gate_builtin (b := .append) (xs := #[.tmp 42, .tmp 46]) rfl ?_);at_builtin;refine Kd.N_append k27 w.heap.size rfl (.tmp 42) (.tmp 46) 34 27 (.agg #[(.int .i64 0), (.int .i64 0), (.slice none 0 0)]) 40 rfl Try.underlying34 info27 rfl (by decide) (by omega) (.slice (some ad121) t101.length co40) t101 (⟨(rd_T27 t101 0).f0, (rd_T27 t101 0).f1, (rd_T27 t101 0).f2⟩ : S27) [.int .i64 ((rd_T27 t101 0).f0), .int .i64 ((rd_T27 t101 0).f1), .slice A121_2 ((rd_T27 t101 0).f2).length c121_2] (fun k_ => (w.heap.size ≤ k_) ∧ k_ ≠ g) (fun k_ => ((fun k_ => (w.heap.size ≤ k_) ∧ k_ ≠ g)) k_ ∧ some k_ ≠ (.slice (some ad121) t101.length co40 : Value).ownBlock) rfl rfl ?aP (fun _ hk => hk) ?aF ?aO (Below.refl _ _) ?aS ?aL ?_;(case aP => exact (k27_mkF _ _ (⟨(rd_T27 t101 0).f0, (rd_T27 t101 0).f1, (rd_T27 t101 0).f2⟩ : S27) (Kd.V_reads' (Kd.V_mono (ok' := (fun k_ => ((fun k_ => (w.heap.size ≤ k_) ∧ k_ ≠ g)) k_ ∧ some k_ ≠ (.slice (some ad121) t101.length co40 : Value).ownBlock)) (HL121_2.out) (fun k_ hk => ⟨⟨hk.1.1, hk.1.2⟩, hk.2⟩))).2.1 (Kd.V_F (Kd.V_mono (ok' := (fun k_ => ((fun k_ => (w.heap.size ≤ k_) ∧ k_ ≠ g)) k_ ∧ some k_ ≠ (.slice (some ad121) t101.length co40 : Value).ownBlock)) (HL121_2.out) (fun k_ hk => ⟨⟨hk.1.1, hk.1.2⟩, hk.2⟩)))));(case aF => exact (fun k_ hk => ⟨(Nat.le_trans (keep_size (w := w) (g := g) (row := none) (by repeat (first | (with_reducible first | exact HK.out | apply KeepBut.set_ | apply keep_drewN | apply keep_drew | apply keep_alloc) | exact HK.out))) hk), IsS100.fresh (by repeat (first | (with_reducible first | exact HI0.out | apply IsS100.alloc | apply IsS100.drewN | apply IsS100.drew | apply IsS100.set_1) | exact HI0.out)) k_ hk⟩));(case aO => exact (by exact HO103.out));(case aS => exact (keep_size (w := w) (g := g) (row := none) (by repeat (first | (with_reducible first | exact HK.out | apply KeepBut.set_ | apply keep_drewN | apply keep_drew | apply keep_alloc) | exact HK.out))));(case aL => have := LMc38.out;omega);intro v123 w43 ho hb hg hat;rw [← Ny122.out] at ho;have n0_ := Aside0.mk (IsS100.grown (by repeat (first | (with_reducible first | exact HI0.out | apply IsS100.alloc | apply IsS100.drewN | apply IsS100.drew | apply IsS100.set_1) | exact HI0.out)) hg (IsS100.own_neN HI0.out HO103.out (by decide)));have n1_ := Aside0.mk (Kd.V_afterv (ok := (fun k_ => (w.heap.size ≤ k_) ∧ k_ ≠ g)) (by exact HL121_2.out) hg hat);have n2_ := Aside0.mk (below_weaken (by repeat (first | (with_reducible first | exact HB.out | apply below_alloc | apply pw_below_drewN | apply below_drew1 | refine below_set ?_ (IsS100.ge HI0.out)) | exact HB.out)) HL.out hb);have n3_ := Aside0.mk (KeepBut.trans (by repeat (first | (with_reducible first | exact HK.out | apply KeepBut.set_ | apply keep_drewN | apply keep_drew | apply keep_alloc) | exact HK.out)) (KeepBut.of_grown hg g) (Kd.N_base2 HO103.out));have n4_ := Aside0.mk (ho);clear HI0;clear HL121_2;clear HB;clear HK;clear HO103;have HI0 := n0_;have HL121_2 := n1_;have HB := n2_;have HK := n3_;have HO124 := n4_;clear n0_ n1_ n2_ n3_ n4_;clear ho hb hg hat))
       go_ret
       exact ⟨_, by first | rfl | (simp [errW_none, errW_some] <;> rfl) | (simp [*, errW_none, errW_some] <;> rfl), by (with_reducible repeat (first | apply Kd.N_alloc | apply Kd.N_drewN | apply Kd.N_drew));exact Kd.N_mono HO124.out (fun _ hk => hk.1), by repeat (first | (with_reducible first | exact HI0.out | apply IsS100.alloc | apply IsS100.drewN | apply IsS100.drew | apply IsS100.set_1) | exact HI0.out), by repeat (first | (with_reducible first | exact HB.out | apply below_alloc | apply pw_below_drewN | apply below_drew1 | refine below_set ?_ (IsS100.ge HI0.out)) | exact HB.out), by repeat (first | (with_reducible first | exact HK.out | apply KeepBut.set_ | apply keep_drewN | apply keep_drew | apply keep_alloc) | exact HK.out)⟩
      ·rw [if_neg c38] at H
       exact absurd H (by simp)
     ·rw [if_neg c37] at H
      exact absurd H (by simp)
    ·rw [if_neg c36] at H
     have c36b0 : (t107 == 2) = false := beq_eq_false_iff_ne.mpr c36
     have c36b1 : (t107 != 2) = true := bne_iff_ne.mpr c36
     by_cases c44 : t107 = 3
     ·rw [if_pos c44] at H
      have c44b0 : (t107 == 3) = true := beq_iff_eq.mpr c44
      have c44b1 : (t107 != 3) = false := bne_eq_false_iff_eq.mpr c44
      clear c44
      by_cases c45 : 0 ≤ t105
      ·rw [if_pos c45] at H
       have c45b0 : decide (0 ≤ t105) = true := decide_eq_true c45
       clear c45
       by_cases c46 : t105 < (t101.length : Int)
       ·rw [if_pos c46] at H
        have c46b0 : decide (t105 < (t101.length : Int)) = true := decide_eq_true c46
        clear c46
        obtain ⟨y125, hy125⟩ : ∃ y_ : List (S27), y_ = (t101.set (t105 : Int).toNat (⟨(rd_T27 t101 t105).f0, 2001, (rd_T27 t101 t105).f2⟩ : S27)) := ⟨_, rfl⟩
        replace H : (some (y125, t108)) = some (r1, r2) := by first | (rw [hy125];with_reducible exact H) | (have H2_ := (Option.bind_some _ _).symm.trans H;rw [hy125];with_reducible exact H2_) | (have H2_ := (Option.bind_some _ _).symm.trans H;with_reducible exact H2_) | with_reducible exact H | (rw [hy125];exact H) | exact H
        have Ny125 := Aside0.mk hy125
        clear hy125
        simp only [Option.some.injEq, Prod.mk.injEq] at H
        obtain ⟨rfl, rfl⟩ := H
        go_enter Try.func77, Try.ntmps77
        go_wp2_with (first | ((with_reducible refine gate_callee (f := 96) rfl ?_);refine goesL_ (some 6) rfl rfl Try.func96 (by kernel_rfl) rfl #[.pointer (some ⟨g, 0, none⟩), .int .i64 6] rfl (by (try simp only [List.map_toArray, List.map_cons, List.map_nil]);first | done | rfl | (simp only [List.length_drop, List.length_take];rfl)) ?_;(with_reducible refine (spec_l3Some.calls k g s0_0 s0_1 6 t101 t104 w0 _ ?side1 ?side2 A2.out).mono ?_);(case side1 => repeat (first | (with_reducible first | exact HI0.out | apply IsS100.alloc | apply IsS100.drewN | apply IsS100.drew | apply IsS100.set_1) | exact HI0.out));(case side2 => repeat (first | (with_reducible first | exact HB.out | apply below_alloc | apply pw_below_drewN | apply below_drew1 | refine below_set ?_ (IsS100.ge HI0.out)) | exact HB.out));rintro e w48 ⟨v102, rfl, ho0, hi, hb, hk⟩;refine ⟨_, rfl, ?_⟩;have HO103 := Aside0.mk (Kd.N_lower (Kd.N_mono (ok' := fun k_ => (w.heap.size ≤ k_) ∧ k_ ≠ g) (Kd.S_N (Kd.S_bound ho0)) (fun k_ hk_ => ⟨(Nat.le_trans (keep_size (w := w) (g := g) (row := none) (by repeat (first | (with_reducible first | exact HK.out | apply KeepBut.set_ | apply keep_drewN | apply keep_drew | apply keep_alloc) | exact HK.out))) hk_.2.1), (IsS100.fresh (by repeat (first | (with_reducible first | exact HI0.out | apply IsS100.alloc | apply IsS100.drewN | apply IsS100.drew | apply IsS100.set_1) | exact HI0.out)) k_ hk_.2.1)⟩)) (keep_size (w := w) (g := g) (row := none) (by repeat (first | (with_reducible first | exact HK.out | apply KeepBut.set_ | apply keep_drewN | apply keep_drew | apply keep_alloc) | exact HK.out))));replace HK := Aside0.mk (KeepBut.trans (by repeat (first | (with_reducible first | exact HK.out | apply KeepBut.set_ | apply keep_drewN | apply keep_drew | apply keep_alloc) | exact HK.out)) hk (.inl rfl));replace HB := Aside0.mk (hb);replace HI0 := Aside0.mk (hi);(try clear hb);(try clear hb2);(try clear hk);(try clear hi);(try clear ho0);obtain ⟨Ao49, co49, eo49⟩ := Kd.N_slice HO103.out;subst eo49) | ((with_reducible refine gate_callee (f := 74) rfl ?_);refine goesL_ (some 14) rfl rfl Try.func74 (by kernel_rfl) rfl #[.pointer (some ⟨g, 0, none⟩), .int .i64 (t101.length : Int)] rfl (by (try simp only [List.map_toArray, List.map_cons, List.map_nil]);first | done | rfl | (simp only [List.length_drop, List.length_take];rfl)) ?_;(with_reducible refine (spec_l14Rd_pick.calls k g s0_0 t104 (t101.length : Int) t105 t106 w0 _ ?side1 ?side2 A6.out).mono ?_);(case side1 => repeat (first | (with_reducible first | exact HI0.out | apply IsS100.alloc | apply IsS100.drewN | apply IsS100.drew | apply IsS100.set_1) | exact HI0.out));(case side2 => repeat (first | (with_reducible first | exact HB.out | apply below_alloc | apply pw_below_drewN | apply below_drew1 | refine below_set ?_ (IsS100.ge HI0.out)) | exact HB.out));rintro e w50 ⟨rfl, hi, hb, hk⟩;refine ⟨_, rfl, ?_⟩;replace HO103 := Aside0.mk (Kd.N_mono (Kd.N_keep (Kd.N_mono (ok := fun k_ => (((w.heap.size ≤ k_)) ∧ k_ ≠ g)) (by exact HO103.out) (fun k_ hk_ => (⟨hk_, hk_.2⟩ : _ ∧ k_ ≠ g))) hk (fun _ h => h.2)) (fun _ h => h.1));replace HK := Aside0.mk (KeepBut.trans (by repeat (first | (with_reducible first | exact HK.out | apply KeepBut.set_ | apply keep_drewN | apply keep_drew | apply keep_alloc) | exact HK.out)) hk (.inl rfl));replace HB := Aside0.mk (hb);replace HI0 := Aside0.mk (hi);(try clear hb);(try clear hb2);(try clear hk);(try clear hi)) | ((with_reducible refine gate_callee (f := 74) rfl ?_);refine goesL_ (some 16) rfl rfl Try.func74 (by kernel_rfl) rfl #[.pointer (some ⟨g, 0, none⟩), .int .i64 40] rfl (by (try simp only [List.map_toArray, List.map_cons, List.map_nil]);first | done | rfl | (simp only [List.length_drop, List.length_take];rfl)) ?_;(with_reducible refine (spec_l14Rd_pick.calls k g s0_0 t106 40 t107 t108 w0 _ ?side1 ?side2 A7.out).mono ?_);(case side1 => repeat (first | (with_reducible first | exact HI0.out | apply IsS100.alloc | apply IsS100.drewN | apply IsS100.drew | apply IsS100.set_1) | exact HI0.out));(case side2 => repeat (first | (with_reducible first | exact HB.out | apply below_alloc | apply pw_below_drewN | apply below_drew1 | refine below_set ?_ (IsS100.ge HI0.out)) | exact HB.out));rintro e w51 ⟨rfl, hi, hb, hk⟩;refine ⟨_, rfl, ?_⟩;replace HO103 := Aside0.mk (Kd.N_mono (Kd.N_keep (Kd.N_mono (ok := fun k_ => (((w.heap.size ≤ k_)) ∧ k_ ≠ g)) (by exact HO103.out) (fun k_ hk_ => (⟨hk_, hk_.2⟩ : _ ∧ k_ ≠ g))) hk (fun _ h => h.2)) (fun _ h => h.1));replace HK := Aside0.mk (KeepBut.trans (by repeat (first | (with_reducible first | exact HK.out | apply KeepBut.set_ | apply keep_drewN | apply keep_drew | apply keep_alloc) | exact HK.out)) hk (.inl rfl));replace HB := Aside0.mk (hb);replace HI0 := Aside0.mk (hi);(try clear hb);(try clear hb2);(try clear hk);(try clear hi);have p47 : 0 ≤ (t105 : Int) := of_decide_eq_true (by first | (with_reducible assumption) | assumption);have q47 : (t105 : Int) < ((t101.length : Int) : Int) := of_decide_eq_true (by first | (with_reducible assumption) | assumption);obtain ⟨go47, co47, eo47, gb47, gl47, cl47, HG47⟩ := Kd.N_form HO103.out (by omega);(first | cases eo47 | (injection eo47 with ea_ en_ ec_;(first | subst ea_ | (injection ea_ with ea_;subst ea_));subst ec_;clear en_));have GB47 := Aside0.mk gb47;have GG47 := Aside0.mk HG47;clear gb47 gl47 HG47;obtain ⟨ce47, hcl47, hM47, hcc47, hfr47⟩ := Kd.N_elem HO103.out z27 (t105 : Int) p47 q47;obtain ⟨ua47_2, uc47_2, rfl, ul47_2, ge47_2⟩ := k27_openF hM47;have hx47_0 : w51.cell? ⟨go47, (t105 : Int).toNat * 3, none⟩ = some (.int .i64 ((rd_T27 t101 t105).f0)) := hcc47 0 _ rfl;have hx47_1 : w51.cell? ⟨go47, (t105 : Int).toNat * 3 + 1, none⟩ = some (.int .i64 ((rd_T27 t101 t105).f1)) := hcc47 1 _ rfl;have hx47_2 : w51.cell? ⟨go47, (t105 : Int).toNat * 3 + 2, none⟩ = some (.slice ua47_2 ((rd_T27 t101 t105).f2).length uc47_2) := hcc47 2 _ rfl;have hf47_0 : w51.frozen? ⟨go47, (t105 : Int).toNat * 3, none⟩ = false := hfr47 0;have hf47_1 : w51.frozen? ⟨go47, (t105 : Int).toNat * 3 + 1, none⟩ = false := hfr47 1;have hf47_2 : w51.frozen? ⟨go47, (t105 : Int).toNat * 3 + 2, none⟩ = false := hfr47 2;clear hcl47 hcc47 hfr47 hM47;replace p47 := eq_true p47;replace q47 := eq_true q47;have HX52 := Aside0.mk (show Kd.N k27 27 w51 w.heap.size (fun k_ => (w.heap.size ≤ k_) ∧ k_ ≠ g) (.slice (some ⟨go47, 0, none⟩) t101.length co49) t101 from (by exact HO103.out));obtain ⟨ce52, hcl52, hM52, hcc52, hfr52⟩ := Kd.N_elem HX52.out z27 (t105 : Int) (of_decide_eq_true (by first | (with_reducible assumption) | assumption)) (by have h_ : (t105 : Int) < ((t101.length : Int) : Int) := of_decide_eq_true (by first | (with_reducible assumption) | assumption);first | exact h_ | (have e_ := (Kd.N_reads' HO103.out).1;omega) | simpa using h_);obtain ⟨ua52_2, uc52_2, rfl, ul52_2, ge52_2⟩ := k27_openF hM52;have HP52 := Kd.N_seg HX52.out (t105 : Int) (of_decide_eq_true (by first | (with_reducible assumption) | assumption)) (by have h_ : (t105 : Int) < ((t101.length : Int) : Int) := of_decide_eq_true (by first | (with_reducible assumption) | assumption);first | exact h_ | (have e_ := (Kd.N_reads' HO103.out).1;omega) | simpa using h_) (seg := [.int .i64 2001]) (j := 1) hcl52 hcc52 (show 2 ≤ 3 from by decide) (x' := (⟨(rd_T27 t101 t105).f0, 2001, (rd_T27 t101 t105).f2⟩ : S27)) (k27_mkF _ _ (⟨(rd_T27 t101 t105).f0, 2001, (rd_T27 t101 t105).f2⟩ : S27) ul52_2 ge52_2) (fun _ hk => hk);have hx52_1 := hcc52 1 _ rfl;(try simp only [show (k27).sz = 3 from rfl, Nat.mul_one, Nat.add_zero] at hx52_1);have hf52_1 := hfr52 1;(try simp only [show (k27).sz = 3 from rfl, Nat.mul_one, Nat.add_zero] at hf52_1);clear hcl52 hcc52 hfr52 hM52) | ((with_reducible refine gate_store (t := 3) (p := 53) rfl ?_);refine store_event (t := 3) (p := 53) (v := ?vo_w53) (w1 := (w51.setCell ⟨go47, (t105 : Int).toNat * 3 + 1, none⟩ (.int .i64 2001))) ?hg ?ho ?hn ?hr ?_;(case ho => rfl);(case hg => rfl);(case hn => rfl);(case hr => first | (go_simp;done) | (go_simp;rfl));intro w53 hw;have hg : w51.grownBy w53 (some go47) := (by rw [hw];exact HP52.2);have hp_ : Kd.N k27 27 w53 w.heap.size (fun k_ => (w.heap.size ≤ k_) ∧ k_ ≠ g) (.slice (some ⟨go47, 0, none⟩) t101.length co49) y125 := (by rw [hw, Ny125.out];exact HP52.1);clear HP52;replace HI0 := Aside0.mk (IsS100.grown (by repeat (first | (with_reducible first | exact HI0.out | apply IsS100.alloc | apply IsS100.drewN | apply IsS100.drew | apply IsS100.set_1) | exact HI0.out)) hg (IsS100.own_neN HI0.out HO103.out (by decide)));replace HB := Aside0.mk ((by rw [hw];exact below_set (HB.out) (Nat.le_trans HL.out GB47.out) : Below w0.heap.size w0 w53));replace HK := Aside0.mk (KeepBut.trans (by repeat (first | (with_reducible first | exact HK.out | apply KeepBut.set_ | apply keep_drewN | apply keep_drew | apply keep_alloc) | exact HK.out)) (KeepBut.of_grown hg g) (Kd.N_base2 HO103.out));replace HO103 := Aside0.mk (hp_);clear hg hw hp_))
        go_ret
        exact ⟨_, by first | rfl | (simp [errW_none, errW_some] <;> rfl) | (simp [*, errW_none, errW_some] <;> rfl), by (with_reducible repeat (first | apply Kd.N_alloc | apply Kd.N_drewN | apply Kd.N_drew));exact Kd.N_mono HO103.out (fun _ hk => hk.1), by repeat (first | (with_reducible first | exact HI0.out | apply IsS100.alloc | apply IsS100.drewN | apply IsS100.drew | apply IsS100.set_1) | exact HI0.out), by repeat (first | (with_reducible first | exact HB.out | apply below_alloc | apply pw_below_drewN | apply below_drew1 | refine below_set ?_ (IsS100.ge HI0.out)) | exact HB.out), by repeat (first | (with_reducible first | exact HK.out | apply KeepBut.set_ | apply keep_drewN | apply keep_drew | apply keep_alloc) | exact HK.out)⟩
       ·rw [if_neg c46] at H
        exact absurd H (by simp)
      ·rw [if_neg c45] at H
       exact absurd H (by simp)
     ·rw [if_neg c44] at H
      have c44b0 : (t107 == 3) = false := beq_eq_false_iff_ne.mpr c44
      have c44b1 : (t107 != 3) = true := bne_iff_ne.mpr c44
      simp only [Option.some.injEq, Prod.mk.injEq] at H
      obtain ⟨rfl, rfl⟩ := H
      go_enter Try.func77, Try.ntmps77
      go_wp2_with (first | ((with_reducible refine gate_callee (f := 96) rfl ?_);refine goesL_ (some 6) rfl rfl Try.func96 (by kernel_rfl) rfl #[.pointer (some ⟨g, 0, none⟩), .int .i64 6] rfl (by (try simp only [List.map_toArray, List.map_cons, List.map_nil]);first | done | rfl | (simp only [List.length_drop, List.length_take];rfl)) ?_;(with_reducible refine (spec_l3Some.calls k g s0_0 s0_1 6 t101 t104 w0 _ ?side1 ?side2 A2.out).mono ?_);(case side1 => repeat (first | (with_reducible first | exact HI0.out | apply IsS100.alloc | apply IsS100.drewN | apply IsS100.drew | apply IsS100.set_1) | exact HI0.out));(case side2 => repeat (first | (with_reducible first | exact HB.out | apply below_alloc | apply pw_below_drewN | apply below_drew1 | refine below_set ?_ (IsS100.ge HI0.out)) | exact HB.out));rintro e w54 ⟨v102, rfl, ho0, hi, hb, hk⟩;refine ⟨_, rfl, ?_⟩;have HO103 := Aside0.mk (Kd.N_lower (Kd.N_mono (ok' := fun k_ => (w.heap.size ≤ k_) ∧ k_ ≠ g) (Kd.S_N (Kd.S_bound ho0)) (fun k_ hk_ => ⟨(Nat.le_trans (keep_size (w := w) (g := g) (row := none) (by repeat (first | (with_reducible first | exact HK.out | apply KeepBut.set_ | apply keep_drewN | apply keep_drew | apply keep_alloc) | exact HK.out))) hk_.2.1), (IsS100.fresh (by repeat (first | (with_reducible first | exact HI0.out | apply IsS100.alloc | apply IsS100.drewN | apply IsS100.drew | apply IsS100.set_1) | exact HI0.out)) k_ hk_.2.1)⟩)) (keep_size (w := w) (g := g) (row := none) (by repeat (first | (with_reducible first | exact HK.out | apply KeepBut.set_ | apply keep_drewN | apply keep_drew | apply keep_alloc) | exact HK.out))));replace HK := Aside0.mk (KeepBut.trans (by repeat (first | (with_reducible first | exact HK.out | apply KeepBut.set_ | apply keep_drewN | apply keep_drew | apply keep_alloc) | exact HK.out)) hk (.inl rfl));replace HB := Aside0.mk (hb);replace HI0 := Aside0.mk (hi);(try clear hb);(try clear hb2);(try clear hk);(try clear hi);(try clear ho0);obtain ⟨Ao55, co55, eo55⟩ := Kd.N_slice HO103.out;subst eo55) | ((with_reducible refine gate_callee (f := 74) rfl ?_);refine goesL_ (some 14) rfl rfl Try.func74 (by kernel_rfl) rfl #[.pointer (some ⟨g, 0, none⟩), .int .i64 (t101.length : Int)] rfl (by (try simp only [List.map_toArray, List.map_cons, List.map_nil]);first | done | rfl | (simp only [List.length_drop, List.length_take];rfl)) ?_;(with_reducible refine (spec_l14Rd_pick.calls k g s0_0 t104 (t101.length : Int) t105 t106 w0 _ ?side1 ?side2 A6.out).mono ?_);(case side1 => repeat (first | (with_reducible first | exact HI0.out | apply IsS100.alloc | apply IsS100.drewN | apply IsS100.drew | apply IsS100.set_1) | exact HI0.out));(case side2 => repeat (first | (with_reducible first | exact HB.out | apply below_alloc | apply pw_below_drewN | apply below_drew1 | refine below_set ?_ (IsS100.ge HI0.out)) | exact HB.out));rintro e w56 ⟨rfl, hi, hb, hk⟩;refine ⟨_, rfl, ?_⟩;replace HO103 := Aside0.mk (Kd.N_mono (Kd.N_keep (Kd.N_mono (ok := fun k_ => (((w.heap.size ≤ k_)) ∧ k_ ≠ g)) (by exact HO103.out) (fun k_ hk_ => (⟨hk_, hk_.2⟩ : _ ∧ k_ ≠ g))) hk (fun _ h => h.2)) (fun _ h => h.1));replace HK := Aside0.mk (KeepBut.trans (by repeat (first | (with_reducible first | exact HK.out | apply KeepBut.set_ | apply keep_drewN | apply keep_drew | apply keep_alloc) | exact HK.out)) hk (.inl rfl));replace HB := Aside0.mk (hb);replace HI0 := Aside0.mk (hi);(try clear hb);(try clear hb2);(try clear hk);(try clear hi)) | ((with_reducible refine gate_callee (f := 74) rfl ?_);refine goesL_ (some 16) rfl rfl Try.func74 (by kernel_rfl) rfl #[.pointer (some ⟨g, 0, none⟩), .int .i64 40] rfl (by (try simp only [List.map_toArray, List.map_cons, List.map_nil]);first | done | rfl | (simp only [List.length_drop, List.length_take];rfl)) ?_;(with_reducible refine (spec_l14Rd_pick.calls k g s0_0 t106 40 t107 t108 w0 _ ?side1 ?side2 A7.out).mono ?_);(case side1 => repeat (first | (with_reducible first | exact HI0.out | apply IsS100.alloc | apply IsS100.drewN | apply IsS100.drew | apply IsS100.set_1) | exact HI0.out));(case side2 => repeat (first | (with_reducible first | exact HB.out | apply below_alloc | apply pw_below_drewN | apply below_drew1 | refine below_set ?_ (IsS100.ge HI0.out)) | exact HB.out));rintro e w57 ⟨rfl, hi, hb, hk⟩;refine ⟨_, rfl, ?_⟩;replace HO103 := Aside0.mk (Kd.N_mono (Kd.N_keep (Kd.N_mono (ok := fun k_ => (((w.heap.size ≤ k_)) ∧ k_ ≠ g)) (by exact HO103.out) (fun k_ hk_ => (⟨hk_, hk_.2⟩ : _ ∧ k_ ≠ g))) hk (fun _ h => h.2)) (fun _ h => h.1));replace HK := Aside0.mk (KeepBut.trans (by repeat (first | (with_reducible first | exact HK.out | apply KeepBut.set_ | apply keep_drewN | apply keep_drew | apply keep_alloc) | exact HK.out)) hk (.inl rfl));replace HB := Aside0.mk (hb);replace HI0 := Aside0.mk (hi);(try clear hb);(try clear hb2);(try clear hk);(try clear hi)))
      go_ret
      exact ⟨_, by first | rfl | (simp [errW_none, errW_some] <;> rfl) | (simp [*, errW_none, errW_some] <;> rfl), by (with_reducible repeat (first | apply Kd.N_alloc | apply Kd.N_drewN | apply Kd.N_drew));exact Kd.N_mono HO103.out (fun _ hk => hk.1), by repeat (first | (with_reducible first | exact HI0.out | apply IsS100.alloc | apply IsS100.drewN | apply IsS100.drew | apply IsS100.set_1) | exact HI0.out), by repeat (first | (with_reducible first | exact HB.out | apply below_alloc | apply pw_below_drewN | apply below_drew1 | refine below_set ?_ (IsS100.ge HI0.out)) | exact HB.out), by repeat (first | (with_reducible first | exact HK.out | apply KeepBut.set_ | apply keep_drewN | apply keep_drew | apply keep_alloc) | exact HK.out)⟩

end Go.Proofs.Ytiplpckgmikmeaa.M
namespace Go.Proofs.Ytiplpckgmikmeaa.M
open Go.RowKit Go.Proofs.YtiplpckgmikmeaaW.PrintWords Go.Proofs.YtiplpckgmikmeaaW.PrintLast Go.Proofs.YtiplpckgmikmeaaW.PrintMore
attribute [local go_sem] max2_int min2_int max_two min_two max_three min_three max_four min_four
set_option linter.unusedVariables false
set_option linter.unusedSimpArgs false

def spec_DrawPlusOf.f (k : Nat) (l0 : List Int) : Option ((List (S27)) × Int × Int) := (spec_l14Open.f l0).bind fun bt101 => ((spec_l3Bent.f k bt101.1 bt101.2).bind fun bt104 => ((spec_l14Rd_num.f k bt101.1 bt104.2 (([1, 2, 5, 20, 0, 21] : List Int))).bind fun bt111 => ((spec_l14Rd_num.f k bt101.1 bt111.2 (([6, 10, 20, 2000, 0, (-1)] : List Int))).bind fun bt116 => (some (bt104.1, bt111.1, bt116.1)))))
set_option maxHeartbeats 8000000 in
set_option maxRecDepth 100000 in
theorem spec_DrawPlusOf.calls (k : Nat) (A0 : Option Addr) (c0 : Nat) (l0 : List Int) (r1 : List (S27)) (r2 : Int) (r3 : Int) (w : World) (hr0 : Kd.C (Kd.int .u8) w A0 l0.length l0) (hc0 : l0.length ≤ c0) (h : spec_DrawPlusOf.f k l0 = some (r1, r2, r3)) :
  Calls Try.prog 60 #[.slice A0 l0.length c0] w fun e w' => ∃ v0_ : Value, e = .returned (.tuple #[v0_, .int .i64 r2, .int .i64 r3]) ∧ Kd.N k27 27 w' w.heap.size (fun k_ => (w.heap.size ≤ k_)) v0_ r1 ∧ Below w.heap.size w w' := by
 have HR0 := Aside0.mk hr0
 have HC0 := Aside0.mk hc0
 clear hr0 hc0
 have HB := Aside0.mk (Below.refl w.heap.size w)
 have H : ((spec_l14Open.f l0).bind fun bt101 => ((spec_l3Bent.f k bt101.1 bt101.2).bind fun bt104 => ((spec_l14Rd_num.f k bt101.1 bt104.2 (([1, 2, 5, 20, 0, 21] : List Int))).bind fun bt111 => ((spec_l14Rd_num.f k bt101.1 bt111.2 (([6, 10, 20, 2000, 0, (-1)] : List Int))).bind fun bt116 => (some (bt104.1, bt111.1, bt116.1)))))) = some (r1, r2, r3) := h
 clear h
 replace H := Option.bind_eq_some_iff.mp H
 obtain ⟨⟨t101, t102⟩, A20, H⟩ := H
 replace H : ((spec_l3Bent.f k t101 t102).bind fun bt104 => ((spec_l14Rd_num.f k t101 bt104.2 (([1, 2, 5, 20, 0, 21] : List Int))).bind fun bt111 => ((spec_l14Rd_num.f k t101 bt111.2 (([6, 10, 20, 2000, 0, (-1)] : List Int))).bind fun bt116 => (some (bt104.1, bt111.1, bt116.1))))) = some (r1, r2, r3) := H
 have A2 := Aside0.mk A20
 clear A20
 replace H := Option.bind_eq_some_iff.mp H
 obtain ⟨⟨t104, t107⟩, A30, H⟩ := H
 replace H : ((spec_l14Rd_num.f k t101 t107 (([1, 2, 5, 20, 0, 21] : List Int))).bind fun bt111 => ((spec_l14Rd_num.f k t101 bt111.2 (([6, 10, 20, 2000, 0, (-1)] : List Int))).bind fun bt116 => (some (t104, bt111.1, bt116.1)))) = some (r1, r2, r3) := H
 have A3 := Aside0.mk A30
 clear A30
 obtain ⟨y108, hy108⟩ : ∃ y_ : List Int, y_ = (([1, 2, 5, 20, 0, 21] : List Int)) := ⟨_, rfl⟩
 replace H : ((spec_l14Rd_num.f k t101 t107 y108).bind fun bt111 => ((spec_l14Rd_num.f k t101 bt111.2 (([6, 10, 20, 2000, 0, (-1)] : List Int))).bind fun bt116 => (some (t104, bt111.1, bt116.1)))) = some (r1, r2, r3) := by first | (rw [hy108];with_reducible exact H) | (have H2_ := (Option.bind_some _ _).symm.trans H;rw [hy108];with_reducible exact H2_) | (have H2_ := (Option.bind_some _ _).symm.trans H;with_reducible exact H2_) | with_reducible exact H | (rw [hy108];exact H) | exact H
 have Ny108 := Aside0.mk hy108
 clear hy108
 replace H := Option.bind_eq_some_iff.mp H
 obtain ⟨⟨t111, t112⟩, A40, H⟩ := H
 replace H : ((spec_l14Rd_num.f k t101 t112 (([6, 10, 20, 2000, 0, (-1)] : List Int))).bind fun bt116 => (some (t104, t111, bt116.1))) = some (r1, r2, r3) := H
 have A4 := Aside0.mk A40
 clear A40
 obtain ⟨y113, hy113⟩ : ∃ y_ : List Int, y_ = (([6, 10, 20, 2000, 0, (-1)] : List Int)) := ⟨_, rfl⟩
 replace H : ((spec_l14Rd_num.f k t101 t112 y113).bind fun bt116 => (some (t104, t111, bt116.1))) = some (r1, r2, r3) := by first | (rw [hy113];with_reducible exact H) | (have H2_ := (Option.bind_some _ _).symm.trans H;rw [hy113];with_reducible exact H2_) | (have H2_ := (Option.bind_some _ _).symm.trans H;with_reducible exact H2_) | with_reducible exact H | (rw [hy113];exact H) | exact H
 have Ny113 := Aside0.mk hy113
 clear hy113
 replace H := Option.bind_eq_some_iff.mp H
 obtain ⟨⟨t116, t117⟩, A50, H⟩ := H
 replace H : (some (t104, t111, t116)) = some (r1, r2, r3) := H
 have A5 := Aside0.mk A50
 clear A50
 simp only [Option.some.injEq, Prod.mk.injEq] at H
 obtain ⟨rfl, rfl, rfl⟩ := H
 go_enter Try.func60, Try.ntmps60
 go_wp2_with (first | ((with_reducible refine gate_callee (f := 72) rfl ?_);refine goesL_ (some 8) rfl rfl Try.func72 (by kernel_rfl) rfl #[.slice A0 l0.length c0] rfl (by (try simp only [List.map_toArray, List.map_cons, List.map_nil]);first | done | rfl | (simp only [List.length_drop, List.length_take];rfl)) ?_;(with_reducible refine (spec_l14Open.calls _ _ l0 t101 t102 w _ ?side1 ?side2 ?side3 A2.out).mono ?_);(case side1 => repeat (first | (with_reducible first | exact HB.out | apply below_alloc | apply pw_below_drewN | apply below_drew1) | exact HB.out));(case side2 => exact HR0.out);(case side3 => exact HC0.out);rintro e w6 ⟨g103, rfl, hi, hb, hb2⟩;refine ⟨_, rfl, ?_⟩;replace HB := Aside0.mk (hb);have HI103 := Aside0.mk (hi);(try clear hb);(try clear hb2);(try clear hk);(try clear hi)) | ((with_reducible refine gate_callee (f := 77) rfl ?_);refine goesL_ (some 10) rfl rfl Try.func77 (by kernel_rfl) rfl #[.pointer (some ⟨g103, 0, none⟩)] rfl (by (try simp only [List.map_toArray, List.map_cons, List.map_nil]);first | done | rfl | (simp only [List.length_drop, List.length_take];rfl)) ?_;(with_reducible refine (spec_l3Bent.calls k g103 t101 t102 t104 t107 w _ ?side1 ?side2 A3.out).mono ?_);(case side1 => repeat (first | (with_reducible first | exact HI103.out | apply IsS100.alloc | apply IsS100.drewN | apply IsS100.drew | apply IsS100.set_1) | exact HI103.out));(case side2 => repeat (first | (with_reducible first | exact HB.out | apply below_alloc | apply pw_below_drewN | apply below_drew1 | refine below_set ?_ (IsS100.ge HI103.out)) | exact HB.out));rintro e w7 ⟨v105, rfl, ho0, hi, hb, hk⟩;refine ⟨_, rfl, ?_⟩;have HO106 := Aside0.mk (Kd.N_lower (Kd.N_mono (ok' := fun k_ => (w.heap.size ≤ k_) ∧ k_ ≠ g103) ho0 (fun k_ hk_ => ⟨(Nat.le_trans (below_size (by repeat (first | (with_reducible first | exact HB.out | apply below_alloc | apply pw_below_drewN | apply below_drew1 | refine below_set ?_ (IsS100.ge HI103.out)) | exact HB.out))) hk_), (IsS100.fresh (by repeat (first | (with_reducible first | exact HI103.out | apply IsS100.alloc | apply IsS100.drewN | apply IsS100.drew | apply IsS100.set_1) | exact HI103.out)) k_ hk_)⟩)) (below_size (by repeat (first | (with_reducible first | exact HB.out | apply below_alloc | apply pw_below_drewN | apply below_drew1 | refine below_set ?_ (IsS100.ge HI103.out)) | exact HB.out))));replace HB := Aside0.mk (hb);replace HI103 := Aside0.mk (hi);(try clear hb);(try clear hb2);(try clear hk);(try clear hi);(try clear ho0)) | ((with_reducible refine gate_dst (N := 13) rfl ?_);refine Kd.R_lit (Kd.int .i64) _ 3 ?hg (N := 13) ?hd (xs := ([1, 2, 5, 20, 0, 21] : List Int)) (inner := [.int .i64 1, .int .i64 2, .int .i64 5, .int .i64 20, .int .i64 0, .int .i64 21]) (ok := fun _ => True) (okp := fun _ => True) ?hr ?hp (fun _ hk => hk) trivial (Below.refl _ _) (Nat.le_refl _) (by simp) ?_;(case hd => rfl);(case hg => rfl);(case hr => first | (go_simp;done) | (go_simp;rfl));(case hp => exact (Reps.one (show Kd.M (Kd.int .i64) _ _ _ 1 [.int .i64 1] from rfl) (Reps.one (show Kd.M (Kd.int .i64) _ _ _ 2 [.int .i64 2] from rfl) (Reps.one (show Kd.M (Kd.int .i64) _ _ _ 5 [.int .i64 5] from rfl) (Reps.one (show Kd.M (Kd.int .i64) _ _ _ 20 [.int .i64 20] from rfl) (Reps.one (show Kd.M (Kd.int .i64) _ _ _ 0 [.int .i64 0] from rfl) (Reps.one (show Kd.M (Kd.int .i64) _ _ _ 21 [.int .i64 21] from rfl) (Reps.none _ _))))))));intro v109 w8 ho9 hb hg_ hnew_;clear hg_ hnew_;(first | rw [← Ny108.out] at ho9 | (simp only [Int.reduceToNat] at ho9;rw [← Ny108.out] at ho9));replace HO106 := Aside0.mk (Kd.N_elder' (by exact HO106.out) (Kd.R_base ho9) hb);have HO110 := Aside0.mk (Kd.R_lower (Kd.R_newM (M := fun k_ => (w.heap.size ≤ k_)) ho9 (below_size (by repeat (first | (with_reducible first | exact HB.out | apply below_alloc | apply pw_below_drewN | apply below_drew1 | refine below_set ?_ (IsS100.ge HI103.out)) | exact HB.out))) (fun k_ h_ => h_)) (below_size (by repeat (first | (with_reducible first | exact HB.out | apply below_alloc | apply pw_below_drewN | apply below_drew1 | refine below_set ?_ (IsS100.ge HI103.out)) | exact HB.out))));replace HB := Aside0.mk (below_step (by repeat (first | (with_reducible first | exact HB.out | apply below_alloc | apply pw_below_drewN | apply below_drew1 | refine below_set ?_ (IsS100.ge HI103.out)) | exact HB.out)) hb);replace HI103 := Aside0.mk (IsS100.below (by repeat (first | (with_reducible first | exact HI103.out | apply IsS100.alloc | apply IsS100.drewN | apply IsS100.drew | apply IsS100.set_1) | exact HI103.out)) hb);clear hb ho9;obtain ⟨Ao10, co10, eo10⟩ := Kd.R_slice HO110.out;subst eo10) | ((with_reducible refine gate_callee (f := 91) rfl ?_);refine goesL_ (some 14) rfl rfl Try.func91 (by kernel_rfl) rfl #[.pointer (some ⟨g103, 0, none⟩), .slice Ao10 y108.length co10] rfl (by (try simp only [List.map_toArray, List.map_cons, List.map_nil]);first | done | rfl | (simp only [List.length_drop, List.length_take];rfl)) ?_;(with_reducible refine (spec_l14Rd_num.calls k g103 t101 t107 _ _ y108 t111 t112 w _ ?side1 ?side2 ?side3 ?side4 ?side5 A4.out).mono ?_);(case side1 => repeat (first | (with_reducible first | exact HI103.out | apply IsS100.alloc | apply IsS100.drewN | apply IsS100.drew | apply IsS100.set_1) | exact HI103.out));(case side2 => repeat (first | (with_reducible first | exact HB.out | apply below_alloc | apply pw_below_drewN | apply below_drew1 | refine below_set ?_ (IsS100.ge HI103.out)) | exact HB.out));(case side3 => repeat (first | exact (Kd.R_reads' HO110.out).2.2 | (with_reducible refine Kd.C_alloc ?_ _) | (with_reducible refine Kd.C_drewN ?_ _) | (with_reducible refine Kd.C_drew ?_)));(case side4 => exact (Kd.R_reads' HO110.out).2.1);(case side5 => exact far_slice (IsS100.own_ne HI103.out HO110.out (by decide)));rintro e w11 ⟨rfl, hi, hb, hk⟩;refine ⟨_, rfl, ?_⟩;replace HO106 := Aside0.mk (Kd.N_mono (Kd.N_keep (Kd.N_mono (ok := fun k_ => ((((w.heap.size ≤ k_)) ∧ k_ ≠ g103) ∧ some k_ ≠ (.slice Ao10 y108.length co10 : Value).ownBlock)) (by exact HO106.out) (fun k_ hk_ => (⟨hk_, hk_.1.2⟩ : _ ∧ k_ ≠ g103))) hk (fun _ h => h.2)) (fun _ h => h.1));replace HO110 := Aside0.mk (Kd.R_mono (Kd.R_keep (IsS100.apart (show IsS100 w _ g103 t101 t107 from by repeat (first | (with_reducible first | exact HI103.out | apply IsS100.alloc | apply IsS100.drewN | apply IsS100.drew | apply IsS100.set_1) | exact HI103.out)) (by exact HO110.out) (by decide)) hk (fun _ h => h.2)) (fun _ h => h.1));replace HB := Aside0.mk (hb);replace HI103 := Aside0.mk (hi);(try clear hb);(try clear hb2);(try clear hk);(try clear hi)) | ((with_reducible refine gate_dst (N := 16) rfl ?_);refine Kd.R_lit (Kd.int .i64) _ 3 ?hg (N := 16) ?hd (xs := ([6, 10, 20, 2000, 0, (-1)] : List Int)) (inner := [.int .i64 6, .int .i64 10, .int .i64 20, .int .i64 2000, .int .i64 0, .int .i64 (-1)]) (ok := fun _ => True) (okp := fun _ => True) ?hr ?hp (fun _ hk => hk) trivial (Below.refl _ _) (Nat.le_refl _) (by simp) ?_;(case hd => rfl);(case hg => rfl);(case hr => first | (go_simp;done) | (go_simp;rfl));(case hp => exact (Reps.one (show Kd.M (Kd.int .i64) _ _ _ 6 [.int .i64 6] from rfl) (Reps.one (show Kd.M (Kd.int .i64) _ _ _ 10 [.int .i64 10] from rfl) (Reps.one (show Kd.M (Kd.int .i64) _ _ _ 20 [.int .i64 20] from rfl) (Reps.one (show Kd.M (Kd.int .i64) _ _ _ 2000 [.int .i64 2000] from rfl) (Reps.one (show Kd.M (Kd.int .i64) _ _ _ 0 [.int .i64 0] from rfl) (Reps.one (show Kd.M (Kd.int .i64) _ _ _ (-1) [.int .i64 (-1)] from rfl) (Reps.none _ _))))))));intro v114 w12 ho13 hb hg_ hnew_;clear hg_ hnew_;(first | rw [← Ny113.out] at ho13 | (simp only [Int.reduceToNat] at ho13;rw [← Ny113.out] at ho13));replace HO106 := Aside0.mk (Kd.N_elder' (by exact HO106.out) (Kd.R_base ho13) hb);have HO115 := Aside0.mk (Kd.R_lower (Kd.R_new' (Kd.R_newM (M := fun k_ => (w.heap.size ≤ k_)) ho13 (below_size (by repeat (first | (with_reducible first | exact HB.out | apply below_alloc | apply pw_below_drewN | apply below_drew1 | refine below_set ?_ (IsS100.ge HI103.out)) | exact HB.out))) (fun k_ h_ => h_)) (Kd.R_lt (by exact HO110.out))) (below_size (by repeat (first | (with_reducible first | exact HB.out | apply below_alloc | apply pw_below_drewN | apply below_drew1 | refine below_set ?_ (IsS100.ge HI103.out)) | exact HB.out))));replace HO110 := Aside0.mk (Kd.R_elder' (by exact HO110.out) (Kd.R_base ho13) hb);replace HB := Aside0.mk (below_step (by repeat (first | (with_reducible first | exact HB.out | apply below_alloc | apply pw_below_drewN | apply below_drew1 | refine below_set ?_ (IsS100.ge HI103.out)) | exact HB.out)) hb);replace HI103 := Aside0.mk (IsS100.below (by repeat (first | (with_reducible first | exact HI103.out | apply IsS100.alloc | apply IsS100.drewN | apply IsS100.drew | apply IsS100.set_1) | exact HI103.out)) hb);clear hb ho13;obtain ⟨Ao14, co14, eo14⟩ := Kd.R_slice HO115.out;subst eo14) | ((with_reducible refine gate_callee (f := 91) rfl ?_);refine goesL_ (some 17) rfl rfl Try.func91 (by kernel_rfl) rfl #[.pointer (some ⟨g103, 0, none⟩), .slice Ao14 y113.length co14] rfl (by (try simp only [List.map_toArray, List.map_cons, List.map_nil]);first | done | rfl | (simp only [List.length_drop, List.length_take];rfl)) ?_;(with_reducible refine (spec_l14Rd_num.calls k g103 t101 t112 _ _ y113 t116 t117 w _ ?side1 ?side2 ?side3 ?side4 ?side5 A5.out).mono ?_);(case side1 => repeat (first | (with_reducible first | exact HI103.out | apply IsS100.alloc | apply IsS100.drewN | apply IsS100.drew | apply IsS100.set_1) | exact HI103.out));(case side2 => repeat (first | (with_reducible first | exact HB.out | apply below_alloc | apply pw_below_drewN | apply below_drew1 | refine below_set ?_ (IsS100.ge HI103.out)) | exact HB.out));(case side3 => repeat (first | exact (Kd.R_reads' HO115.out).2.2 | (with_reducible refine Kd.C_alloc ?_ _) | (with_reducible refine Kd.C_drewN ?_ _) | (with_reducible refine Kd.C_drew ?_)));(case side4 => exact (Kd.R_reads' HO115.out).2.1);(case side5 => exact far_slice (IsS100.own_ne HI103.out HO115.out (by decide)));rintro e w15 ⟨rfl, hi, hb, hk⟩;refine ⟨_, rfl, ?_⟩;replace HO106 := Aside0.mk (Kd.N_mono (Kd.N_keep (Kd.N_mono (ok := fun k_ => (((((w.heap.size ≤ k_)) ∧ k_ ≠ g103) ∧ some k_ ≠ (.slice Ao10 y108.length co10 : Value).ownBlock) ∧ some k_ ≠ (.slice Ao14 y113.length co14 : Value).ownBlock)) (by exact HO106.out) (fun k_ hk_ => (⟨hk_, hk_.1.1.2⟩ : _ ∧ k_ ≠ g103))) hk (fun _ h => h.2)) (fun _ h => h.1));replace HO110 := Aside0.mk (Kd.R_mono (Kd.R_keep (IsS100.apart (show IsS100 w _ g103 t101 t112 from by repeat (first | (with_reducible first | exact HI103.out | apply IsS100.alloc | apply IsS100.drewN | apply IsS100.drew | apply IsS100.set_1) | exact HI103.out)) (by exact HO110.out) (by decide)) hk (fun _ h => h.2)) (fun _ h => h.1));replace HO115 := Aside0.mk (Kd.R_mono (Kd.R_keep (IsS100.apart (show IsS100 w _ g103 t101 t112 from by repeat (first | (with_reducible first | exact HI103.out | apply IsS100.alloc | apply IsS100.drewN | apply IsS100.drew | apply IsS100.set_1) | exact HI103.out)) (by exact HO115.out) (by decide)) hk (fun _ h => h.2)) (fun _ h => h.1));replace HB := Aside0.mk (hb);replace HI103 := Aside0.mk (hi);(try clear hb);(try clear hb2);(try clear hk);(try clear hi)))
 go_ret3
 exact ⟨_, by first | rfl | (simp [errW_none, errW_some] <;> rfl) | (simp [*, errW_none, errW_some] <;> rfl), by (with_reducible repeat (first | apply Kd.N_alloc | apply Kd.N_drewN | apply Kd.N_drew));exact Kd.N_mono HO106.out (fun _ hk => hk.1.1.1), by repeat (first | (with_reducible first | exact HB.out | apply below_alloc | apply pw_below_drewN | apply below_drew1 | refine below_set ?_ (IsS100.ge HI103.out)) | exact HB.out)⟩

end Go.Proofs.Ytiplpckgmikmeaa.M
namespace Go.Proofs.Ytiplpckgmikmeaa.M
open Go.RowKit Go.Proofs.YtiplpckgmikmeaaW.PrintWords Go.Proofs.YtiplpckgmikmeaaW.PrintLast Go.Proofs.YtiplpckgmikmeaaW.PrintMore
attribute [local go_sem] max2_int min2_int max_two min_two max_three min_three max_four min_four
set_option linter.unusedVariables false
set_option linter.unusedSimpArgs false

def impl_later.f (a0_0 : Int) (a0_1 : Int) (l0_2 : List Int) (a1 : Int) : Option (Int × Int × List Int) := (impl_Occ_clone.f a0_0 a0_1 l0_2).bind fun t => some (t.1, wrap64 (t.2.1 + a1), t.2.2)
set_option maxHeartbeats 4000000 in
set_option maxRecDepth 100000 in
theorem impl_later.calls (a0_0 : Int) (a0_1 : Int) (A0_2 : Option Addr) (c0_2 : Nat) (l0_2 : List Int) (a1 : Int) (r1 : Int) (r2 : Int) (r3 : List Int) (w : World) (hr0_2 : Kd.C (Kd.int .i64) w A0_2 l0_2.length l0_2) (hc0_2 : l0_2.length ≤ c0_2) (h : impl_later.f a0_0 a0_1 l0_2 a1 = some (r1, r2, r3)) :
  Calls Try.prog 92 #[.agg #[.int .i64 a0_0, .int .i64 a0_1, .slice A0_2 l0_2.length c0_2], .int .i64 a1] w fun e w' => ∃ v2_ : Value, e = .returned (.agg #[.int .i64 r1, .int .i64 r2, v2_]) ∧ Kd.R (Kd.int .i64) 3 w' w.heap.size (fun _ => True) v2_ r3 ∧ Below w.heap.size w w' := by
 unfold impl_later.f at h
 obtain ⟨⟨b0, b1, b2⟩, hY, h⟩ := Option.bind_eq_some_iff.1 h
 simp only [Option.some.injEq, Prod.mk.injEq] at h
 obtain ⟨rfl, rfl, rfl⟩ := h
 have HY := Aside0.mk hY
 have HR := Aside0.mk hr0_2
 have HC := Aside0.mk hc0_2
 have HB := Aside0.mk (Below.refl w.heap.size w)
 clear hY hr0_2 hc0_2
 go_enter Try.func92, Try.ntmps92
 go_upto_region 1 with (first | ((with_reducible refine gate_dst (N := 2) rfl ?_);refine box_event ?hg (N := 2) ?hd (cs := #[.int .i64 a0_0, .int .i64 a0_1, .slice A0_2 l0_2.length c0_2]) (t := 27) ?hr ?_;(case hd => rfl);(case hg => rfl);(case hr => first | (go_simp;done) | (go_simp;rfl));intro gb1 hg wb1 hbox hb;have BK1 := Aside0.mk (hbox);have GE1 := Aside0.mk ((by rw [hg];exact below_size HB.out : w.heap.size ≤ gb1));replace HB := Aside0.mk (below_step HB.out hb);clear hb hbox hg) | ((with_reducible refine gate_dst (N := 4) rfl ?_);refine box_event ?hg (N := 4) ?hd (cs := #[.int .i64 0, .int .i64 0, .slice none 0 0]) (t := 27) ?hr ?_;(case hd => rfl);(case hg => rfl);(case hr => first | (go_simp;done) | (go_simp;rfl));intro gb2 hg wb2 hbox hb;have BK2 := Aside0.mk (hbox);have GE2 := Aside0.mk ((by rw [hg];exact below_size HB.out : w.heap.size ≤ gb2));replace HB := Aside0.mk (below_step HB.out hb);have NB1_2 := Aside0.mk ((by rw [hg];exact Nat.ne_of_lt (blk_lt BK1.out) : gb1 ≠ gb2));have NB2_1 := Aside0.mk ((by rw [hg];exact Nat.ne_of_gt (blk_lt BK1.out) : gb2 ≠ gb1));replace BK1 := Aside0.mk (blk_below BK1.out hb);clear hb hbox hg))
 have hz0 := (blk_cell BK1.out 0).trans (show _ = some (Value.int .i64 a0_0) from rfl)
 have hz1 := (blk_cell BK1.out 1).trans (show _ = some (Value.int .i64 a0_1) from rfl)
 have hz2 := (blk_cell BK1.out 2).trans (show _ = some (Value.slice A0_2 l0_2.length c0_2) from rfl)
 go_wp2_with (go_at_call 104;fail)
 clear hz0 hz1 hz2
 have HL1 := Aside0.mk (blk_lt BK1.out)
 have HL2 := Aside0.mk (blk_lt BK2.out)
 refine (impl_Occ_clone.calls a0_0 a0_1 A0_2 c0_2 l0_2 b0 b1 b2 _ (Kd.C_below HR.out HB.out) HC.out HY.out).mono ?_
 rintro e w1 ⟨v3, rfl, hv, hb⟩
 obtain ⟨A3, c3, e3, hl3, hr3⟩ := Kd.R_reads hv
 subst e3
 have HV := Aside0.mk (Kd.R_lower (Kd.R_mono (ok' := fun k => wb2.heap.size ≤ k ∧ k < w1.heap.size) (Kd.R_bound hv) (fun k hk => ⟨hk.2.1, hk.2.2.1⟩)) HB.out.size)
 clear hv hr3 hl3
 have HS1 := Aside0.mk (show w.heap.size ≤ w1.heap.size from (below_step HB.out hb).size)
 have n0_ := Aside0.mk (blk_below BK1.out hb)
 have n1_ := Aside0.mk (blk_below BK2.out hb)
 have n2_ := Aside0.mk (below_step HB.out hb)
 clear BK1 BK2 HB hb
 have BK1 := n0_
 have BK2 := n1_
 have HB := n2_
 clear n0_ n1_ n2_
 go_upto_region 2 with (first | ((with_reducible refine gate_store (t := 27) (p := 2) (v := .tmp 6) rfl ?_);refine store_blk (w0 := w) (base := w.heap.size) (e := 27) (g := gb1) (off := 0) (cur := #[.int .i64 a0_0, .int .i64 a0_1, .slice A0_2 l0_2.length c0_2]) (cur' := #[.int .i64 b0, .int .i64 b1, .slice A3 b2.length c3]) (u := .agg #[.int .i64 b0, .int .i64 b1, .slice A3 b2.length c3]) (seg := [.int .i64 b0, .int .i64 b1, .slice A3 b2.length c3]) rfl rfl rfl rfl rfl BK1.out rfl ?ht ?h1 (by simp) rfl HB.out GE1.out ?_;(case ht => kernel_rfl);(case h1 => intro q hq;simp only [List.mem_cons, List.not_mem_nil, or_false] at hq;first | (rcases hq with rfl | rfl | rfl <;> rfl) | (rcases hq with rfl | rfl <;> rfl) | (subst hq;rfl));intro ws_ hs_ hk_ hB_;replace BK1 := Aside0.mk (hs_);replace HB := Aside0.mk (hB_);replace HV := Aside0.mk (Kd.R_keep HV.out hk_ (fun k hk e => by have h1 := hk.1;have h2 := hk.2;have := HL1.out;have := HL2.out;omega));replace BK2 := Aside0.mk (blk_keep BK2.out hk_ NB2_1.out);clear hs_ hk_ hB_))
 have hz0 := (blk_cell BK1.out 0).trans (show _ = some (Value.int .i64 b0) from rfl)
 have hz1 := (blk_cell BK1.out 1).trans (show _ = some (Value.int .i64 b1) from rfl)
 have hz2 := (blk_cell BK1.out 2).trans (show _ = some (Value.slice A3 b2.length c3) from rfl)
 go_upto_region 3 with (first | ((with_reducible refine gate_store (t := 3) (p := 11) (v := .tmp 10) rfl ?_);refine store_blk (w0 := w) (base := w.heap.size) (e := 27) (g := gb1) (off := 1) (cur := #[.int .i64 b0, .int .i64 b1, .slice A3 b2.length c3]) (cur' := #[.int .i64 b0, .int .i64 (wrap64 (b1 + a1)), .slice A3 b2.length c3]) (u := .int .i64 (wrap64 (b1 + a1))) (seg := [.int .i64 (wrap64 (b1 + a1))]) rfl rfl rfl rfl rfl BK1.out rfl ?ht ?h1 (by simp) rfl HB.out GE1.out ?_;(case ht => kernel_rfl);(case h1 => intro q hq;simp only [List.mem_cons, List.not_mem_nil, or_false] at hq;first | (rcases hq with rfl | rfl | rfl <;> rfl) | (rcases hq with rfl | rfl <;> rfl) | (subst hq;rfl));intro ws_ hs_ hk_ hB_;replace BK1 := Aside0.mk (hs_);replace HB := Aside0.mk (hB_);replace HV := Aside0.mk (Kd.R_keep HV.out hk_ (fun k hk e => by have h1 := hk.1;have h2 := hk.2;have := HL1.out;have := HL2.out;omega));replace BK2 := Aside0.mk (blk_keep BK2.out hk_ NB2_1.out);clear hs_ hk_ hB_))
 clear hz0 hz1 hz2
 have hz0 := (blk_cell BK1.out 0).trans (show _ = some (Value.int .i64 b0) from rfl)
 have hz1 := (blk_cell BK1.out 1).trans (show _ = some (Value.int .i64 (wrap64 (b1 + a1))) from rfl)
 have hz2 := (blk_cell BK1.out 2).trans (show _ = some (Value.slice A3 b2.length c3) from rfl)
 go_wp2_with (first | ((with_reducible refine gate_store (t := 27) (p := 4) (v := .tmp 12) rfl ?_);refine store_blk (w0 := w) (base := w.heap.size) (e := 27) (g := gb2) (off := 0) (cur := #[.int .i64 0, .int .i64 0, .slice none 0 0]) (cur' := #[.int .i64 b0, .int .i64 (wrap64 (b1 + a1)), .slice A3 b2.length c3]) (u := .agg #[.int .i64 b0, .int .i64 (wrap64 (b1 + a1)), .slice A3 b2.length c3]) (seg := [.int .i64 b0, .int .i64 (wrap64 (b1 + a1)), .slice A3 b2.length c3]) rfl rfl rfl rfl rfl BK2.out rfl ?ht ?h1 (by simp) rfl HB.out GE2.out ?_;(case ht => kernel_rfl);(case h1 => intro q hq;simp only [List.mem_cons, List.not_mem_nil, or_false] at hq;first | (rcases hq with rfl | rfl | rfl <;> rfl) | (rcases hq with rfl | rfl <;> rfl) | (subst hq;rfl));intro ws_ hs_ hk_ hB_;replace BK2 := Aside0.mk (hs_);replace HB := Aside0.mk (hB_);replace HV := Aside0.mk (Kd.R_keep HV.out hk_ (fun k hk e => by have h1 := hk.1;have h2 := hk.2;have := HL1.out;have := HL2.out;omega));clear hs_ hk_ hB_))
 refine bodyPost_ret (results_cell_row rfl _ _ gb2 27 #[.int .i64 b0, .int .i64 (wrap64 (b1 + a1)), .slice A3 b2.length c3] (0, 0) _ rfl BK2.out Try.underlying27 rfl (by kernel_rfl)) rfl ?_
 exact ⟨_, rfl, Kd.R_mono HV.out (fun _ _ => trivial), HB.out⟩

end Go.Proofs.Ytiplpckgmikmeaa.M
namespace Go.Proofs.Ytiplpckgmikmeaa.M
open Go.RowKit Go.Proofs.YtiplpckgmikmeaaW.PrintWords Go.Proofs.YtiplpckgmikmeaaW.PrintLast Go.Proofs.YtiplpckgmikmeaaW.PrintMore
attribute [local go_sem] max2_int min2_int max_two min_two max_three min_three max_four min_four
set_option linter.unusedVariables false
set_option linter.unusedSimpArgs false

mutual
def impl_PlusOf.j0 : Nat → List (S27) → Int → Int → Bool → Option ((List (S27)) × Bool)
 | 0, _, _, _, _ => none
 | k + 1, x0, x1, x2, x18 => if x18 = true then (some (([] : List (S27)), false)) else (impl_PlusOf.l0 k x1 x2 ([] : List (S27)) x0 (x0.length : Int) 0)
def impl_PlusOf.l0 : Nat → Int → Int → List (S27) → List (S27) → Int → Int → Option ((List (S27)) × Bool)
 | 0, _, _, _, _, _, _ => none
 | k + 1, x1, x2, x8, x19, x20, x21 => if x21 < x20 then (if 0 ≤ x21 then (if x21 < (x19.length : Int) then (if (wrap64 (((rd_T27 x19 x21).f1) + x1)) ≤ (mn x2 2000) then ((impl_later.f ((rd_T27 x19 x21).f0) ((rd_T27 x19 x21).f1) ((rd_T27 x19 x21).f2) x1).bind fun bt105 => (if x8.length < 3518437208883 then (impl_PlusOf.l0 k x1 x2 (x8 ++ [(⟨bt105.1, bt105.2.1, bt105.2.2⟩ : S27)]) x19 x20 (wrap64 (x21 + 1))) else (none))) else (impl_PlusOf.l0 k x1 x2 x8 x19 x20 (wrap64 (x21 + 1)))) else (none)) else (none)) else (some (x8, true))
end
def impl_PlusOf.f (k : Nat) (l0 : List (S27)) (a1 : Int) (a2 : Int) : Option ((List (S27)) × Bool) := (impl_OccsOk.f k l0).bind fun t101 => (if t101 = true then ((impl_in.f a1 1 20).bind fun t102 => (impl_PlusOf.j0 k l0 a1 a2 (!t102))) else (impl_PlusOf.j0 k l0 a1 a2 true))
set_option maxHeartbeats 8000000 in
set_option maxRecDepth 100000 in
theorem impl_PlusOf.calls (k : Nat) (A0 : Option Addr) (c0 : Nat) (l0 : List (S27)) (a1 : Int) (a2 : Int) (r1 : List (S27)) (r2 : Bool) (w : World) (hr0 : Kd.C k27 w A0 l0.length l0) (hc0 : l0.length ≤ c0) (h : impl_PlusOf.f k l0 a1 a2 = some (r1, r2)) :
  Calls Try.prog 61 #[.slice A0 l0.length c0, .int .i64 a1, .int .i64 a2] w fun e w' => ∃ v0_ : Value, e = .returned (.tuple #[v0_, .bool r2]) ∧ Kd.S k27 27 w' w.heap.size (fun _ => True) v0_ r1 ∧ Below w.heap.size w w' := by
 have hu27 := Try.underlying27
 have HR0 := Aside0.mk hr0
 have HC0 := Aside0.mk hc0
 clear hr0 hc0
 have HB := Aside0.mk (Below.refl w.heap.size w)
 have H : ((impl_OccsOk.f k l0).bind fun t101 => (if t101 = true then ((impl_in.f a1 1 20).bind fun t102 => (impl_PlusOf.j0 k l0 a1 a2 (!t102))) else (impl_PlusOf.j0 k l0 a1 a2 true))) = some (r1, r2) := h
 clear h
 have HC4 := Aside0.mk H
 clear H
 go_enter Try.func61, Try.ntmps61
 go_upto_region 1 with (fail)
 go_cut [18] (fun v18 wc => ∃ (kq : Nat) (x18_3 : Bool), v18 = .bool x18_3 ∧ Aside0 (impl_PlusOf.j0 kq l0 a1 a2 x18_3 = some (r1, r2)) ∧ Aside0 (kq ≤ k) ∧ Aside0 (Below w.heap.size w wc))
 case first =>
  have H := HC4.out
  clear HC4
  replace H := Option.bind_eq_some_iff.mp H
  obtain ⟨t101, A50, H⟩ := H
  replace H : (if t101 = true then ((impl_in.f a1 1 20).bind fun t102 => (impl_PlusOf.j0 k l0 a1 a2 (!t102))) else (impl_PlusOf.j0 k l0 a1 a2 true)) = some (r1, r2) := H
  have A5 := Aside0.mk A50
  clear A50
  by_cases c6 : t101 = true
  ·subst c6
   have H1 : ((impl_in.f a1 1 20).bind fun t102 => (impl_PlusOf.j0 k l0 a1 a2 (!t102))) = some (r1, r2) := by rw [if_pos rfl] at H;exact H
   clear H
   have H := H1
   clear H1
   replace H := Option.bind_eq_some_iff.mp H
   obtain ⟨t102, A70, H⟩ := H
   replace H : (impl_PlusOf.j0 k l0 a1 a2 (!t102)) = some (r1, r2) := H
   have A7 := Aside0.mk A70
   clear A70
   have H' := Aside0.mk H
   clear H
   go_wp2_with (first | ((with_reducible refine gate_callee (f := 29) rfl ?_);refine goesL_ (some 12) rfl rfl Try.func29 (by kernel_rfl) rfl #[.slice A0 l0.length c0] rfl (by (try simp only [List.map_toArray, List.map_cons, List.map_nil]);first | done | rfl | (simp only [List.length_drop, List.length_take];rfl)) ?_;(with_reducible refine (impl_OccsOk.calls k _ _ l0 true _ ?side1 ?side2 A5.out).mono ?_);(case side1 => repeat (first | exact (Kd.C_below HR0.out HB.out) | (with_reducible refine Kd.C_alloc ?_ _) | (with_reducible refine Kd.C_drewN ?_ _) | (with_reducible refine Kd.C_drew ?_)));(case side2 => exact HC0.out);rintro e w8 ⟨rfl, hb⟩;refine ⟨_, rfl, ?_⟩;replace HB := Aside0.mk (below_step (by repeat (first | (with_reducible first | exact HB.out | apply below_alloc | apply pw_below_drewN | apply below_drew1) | exact HB.out)) hb);(try clear hb);(try clear hb2);(try clear hk);(try clear hi)) | (go_at_call 66;(with_reducible refine (impl_in.calls a1 1 20 t102 _ A7.out).mono ?_);rintro e w' ⟨rfl, ⟨nd, rfl⟩⟩))
   go_meet
   case rel => exact ⟨_, (!t102), (by first | rfl | (simp;done) | (simp [*];done)), H', ⟨by first | omega | exact Nat.le_refl _⟩, ⟨by repeat (first | (with_reducible first | exact HB.out | apply below_alloc | apply pw_below_drewN | apply below_drew1) | exact HB.out)⟩⟩
  ·replace c6 := Bool.eq_false_iff.mpr c6
   subst c6
   have H1 : (impl_PlusOf.j0 k l0 a1 a2 true) = some (r1, r2) := by rw [if_neg (show ¬ (false = true) by decide)] at H;exact H
   clear H
   have H := H1
   clear H1
   have H' := Aside0.mk H
   clear H
   go_wp2_with (first | ((with_reducible refine gate_callee (f := 29) rfl ?_);refine goesL_ (some 12) rfl rfl Try.func29 (by kernel_rfl) rfl #[.slice A0 l0.length c0] rfl (by (try simp only [List.map_toArray, List.map_cons, List.map_nil]);first | done | rfl | (simp only [List.length_drop, List.length_take];rfl)) ?_;(with_reducible refine (impl_OccsOk.calls k _ _ l0 false _ ?side1 ?side2 A5.out).mono ?_);(case side1 => repeat (first | exact (Kd.C_below HR0.out HB.out) | (with_reducible refine Kd.C_alloc ?_ _) | (with_reducible refine Kd.C_drewN ?_ _) | (with_reducible refine Kd.C_drew ?_)));(case side2 => exact HC0.out);rintro e w9 ⟨rfl, hb⟩;refine ⟨_, rfl, ?_⟩;replace HB := Aside0.mk (below_step (by repeat (first | (with_reducible first | exact HB.out | apply below_alloc | apply pw_below_drewN | apply below_drew1) | exact HB.out)) hb);(try clear hb);(try clear hb2);(try clear hk);(try clear hi)))
   go_meet
   case rel => exact ⟨_, (true), (by first | rfl | (simp;done) | (simp [*];done)), H', ⟨by first | omega | exact Nat.le_refl _⟩, ⟨by repeat (first | (with_reducible first | exact HB.out | apply below_alloc | apply pw_below_drewN | apply below_drew1) | exact HB.out)⟩⟩
 case rest =>
  clear HC4
  try clear c2
  try clear p2
  try clear c6
  obtain ⟨kq, x18_3, rfl, HA, HJ3, HB⟩ := hcut
  cases kq with
  | zero => exact absurd HA.out (by simp [impl_PlusOf.j0])
  | succ kj3 =>
   have H := HA.out
   clear HA
   simp only [impl_PlusOf.j0] at H
   by_cases c10 : x18_3 = true
   ·subst c10
    have H1 : (some (([] : List (S27)), false)) = some (r1, r2) := by rw [if_pos rfl] at H;exact H
    clear H
    have H := H1
    clear H1
    simp only [Option.some.injEq, Prod.mk.injEq] at H
    obtain ⟨rfl, rfl⟩ := H
    go_wp2
    go_ret2
    exact ⟨_, by first | rfl | (simp [errW_none, errW_some] <;> rfl) | (simp [*, errW_none, errW_some] <;> rfl), by first | exact Kd.S_nil _ _ _ _ _ | exact Kd.N_nil _ _ _ _ _ | exact Kd.V_nil _ _ _ _ _ | exact Kd.Q_nil _ _ _ _ _ | exact Kd.R_nil _ _ _ _ _, by repeat (first | (with_reducible first | exact HB.out | apply below_alloc | apply pw_below_drewN | apply below_drew1) | exact HB.out)⟩
   ·replace c10 := Bool.eq_false_iff.mpr c10
    subst c10
    have H1 : (impl_PlusOf.l0 kj3 a1 a2 ([] : List (S27)) l0 (l0.length : Int) 0) = some (r1, r2) := by rw [if_neg (show ¬ (false = true) by decide)] at H;exact H
    clear H
    have H := H1
    clear H1
    have H' := Aside0.mk H
    clear H
    go_wp2
    go_loopg [8, 21] kj3 (fun kq v8 v21 w' => ∃ (x8_2 : List (S27)) (x21_2 : Int), v21 = .int .i64 x21_2 ∧ Aside0 (impl_PlusOf.l0 kq a1 a2 x8_2 l0 (l0.length : Int) x21_2 = some (r1, r2)) ∧ Aside0 (kq ≤ kj3) ∧ Aside0 (Kd.S k27 27 w' w.heap.size (fun _ => True) v8 x8_2) ∧ Aside0 (Below w.heap.size w w'))
    case atStart => exact ⟨(([] : List (S27))), (0), (by first | rfl | (simp;done) | (simp [*];done)), H', ⟨Nat.le_refl _⟩, ⟨by first | exact Kd.S_nil _ _ _ _ _ | exact Kd.N_nil _ _ _ _ _ | exact Kd.V_nil _ _ _ _ _ | exact Kd.Q_nil _ _ _ _ _ | exact Kd.R_nil _ _ _ _ _⟩, ⟨by repeat (first | (with_reducible first | exact HB.out | apply below_alloc | apply pw_below_drewN | apply below_drew1) | exact HB.out)⟩⟩
    case round =>
     clear H'
     try clear c1
     try clear c2
     try clear p2
     try clear c6
     try clear c10
     try clear p2
     obtain ⟨x8_2, x21_2, rfl, HA, HK2, HO_8, HB⟩ := hrel
     cases gk with
     | zero => exact absurd HA.out (by simp [impl_PlusOf.l0])
     | succ k2 =>
      have H := HA.out
      clear HA
      simp only [impl_PlusOf.l0] at H
      by_cases c11 : x21_2 < (l0.length : Int)
      ·rw [if_pos c11] at H
       have c11b0 : decide (x21_2 < (l0.length : Int)) = true := decide_eq_true c11
       clear c11
       by_cases c12 : 0 ≤ x21_2
       ·rw [if_pos c12] at H
        have c12b0 : decide (0 ≤ x21_2) = true := decide_eq_true c12
        clear c12
        by_cases c13 : x21_2 < (l0.length : Int)
        ·rw [if_pos c13] at H
         have c13b0 : decide (x21_2 < (l0.length : Int)) = true := decide_eq_true c13
         clear c13
         obtain ⟨ji14, hji14⟩ : ∃ j_ : Int, (mn a2 2000) = j_ := ⟨_, rfl⟩
         replace H : (if (wrap64 (((rd_T27 l0 x21_2).f1) + a1)) ≤ (ji14) then ((impl_later.f ((rd_T27 l0 x21_2).f0) ((rd_T27 l0 x21_2).f1) ((rd_T27 l0 x21_2).f2) a1).bind fun bt105 => (if x8_2.length < 3518437208883 then (impl_PlusOf.l0 k2 a1 a2 (x8_2 ++ [(⟨bt105.1, bt105.2.1, bt105.2.2⟩ : S27)]) l0 (l0.length : Int) (wrap64 (x21_2 + 1))) else (none))) else (impl_PlusOf.l0 k2 a1 a2 x8_2 l0 (l0.length : Int) (wrap64 (x21_2 + 1)))) = some (r1, r2) := by first | (rw [hji14] at H;exact H) | (simp only [hji14] at H ⊢;exact H)
         have hji14_ : (if 2000 < a2 then 2000 else a2) = ji14 := hji14
         by_cases c15 : (wrap64 (((rd_T27 l0 x21_2).f1) + a1)) ≤ (ji14)
         ·rw [if_pos c15] at H
          have c15b0 : decide ((wrap64 (((rd_T27 l0 x21_2).f1) + a1)) ≤ (ji14)) = true := decide_eq_true c15
          clear c15
          replace H := Option.bind_eq_some_iff.mp H
          obtain ⟨⟨t105, t106, t107⟩, A160, H⟩ := H
          replace H : (if x8_2.length < 3518437208883 then (impl_PlusOf.l0 k2 a1 a2 (x8_2 ++ [(⟨t105, t106, t107⟩ : S27)]) l0 (l0.length : Int) (wrap64 (x21_2 + 1))) else (none)) = some (r1, r2) := H
          have A16 := Aside0.mk A160
          clear A160
          by_cases c17 : x8_2.length < 3518437208883
          ·rw [if_pos c17] at H
           have LMc17 := Aside0.mk c17
           clear c17
           obtain ⟨y110, hy110⟩ : ∃ y_ : List (S27), y_ = (x8_2 ++ [(⟨t105, t106, t107⟩ : S27)]) := ⟨_, rfl⟩
           replace H : (impl_PlusOf.l0 k2 a1 a2 y110 l0 (l0.length : Int) (wrap64 (x21_2 + 1))) = some (r1, r2) := by first | (rw [hy110];with_reducible exact H) | (have H2_ := (Option.bind_some _ _).symm.trans H;rw [hy110];with_reducible exact H2_) | (have H2_ := (Option.bind_some _ _).symm.trans H;with_reducible exact H2_) | with_reducible exact H | (rw [hy110];exact H) | exact H
           have Ny110 := Aside0.mk hy110
           clear hy110
           have H' := Aside0.mk H
           clear H
           have p103 : 0 ≤ (x21_2 : Int) := of_decide_eq_true (by first | (with_reducible assumption) | assumption)
           have q103 : x21_2 < (l0.length : Int) := of_decide_eq_true (by first | (with_reducible assumption) | assumption)
           obtain ⟨ad103, A103_2, c103_2, e103, hx103_0, hx103_1, hx103_2, hl103_2, hi103_2⟩ := at_T27 HR0.out x21_2 p103 q103
           cases e103
           replace hx103_0 := (HB.out.cell (World.block_lt_of_cell? w _ hx103_0)).trans hx103_0
           replace hx103_1 := (HB.out.cell (World.block_lt_of_cell? w _ hx103_1)).trans hx103_1
           replace hx103_2 := (HB.out.cell (World.block_lt_of_cell? w _ hx103_2)).trans hx103_2
           have HR103_2 := Aside0.mk hi103_2
           have HC103_2 := Aside0.mk hl103_2
           clear hi103_2 hl103_2
           replace p103 := eq_true p103
           replace q103 := eq_true q103
           go_wp2_with (first | ((with_reducible refine gate_dst (N := 10) rfl ?_);refine box_event ?hg (N := 10) ?hd (cs := #[.int .i64 0, .int .i64 0, .slice none 0 0]) (t := 27) ?hr ?_;(case hd => rfl);(case hg => rfl);(case hr => first | (go_simp;done) | (go_simp;rfl));intro gb104 hg w18 hbox hb;replace HO_8 := Aside0.mk (Kd.S_below (Kd.S_elderB (by exact HO_8.out) gb104 (Nat.le_of_eq hg.symm)) hb);have BK104 := Aside0.mk (hbox);have GW104 := Aside0.mk ((by rw [hg];exact (below_size (by repeat (first | (with_reducible first | exact HB.out | apply below_alloc | apply pw_below_drewN | apply below_drew1) | exact HB.out))) : w.heap.size ≤ gb104));have GE104 := Aside0.mk ((by rw [hg];exact (below_size (by repeat (first | (with_reducible first | exact HB.out | apply below_alloc | apply pw_below_drewN | apply below_drew1) | exact HB.out))) : w.heap.size ≤ gb104));replace HB := Aside0.mk (below_step (by repeat (first | (with_reducible first | exact HB.out | apply below_alloc | apply pw_below_drewN | apply below_drew1) | exact HB.out)) hb);clear hb hbox hg;obtain ⟨hcz19_0, hcz19_1, hcz19_2, hfz19_0, hfz19_1, hfz19_2⟩ := bx3 BK104.out) | ((with_reducible refine gate_callee (f := 92) rfl ?_);refine goesL_ (some 35) rfl rfl Try.func92 (by kernel_rfl) rfl #[.agg #[.int .i64 ((rd_T27 l0 x21_2).f0), .int .i64 ((rd_T27 l0 x21_2).f1), .slice A103_2 ((rd_T27 l0 x21_2).f2).length c103_2], .int .i64 a1] rfl (by (try simp only [List.map_toArray, List.map_cons, List.map_nil]);first | done | rfl | (simp only [List.length_drop, List.length_take];rfl)) ?_;(with_reducible refine (impl_later.calls ((rd_T27 l0 x21_2).f0) ((rd_T27 l0 x21_2).f1) _ _ ((rd_T27 l0 x21_2).f2) a1 t105 t106 t107 _ ?side1 ?side2 A16.out).mono ?_);(case side1 => exact Kd.C_below HR103_2.out (by repeat (first | (with_reducible first | exact HB.out | apply below_alloc | apply pw_below_drewN | apply below_drew1 | refine below_set ?_ GE104.out) | exact HB.out)));(case side2 => exact HC103_2.out);rintro e w20 ⟨v108, rfl, ho0, hb⟩;refine ⟨_, rfl, ?_⟩;replace HO_8 := Aside0.mk (Kd.S_elder' (by (with_reducible repeat (first | apply Kd.S_alloc | apply Kd.S_drewN | apply Kd.S_drew));exact (Kd.S_mono (Kd.S_far (p := ⟨gb104, 2, none⟩) (Kd.S_far (p := ⟨gb104, 1, none⟩) (Kd.S_far (p := ⟨gb104, 0, none⟩) (Kd.S_mono HO_8.out (fun k_ hk => (⟨hk, hk.2⟩ : _ ∧ k_ ≠ gb104))) (fun _ hk => hk.2) (.int .i64 ((rd_T27 l0 x21_2).f0))) (fun _ hk => hk.2) (.int .i64 ((rd_T27 l0 x21_2).f1))) (fun _ hk => hk.2) (.slice A103_2 ((rd_T27 l0 x21_2).f2).length c103_2)) (fun _ h_ => h_.1))) (Kd.R_base ho0) hb);have HO109 := Aside0.mk (Kd.R_lower ho0 (below_size (by repeat (first | (with_reducible first | exact HB.out | apply below_alloc | apply pw_below_drewN | apply below_drew1 | refine below_set ?_ GE104.out) | exact HB.out))));replace BK104 := Aside0.mk (blk_below (g := gb104) (o := .cells #[.int .i64 ((rd_T27 l0 x21_2).f0), .int .i64 ((rd_T27 l0 x21_2).f1), .slice A103_2 ((rd_T27 l0 x21_2).f2).length c103_2] 27 (0, 0)) (by (with_reducible repeat (first | refine blk_drewN ?_ _ | refine blk_drew ?_ | refine blk_alloc ?_ _));refine blk_put (cs := #[.int .i64 ((rd_T27 l0 x21_2).f0), .int .i64 ((rd_T27 l0 x21_2).f1), .slice none 0 0]) ?_ 2 _ rfl;(with_reducible repeat (first | refine blk_drewN ?_ _ | refine blk_drew ?_ | refine blk_alloc ?_ _));refine blk_put (cs := #[.int .i64 ((rd_T27 l0 x21_2).f0), .int .i64 0, .slice none 0 0]) ?_ 1 _ rfl;(with_reducible repeat (first | refine blk_drewN ?_ _ | refine blk_drew ?_ | refine blk_alloc ?_ _));refine blk_put (cs := #[.int .i64 0, .int .i64 0, .slice none 0 0]) ?_ 0 _ rfl;(with_reducible repeat (first | refine blk_drewN ?_ _ | refine blk_drew ?_ | refine blk_alloc ?_ _));exact BK104.out) hb);replace HB := Aside0.mk (below_step (by repeat (first | (with_reducible first | exact HB.out | apply below_alloc | apply pw_below_drewN | apply below_drew1 | refine below_set ?_ GE104.out) | exact HB.out)) hb);(try clear hb);(try clear hb2);(try clear hk);(try clear hi);(try clear ho0);obtain ⟨Ao22, co22, eo22⟩ := Kd.R_slice HO109.out;subst eo22) | ((with_reducible refine gate_builtin (b := .append) (xs := #[.tmp 32, .tmp 36]) rfl ?_);at_builtin;refine Kd.S_append k27 (w0 := w) w.heap.size rfl (.tmp 32) (.tmp 36) 34 27 (.agg #[(.int .i64 0), (.int .i64 0), (.slice none 0 0)]) 40 rfl Try.underlying34 info27 rfl (by decide) (by omega) u8 x8_2 (⟨t105, t106, t107⟩ : S27) [.int .i64 t105, .int .i64 t106, .slice Ao22 t107.length co22] (fun k_ => k_ ≠ gb104) (fun k_ => some k_ = (.slice Ao22 t107.length co22 : Value).ownBlock) rfl rfl ?aP (fun k_ hk_ => ((Kd.R_mono (ok' := fun k_ => ((fun k_ => k_ ≠ gb104)) k_ ∧ some k_ ≠ (u8 : Value).ownBlock) (Kd.R_types (Kd.R_apart' (HO109.out) (Kd.S_typed HO_8.out) (by decide)) BK104.out (by decide)) (fun k_ hk => ⟨hk.2, hk.1.2⟩))).1 k_ hk_.symm) ?aF ?aO ?aB ?aS ?aL ?_;(case aP => exact k27_mkM _ _ _ (⟨t105, t106, t107⟩ : S27) (Kd.R_mono (Kd.R_tight rfl (Kd.R_mono (ok' := fun k_ => ((fun k_ => k_ ≠ gb104)) k_ ∧ some k_ ≠ (u8 : Value).ownBlock) (Kd.R_types (Kd.R_apart' (HO109.out) (Kd.S_typed HO_8.out) (by decide)) BK104.out (by decide)) (fun k_ hk => ⟨hk.2, hk.1.2⟩))) (fun _ h_ => h_)));(case aB => exact (by repeat (first | (with_reducible first | exact HB.out | apply below_alloc | apply pw_below_drewN | apply below_drew1 | refine below_set ?_ GE104.out) | exact HB.out)));(case aF => exact (fun k_ hk => Kd.freshB BK104.out k_ hk));(case aO => exact (by (with_reducible repeat (first | apply Kd.S_alloc | apply Kd.S_drewN | apply Kd.S_drew));exact Kd.S_mono HO_8.out (fun k_ hk => ⟨hk.1.2, fun e_ => hk.2 e_⟩)));(case aS => exact (below_size (by repeat (first | (with_reducible first | exact HB.out | apply below_alloc | apply pw_below_drewN | apply below_drew1 | refine below_set ?_ GE104.out) | exact HB.out))));(case aL => have := LMc17.out;omega);intro v111 w21 ho hb hg hat;rw [← Ny110.out] at ho;have n0_ := Aside0.mk (blk_grown BK104.out hg (Kd.S_away HO_8.out (fun _ hk => hk.1.2)));have n1_ := Aside0.mk (hb);have n2_ := Aside0.mk (ho);clear BK104;clear HB;clear HO_8;clear HO109;have BK104 := n0_;have HB := n1_;have HO112 := n2_;clear n0_ n1_ n2_;clear ho hb hg hat))
           go_roundg k2
           case measure => have := HJ3.out;have := HK2.out;omega
           case rel => exact ⟨(y110), (wrap64 (x21_2 + 1)), (by first | rfl | (simp;done) | (simp [*];done)), H', ⟨by have := HJ3.out;have := HK2.out;omega⟩, ⟨by (with_reducible repeat (first | apply Kd.S_alloc | apply Kd.S_drewN | apply Kd.S_drew));exact Kd.S_mono HO112.out (fun _ hk => trivial)⟩, ⟨by repeat (first | (with_reducible first | exact HB.out | apply below_alloc | apply pw_below_drewN | apply below_drew1 | refine below_set ?_ GE104.out) | exact HB.out)⟩⟩
          ·rw [if_neg c17] at H
           exact absurd H (by simp)
         ·rw [if_neg c15] at H
          have c15b0 : decide ((wrap64 (((rd_T27 l0 x21_2).f1) + a1)) ≤ (ji14)) = false := decide_eq_false c15
          clear c15
          have H' := Aside0.mk H
          clear H
          have p103 : 0 ≤ (x21_2 : Int) := of_decide_eq_true (by first | (with_reducible assumption) | assumption)
          have q103 : x21_2 < (l0.length : Int) := of_decide_eq_true (by first | (with_reducible assumption) | assumption)
          obtain ⟨ad103, A103_2, c103_2, e103, hx103_0, hx103_1, hx103_2, hl103_2, hi103_2⟩ := at_T27 HR0.out x21_2 p103 q103
          cases e103
          replace hx103_0 := (HB.out.cell (World.block_lt_of_cell? w _ hx103_0)).trans hx103_0
          replace hx103_1 := (HB.out.cell (World.block_lt_of_cell? w _ hx103_1)).trans hx103_1
          replace hx103_2 := (HB.out.cell (World.block_lt_of_cell? w _ hx103_2)).trans hx103_2
          have HR103_2 := Aside0.mk hi103_2
          have HC103_2 := Aside0.mk hl103_2
          clear hi103_2 hl103_2
          replace p103 := eq_true p103
          replace q103 := eq_true q103
          go_wp2_with (first | ((with_reducible refine gate_dst (N := 10) rfl ?_);refine box_event ?hg (N := 10) ?hd (cs := #[.int .i64 0, .int .i64 0, .slice none 0 0]) (t := 27) ?hr ?_;(case hd => rfl);(case hg => rfl);(case hr => first | (go_simp;done) | (go_simp;rfl));intro gb104 hg w23 hbox hb;replace HO_8 := Aside0.mk (Kd.S_below (Kd.S_elderB (by exact HO_8.out) gb104 (Nat.le_of_eq hg.symm)) hb);have BK104 := Aside0.mk (hbox);have GW104 := Aside0.mk ((by rw [hg];exact (below_size (by repeat (first | (with_reducible first | exact HB.out | apply below_alloc | apply pw_below_drewN | apply below_drew1) | exact HB.out))) : w.heap.size ≤ gb104));have GE104 := Aside0.mk ((by rw [hg];exact (below_size (by repeat (first | (with_reducible first | exact HB.out | apply below_alloc | apply pw_below_drewN | apply below_drew1) | exact HB.out))) : w.heap.size ≤ gb104));replace HB := Aside0.mk (below_step (by repeat (first | (with_reducible first | exact HB.out | apply below_alloc | apply pw_below_drewN | apply below_drew1) | exact HB.out)) hb);clear hb hbox hg;obtain ⟨hcz24_0, hcz24_1, hcz24_2, hfz24_0, hfz24_1, hfz24_2⟩ := bx3 BK104.out))
          go_roundg k2
          case measure => have := HJ3.out;have := HK2.out;omega
          case rel => exact ⟨(x8_2), (wrap64 (x21_2 + 1)), (by first | rfl | (simp;done) | (simp [*];done)), H', ⟨by have := HJ3.out;have := HK2.out;omega⟩, ⟨by (with_reducible repeat (first | apply Kd.S_alloc | apply Kd.S_drewN | apply Kd.S_drew));exact Kd.S_mono (Kd.S_far (p := ⟨gb104, 2, none⟩) (Kd.S_far (p := ⟨gb104, 1, none⟩) (Kd.S_far (p := ⟨gb104, 0, none⟩) (Kd.S_mono HO_8.out (fun k_ hk => (⟨hk, hk.2⟩ : _ ∧ k_ ≠ gb104))) (fun _ hk => hk.2) (.int .i64 ((rd_T27 l0 x21_2).f0))) (fun _ hk => hk.2) (.int .i64 ((rd_T27 l0 x21_2).f1))) (fun _ hk => hk.2) (.slice A103_2 ((rd_T27 l0 x21_2).f2).length c103_2)) (fun _ hk => trivial)⟩, ⟨by repeat (first | (with_reducible first | exact HB.out | apply below_alloc | apply pw_below_drewN | apply below_drew1 | refine below_set ?_ GE104.out) | exact HB.out)⟩⟩
        ·rw [if_neg c13] at H
         exact absurd H (by simp)
       ·rw [if_neg c12] at H
        exact absurd H (by simp)
      ·rw [if_neg c11] at H
       have c11b0 : decide (x21_2 < (l0.length : Int)) = false := decide_eq_false c11
       clear c11
       simp only [Option.some.injEq, Prod.mk.injEq] at H
       obtain ⟨rfl, rfl⟩ := H
       go_wp2
       go_ret2
       exact ⟨_, by first | rfl | (simp [errW_none, errW_some] <;> rfl) | (simp [*, errW_none, errW_some] <;> rfl), by (with_reducible repeat (first | apply Kd.S_alloc | apply Kd.S_drewN | apply Kd.S_drew));exact HO_8.out, by repeat (first | (with_reducible first | exact HB.out | apply below_alloc | apply pw_below_drewN | apply below_drew1) | exact HB.out)⟩

end Go.Proofs.Ytiplpckgmikmeaa.M
namespace Go.Proofs.Ytiplpckgmikmeaa.M
open Go.RowKit Go.Proofs.YtiplpckgmikmeaaW.PrintWords Go.Proofs.YtiplpckgmikmeaaW.PrintLast Go.Proofs.YtiplpckgmikmeaaW.PrintMore
attribute [local go_sem] max2_int min2_int max_two min_two max_three min_three max_four min_four
set_option linter.unusedVariables false
set_option linter.unusedSimpArgs false

def spec_l3List.l0 : Nat → List (S27) → List (S27) → Int → Option ((List (S27)))
 | 0, _, _, _ => none
 | k + 1, x0, x3, x4 => if x4 < (x0.length : Int) then (if 0 ≤ x4 then ((spec_l3Copy.f ((rd_T27 x0 x4).f0) ((rd_T27 x0 x4).f1) ((rd_T27 x0 x4).f2)).bind fun bt105 => (if x3.length < 3518437208883 then (spec_l3List.l0 k x0 (x3 ++ [(⟨bt105.1, bt105.2.1, bt105.2.2⟩ : S27)]) (wrap64 (x4 + 1))) else (none))) else (none)) else (some x3)
def spec_l3List.f (k : Nat) (l0 : List (S27)) : Option ((List (S27))) := spec_l3List.l0 k l0 (([] : List (S27))) 0
set_option maxHeartbeats 8000000 in
set_option maxRecDepth 100000 in
theorem spec_l3List.calls (k : Nat) (A0 : Option Addr) (c0 : Nat) (l0 : List (S27)) (r : List (S27)) (w : World) (hr0 : Kd.C k27 w A0 l0.length l0) (hc0 : l0.length ≤ c0) (h : spec_l3List.f k l0 = some r) :
  Calls Try.prog 83 #[.slice A0 l0.length c0] w fun e w' => ∃ v0_ : Value, e = .returned (v0_) ∧ Kd.S k27 27 w' w.heap.size (fun _ => True) v0_ r ∧ Below w.heap.size w w' := by
 have hu27 := Try.underlying27
 have HR0 := Aside0.mk hr0
 have HC0 := Aside0.mk hc0
 clear hr0 hc0
 have HB := Aside0.mk (Below.refl w.heap.size w)
 have H : (spec_l3List.l0 k l0 (([] : List (S27))) 0) = some r := h
 clear h
 obtain ⟨y101, hy101⟩ : ∃ y_ : List (S27), y_ = (([] : List (S27))) := ⟨_, rfl⟩
 replace H : (spec_l3List.l0 k l0 y101 0) = some r := by first | (rw [hy101];with_reducible exact H) | (have H2_ := (Option.bind_some _ _).symm.trans H;rw [hy101];with_reducible exact H2_) | (have H2_ := (Option.bind_some _ _).symm.trans H;with_reducible exact H2_) | with_reducible exact H | (rw [hy101];exact H) | exact H
 have Ny101 := Aside0.mk hy101
 clear hy101
 have H' := Aside0.mk H
 clear H
 go_enter Try.func83, Try.ntmps83
 go_wp2_with (first | ((with_reducible refine gate_dst (N := 5) rfl ?_);refine Kd.S_lit k27 _ 27 ?hg (N := 5) ?hd (xs := ([] : List (S27))) (inner := []) (ok := fun _ => True) (okp := fun _ => True) ?hr ?hp (fun _ hk => hk) trivial (Below.refl _ _) (Nat.le_refl _) (by simp) ?_;(case hd => rfl);(case hg => rfl);(case hr => first | (go_simp;done) | (go_simp;rfl));(case hp => exact (Reps.none _ _));intro v102 w2 ho3 hb hg_ hnew_;clear hg_ hnew_;(first | rw [← Ny101.out] at ho3 | (simp only [Int.reduceToNat] at ho3;rw [← Ny101.out] at ho3));have HO103 := Aside0.mk (Kd.S_lower ho3 (below_size (by exact HB.out)));replace HB := Aside0.mk (below_step (by exact HB.out) hb);clear hb ho3))
 go_loopg [3, 4] k (fun kq v3 v4 w' => ∃ (x3_1 : List (S27)) (x4_1 : Int), v4 = .int .i64 x4_1 ∧ Aside0 (spec_l3List.l0 kq l0 x3_1 x4_1 = some r) ∧ Aside0 (kq ≤ k) ∧ Aside0 (Kd.S k27 27 w' w.heap.size (fun _ => True) v3 x3_1) ∧ Aside0 (Below w.heap.size w w'))
 case atStart => exact ⟨(y101), (0), (by first | rfl | (simp;done) | (simp [*];done)), H', ⟨Nat.le_refl _⟩, ⟨by (with_reducible repeat (first | apply Kd.S_alloc | apply Kd.S_drewN | apply Kd.S_drew));exact HO103.out⟩, ⟨by repeat (first | (with_reducible first | exact HB.out | apply below_alloc | apply pw_below_drewN | apply below_drew1) | exact HB.out)⟩⟩
 case round =>
  clear H'
  try clear p2
  obtain ⟨x3_1, x4_1, rfl, HA, HK1, HO_3, HB⟩ := hrel
  cases gk with
  | zero => exact absurd HA.out (by simp [spec_l3List.l0])
  | succ k1 =>
   have H := HA.out
   clear HA
   simp only [spec_l3List.l0] at H
   by_cases c4 : x4_1 < (l0.length : Int)
   ·rw [if_pos c4] at H
    have c4b0 : decide (x4_1 < (l0.length : Int)) = true := decide_eq_true c4
    clear c4
    by_cases c5 : 0 ≤ x4_1
    ·rw [if_pos c5] at H
     have c5b0 : decide (0 ≤ x4_1) = true := decide_eq_true c5
     clear c5
     replace H := Option.bind_eq_some_iff.mp H
     obtain ⟨⟨t105, t106, t107⟩, A60, H⟩ := H
     replace H : (if x3_1.length < 3518437208883 then (spec_l3List.l0 k1 l0 (x3_1 ++ [(⟨t105, t106, t107⟩ : S27)]) (wrap64 (x4_1 + 1))) else (none)) = some r := H
     have A6 := Aside0.mk A60
     clear A60
     by_cases c7 : x3_1.length < 3518437208883
     ·rw [if_pos c7] at H
      have LMc7 := Aside0.mk c7
      clear c7
      obtain ⟨y110, hy110⟩ : ∃ y_ : List (S27), y_ = (x3_1 ++ [(⟨t105, t106, t107⟩ : S27)]) := ⟨_, rfl⟩
      replace H : (spec_l3List.l0 k1 l0 y110 (wrap64 (x4_1 + 1))) = some r := by first | (rw [hy110];with_reducible exact H) | (have H2_ := (Option.bind_some _ _).symm.trans H;rw [hy110];with_reducible exact H2_) | (have H2_ := (Option.bind_some _ _).symm.trans H;with_reducible exact H2_) | with_reducible exact H | (rw [hy110];exact H) | exact H
      have Ny110 := Aside0.mk hy110
      clear hy110
      have H' := Aside0.mk H
      clear H
      have p104 : 0 ≤ (x4_1 : Int) := of_decide_eq_true (by first | (with_reducible assumption) | assumption)
      have q104 : x4_1 < (l0.length : Int) := of_decide_eq_true (by first | (with_reducible assumption) | assumption)
      obtain ⟨ad104, A104_2, c104_2, e104, hx104_0, hx104_1, hx104_2, hl104_2, hi104_2⟩ := at_T27 HR0.out x4_1 p104 q104
      cases e104
      replace hx104_0 := (HB.out.cell (World.block_lt_of_cell? w _ hx104_0)).trans hx104_0
      replace hx104_1 := (HB.out.cell (World.block_lt_of_cell? w _ hx104_1)).trans hx104_1
      replace hx104_2 := (HB.out.cell (World.block_lt_of_cell? w _ hx104_2)).trans hx104_2
      have HR104_2 := Aside0.mk hi104_2
      have HC104_2 := Aside0.mk hl104_2
      clear hi104_2 hl104_2
      replace p104 := eq_true p104
      replace q104 := eq_true q104
      go_wp2_with (first | ((with_reducible refine gate_callee (f := 75) rfl ?_);refine goesL_ (some 17) rfl rfl Try.func75 (by kernel_rfl) rfl #[.agg #[.int .i64 ((rd_T27 l0 x4_1).f0), .int .i64 ((rd_T27 l0 x4_1).f1), .slice A104_2 ((rd_T27 l0 x4_1).f2).length c104_2]] rfl (by (try simp only [List.map_toArray, List.map_cons, List.map_nil]);first | done | rfl | (simp only [List.length_drop, List.length_take];rfl)) ?_;(with_reducible refine (spec_l3Copy.calls ((rd_T27 l0 x4_1).f0) ((rd_T27 l0 x4_1).f1) _ _ ((rd_T27 l0 x4_1).f2) t105 t106 t107 _ ?side1 ?side2 A6.out).mono ?_);(case side1 => repeat (first | exact (Kd.C_below HR104_2.out HB.out) | (with_reducible refine Kd.C_alloc ?_ _) | (with_reducible refine Kd.C_drewN ?_ _) | (with_reducible refine Kd.C_drew ?_)));(case side2 => exact HC104_2.out);rintro e w8 ⟨v108, rfl, ho0, hb⟩;refine ⟨_, rfl, ?_⟩;replace HO_3 := Aside0.mk (Kd.S_elder' (by exact HO_3.out) (Kd.R_base ho0) hb);have HO109 := Aside0.mk (Kd.R_lower ho0 (below_size (by exact HB.out)));replace HB := Aside0.mk (below_step (by exact HB.out) hb);(try clear hb);(try clear hb2);(try clear hk);(try clear hi);(try clear ho0);obtain ⟨Ao10, co10, eo10⟩ := Kd.R_slice HO109.out;subst eo10) | ((with_reducible refine gate_builtin (b := .append) (xs := #[.tmp 12, .tmp 18]) rfl ?_);at_builtin;refine Kd.S_append k27 (w0 := w) w.heap.size rfl (.tmp 12) (.tmp 18) 34 27 (.agg #[(.int .i64 0), (.int .i64 0), (.slice none 0 0)]) 40 rfl Try.underlying34 info27 rfl (by decide) (by omega) u3 x3_1 (⟨t105, t106, t107⟩ : S27) [.int .i64 t105, .int .i64 t106, .slice Ao10 t107.length co10] (fun _ => True) (fun k_ => some k_ = (.slice Ao10 t107.length co10 : Value).ownBlock) rfl rfl ?aP (fun k_ hk_ => ((Kd.R_mono (ok' := fun k_ => ((fun _ => True)) k_ ∧ some k_ ≠ (u3 : Value).ownBlock) (Kd.R_apart' (HO109.out) (Kd.S_typed HO_3.out) (by decide)) (fun k_ hk => ⟨trivial, hk.2⟩))).1 k_ hk_.symm) ?aF ?aO ?aB ?aS ?aL ?_;(case aP => exact k27_mkM _ _ _ (⟨t105, t106, t107⟩ : S27) (Kd.R_mono (Kd.R_tight rfl (Kd.R_mono (ok' := fun k_ => ((fun _ => True)) k_ ∧ some k_ ≠ (u3 : Value).ownBlock) (Kd.R_apart' (HO109.out) (Kd.S_typed HO_3.out) (by decide)) (fun k_ hk => ⟨trivial, hk.2⟩))) (fun _ h_ => h_)));(case aB => exact (by exact HB.out));(case aF => exact (fun _ _ => trivial));(case aO => exact (by (with_reducible repeat (first | apply Kd.S_alloc | apply Kd.S_drewN | apply Kd.S_drew));exact Kd.S_mono HO_3.out (fun k_ hk => ⟨trivial, fun e_ => hk.2 e_⟩)));(case aS => exact (below_size (by exact HB.out)));(case aL => have := LMc7.out;omega);intro v111 w9 ho hb hg hat;rw [← Ny110.out] at ho;have n0_ := Aside0.mk (hb);have n1_ := Aside0.mk (ho);clear HB;clear HO_3;clear HO109;have HB := n0_;have HO112 := n1_;clear n0_ n1_;clear ho hb hg hat))
      go_roundg k1
      case measure => have := HK1.out;omega
      case rel => exact ⟨(y110), (wrap64 (x4_1 + 1)), (by first | rfl | (simp;done) | (simp [*];done)), H', ⟨by have := HK1.out;omega⟩, ⟨by (with_reducible repeat (first | apply Kd.S_alloc | apply Kd.S_drewN | apply Kd.S_drew));exact HO112.out⟩, ⟨by repeat (first | (with_reducible first | exact HB.out | apply below_alloc | apply pw_below_drewN | apply below_drew1) | exact HB.out)⟩⟩
     ·rw [if_neg c7] at H
      exact absurd H (by simp)
    ·rw [if_neg c5] at H
     exact absurd H (by simp)
   ·rw [if_neg c4] at H
    have c4b0 : decide (x4_1 < (l0.length : Int)) = false := decide_eq_false c4
    clear c4
    obtain rfl := Option.some.inj H
    go_wp2
    go_ret
    exact ⟨_, by first | rfl | (simp [errW_none, errW_some] <;> rfl) | (simp [*, errW_none, errW_some] <;> rfl), by (with_reducible repeat (first | apply Kd.S_alloc | apply Kd.S_drewN | apply Kd.S_drew));exact HO_3.out, by repeat (first | (with_reducible first | exact HB.out | apply below_alloc | apply pw_below_drewN | apply below_drew1) | exact HB.out)⟩

end Go.Proofs.Ytiplpckgmikmeaa.M
namespace Go.Proofs.Ytiplpckgmikmeaa.M
open Go.RowKit Go.Proofs.YtiplpckgmikmeaaW.PrintWords Go.Proofs.YtiplpckgmikmeaaW.PrintLast Go.Proofs.YtiplpckgmikmeaaW.PrintMore
attribute [local go_sem] max2_int min2_int max_two min_two max_three min_three max_four min_four
set_option linter.unusedVariables false
set_option linter.unusedSimpArgs false

def spec_l4Told.f (k : Nat) (l0 : List (S27)) : Option ((List (S27)) × Bool) := if (l0.length : Int) > 40 then (some ((([] : List (S27))), false)) else ((spec_l3List.f k l0).bind fun t104 => (some (t104, true)))
set_option maxHeartbeats 8000000 in
set_option maxRecDepth 100000 in
theorem spec_l4Told.calls (k : Nat) (A0 : Option Addr) (c0 : Nat) (l0 : List (S27)) (r1 : List (S27)) (r2 : Bool) (w : World) (hr0 : Kd.C k27 w A0 l0.length l0) (hc0 : l0.length ≤ c0) (h : spec_l4Told.f k l0 = some (r1, r2)) :
  Calls Try.prog 86 #[.slice A0 l0.length c0] w fun e w' => ∃ v0_ : Value, e = .returned (.tuple #[v0_, .bool r2]) ∧ Kd.S k27 27 w' w.heap.size (fun _ => True) v0_ r1 ∧ Below w.heap.size w w' := by
 have HR0 := Aside0.mk hr0
 have HC0 := Aside0.mk hc0
 clear hr0 hc0
 have HB := Aside0.mk (Below.refl w.heap.size w)
 have H : (if (l0.length : Int) > 40 then (some ((([] : List (S27))), false)) else ((spec_l3List.f k l0).bind fun t104 => (some (t104, true)))) = some (r1, r2) := h
 clear h
 by_cases c2 : (l0.length : Int) > 40
 ·rw [if_pos c2] at H
  have c2b0 : decide (40 < (l0.length : Int)) = true := decide_eq_true c2
  have c2b1 : decide (40 < l0.length) = true := decide_eq_true (by omega)
  clear c2
  obtain ⟨y101, hy101⟩ : ∃ y_ : List (S27), y_ = (([] : List (S27))) := ⟨_, rfl⟩
  replace H : (some (y101, false)) = some (r1, r2) := by first | (rw [hy101];with_reducible exact H) | (have H2_ := (Option.bind_some _ _).symm.trans H;rw [hy101];with_reducible exact H2_) | (have H2_ := (Option.bind_some _ _).symm.trans H;with_reducible exact H2_) | with_reducible exact H | (rw [hy101];exact H) | exact H
  have Ny101 := Aside0.mk hy101
  clear hy101
  simp only [Option.some.injEq, Prod.mk.injEq] at H
  obtain ⟨rfl, rfl⟩ := H
  go_enter Try.func86, Try.ntmps86
  go_wp2_with (first | ((with_reducible refine gate_dst (N := 7) rfl ?_);refine Kd.S_lit k27 _ 27 ?hg (N := 7) ?hd (xs := ([] : List (S27))) (inner := []) (ok := fun _ => True) (okp := fun _ => True) ?hr ?hp (fun _ hk => hk) trivial (Below.refl _ _) (Nat.le_refl _) (by simp) ?_;(case hd => rfl);(case hg => rfl);(case hr => first | (go_simp;done) | (go_simp;rfl));(case hp => exact (Reps.none _ _));intro v102 w3 ho4 hb hg_ hnew_;clear hg_ hnew_;(first | rw [← Ny101.out] at ho4 | (simp only [Int.reduceToNat] at ho4;rw [← Ny101.out] at ho4));have HO103 := Aside0.mk (Kd.S_lower ho4 (below_size (by exact HB.out)));replace HB := Aside0.mk (below_step (by exact HB.out) hb);clear hb ho4))
  go_ret2
  exact ⟨_, by first | rfl | (simp [errW_none, errW_some] <;> rfl) | (simp [*, errW_none, errW_some] <;> rfl), by (with_reducible repeat (first | apply Kd.S_alloc | apply Kd.S_drewN | apply Kd.S_drew));exact HO103.out, by repeat (first | (with_reducible first | exact HB.out | apply below_alloc | apply pw_below_drewN | apply below_drew1) | exact HB.out)⟩
 ·rw [if_neg c2] at H
  have c2b0 : decide (40 < (l0.length : Int)) = false := decide_eq_false c2
  have c2b1 : decide (40 < l0.length) = false := decide_eq_false (by omega)
  clear c2
  replace H := Option.bind_eq_some_iff.mp H
  obtain ⟨t104, A50, H⟩ := H
  replace H : (some (t104, true)) = some (r1, r2) := H
  have A5 := Aside0.mk A50
  clear A50
  simp only [Option.some.injEq, Prod.mk.injEq] at H
  obtain ⟨rfl, rfl⟩ := H
  go_enter Try.func86, Try.ntmps86
  go_wp2_with (first | ((with_reducible refine gate_callee (f := 83) rfl ?_);refine goesL_ (some 9) rfl rfl Try.func83 (by kernel_rfl) rfl #[.slice A0 l0.length c0] rfl (by (try simp only [List.map_toArray, List.map_cons, List.map_nil]);first | done | rfl | (simp only [List.length_drop, List.length_take];rfl)) ?_;(with_reducible refine (spec_l3List.calls k _ _ l0 t104 _ ?side1 ?side2 A5.out).mono ?_);(case side1 => repeat (first | exact HR0.out | (with_reducible refine Kd.C_alloc ?_ _) | (with_reducible refine Kd.C_drewN ?_ _) | (with_reducible refine Kd.C_drew ?_)));(case side2 => exact HC0.out);rintro e w6 ⟨v105, rfl, ho0, hb⟩;refine ⟨_, rfl, ?_⟩;have HO106 := Aside0.mk (Kd.S_lower ho0 (below_size (by exact HB.out)));replace HB := Aside0.mk (below_step (by exact HB.out) hb);(try clear hb);(try clear hb2);(try clear hk);(try clear hi);(try clear ho0)))
  go_ret2
  exact ⟨_, by first | rfl | (simp [errW_none, errW_some] <;> rfl) | (simp [*, errW_none, errW_some] <;> rfl), by (with_reducible repeat (first | apply Kd.S_alloc | apply Kd.S_drewN | apply Kd.S_drew));exact HO106.out, by repeat (first | (with_reducible first | exact HB.out | apply below_alloc | apply pw_below_drewN | apply below_drew1) | exact HB.out)⟩

end Go.Proofs.Ytiplpckgmikmeaa.M
namespace Go.Proofs.Ytiplpckgmikmeaa.M
open Go.RowKit Go.Proofs.YtiplpckgmikmeaaW.PrintWords Go.Proofs.YtiplpckgmikmeaaW.PrintLast Go.Proofs.YtiplpckgmikmeaaW.PrintMore
attribute [local go_sem] max2_int min2_int max_two min_two max_three min_three max_four min_four
set_option linter.unusedVariables false
set_option linter.unusedSimpArgs false

def spec_l5Later.f (a0_0 : Int) (a0_1 : Int) (l0_2 : List Int) (a1 : Int) : Option (Int × Int × List Int) := (spec_l3Copy.f a0_0 a0_1 l0_2).bind fun t => some (t.1, wrap64 (t.2.1 + a1), t.2.2)
set_option maxHeartbeats 4000000 in
set_option maxRecDepth 100000 in
theorem spec_l5Later.calls (a0_0 : Int) (a0_1 : Int) (A0_2 : Option Addr) (c0_2 : Nat) (l0_2 : List Int) (a1 : Int) (r1 : Int) (r2 : Int) (r3 : List Int) (w : World) (hr0_2 : Kd.C (Kd.int .i64) w A0_2 l0_2.length l0_2) (hc0_2 : l0_2.length ≤ c0_2) (h : spec_l5Later.f a0_0 a0_1 l0_2 a1 = some (r1, r2, r3)) :
  Calls Try.prog 93 #[.agg #[.int .i64 a0_0, .int .i64 a0_1, .slice A0_2 l0_2.length c0_2], .int .i64 a1] w fun e w' => ∃ v2_ : Value, e = .returned (.agg #[.int .i64 r1, .int .i64 r2, v2_]) ∧ Kd.R (Kd.int .i64) 3 w' w.heap.size (fun _ => True) v2_ r3 ∧ Below w.heap.size w w' := by
 unfold spec_l5Later.f at h
 obtain ⟨⟨b0, b1, b2⟩, hY, h⟩ := Option.bind_eq_some_iff.1 h
 simp only [Option.some.injEq, Prod.mk.injEq] at h
 obtain ⟨rfl, rfl, rfl⟩ := h
 have HY := Aside0.mk hY
 have HR := Aside0.mk hr0_2
 have HC := Aside0.mk hc0_2
 have HB := Aside0.mk (Below.refl w.heap.size w)
 clear hY hr0_2 hc0_2
 go_enter Try.func93, Try.ntmps93
 go_upto_region 1 with (first | ((with_reducible refine gate_dst (N := 2) rfl ?_);refine box_event ?hg (N := 2) ?hd (cs := #[.int .i64 a0_0, .int .i64 a0_1, .slice A0_2 l0_2.length c0_2]) (t := 27) ?hr ?_;(case hd => rfl);(case hg => rfl);(case hr => first | (go_simp;done) | (go_simp;rfl));intro gb1 hg wb1 hbox hb;have BK1 := Aside0.mk (hbox);have GE1 := Aside0.mk ((by rw [hg];exact below_size HB.out : w.heap.size ≤ gb1));replace HB := Aside0.mk (below_step HB.out hb);clear hb hbox hg) | ((with_reducible refine gate_dst (N := 4) rfl ?_);refine box_event ?hg (N := 4) ?hd (cs := #[.int .i64 0, .int .i64 0, .slice none 0 0]) (t := 27) ?hr ?_;(case hd => rfl);(case hg => rfl);(case hr => first | (go_simp;done) | (go_simp;rfl));intro gb2 hg wb2 hbox hb;have BK2 := Aside0.mk (hbox);have GE2 := Aside0.mk ((by rw [hg];exact below_size HB.out : w.heap.size ≤ gb2));replace HB := Aside0.mk (below_step HB.out hb);have NB1_2 := Aside0.mk ((by rw [hg];exact Nat.ne_of_lt (blk_lt BK1.out) : gb1 ≠ gb2));have NB2_1 := Aside0.mk ((by rw [hg];exact Nat.ne_of_gt (blk_lt BK1.out) : gb2 ≠ gb1));replace BK1 := Aside0.mk (blk_below BK1.out hb);clear hb hbox hg))
 have hz0 := (blk_cell BK1.out 0).trans (show _ = some (Value.int .i64 a0_0) from rfl)
 have hz1 := (blk_cell BK1.out 1).trans (show _ = some (Value.int .i64 a0_1) from rfl)
 have hz2 := (blk_cell BK1.out 2).trans (show _ = some (Value.slice A0_2 l0_2.length c0_2) from rfl)
 go_wp2_with (go_at_call 75;fail)
 clear hz0 hz1 hz2
 have HL1 := Aside0.mk (blk_lt BK1.out)
 have HL2 := Aside0.mk (blk_lt BK2.out)
 refine (spec_l3Copy.calls a0_0 a0_1 A0_2 c0_2 l0_2 b0 b1 b2 _ (Kd.C_below HR.out HB.out) HC.out HY.out).mono ?_
 rintro e w1 ⟨v3, rfl, hv, hb⟩
 obtain ⟨A3, c3, e3, hl3, hr3⟩ := Kd.R_reads hv
 subst e3
 have HV := Aside0.mk (Kd.R_lower (Kd.R_mono (ok' := fun k => wb2.heap.size ≤ k ∧ k < w1.heap.size) (Kd.R_bound hv) (fun k hk => ⟨hk.2.1, hk.2.2.1⟩)) HB.out.size)
 clear hv hr3 hl3
 have HS1 := Aside0.mk (show w.heap.size ≤ w1.heap.size from (below_step HB.out hb).size)
 have n0_ := Aside0.mk (blk_below BK1.out hb)
 have n1_ := Aside0.mk (blk_below BK2.out hb)
 have n2_ := Aside0.mk (below_step HB.out hb)
 clear BK1 BK2 HB hb
 have BK1 := n0_
 have BK2 := n1_
 have HB := n2_
 clear n0_ n1_ n2_
 go_upto_region 2 with (first | ((with_reducible refine gate_dst (N := 5) rfl ?_);refine box_event ?hg (N := 5) ?hd (cs := #[.int .i64 0, .int .i64 0, .slice none 0 0]) (t := 27) ?hr ?_;(case hd => rfl);(case hg => rfl);(case hr => first | (go_simp;done) | (go_simp;rfl));intro gb3 hg wb3 hbox hb;have GX := Aside0.mk (by rw [hg];exact Nat.le_refl _ : w1.heap.size ≤ gb3);have GE3 := Aside0.mk (by rw [hg];exact HS1.out : w.heap.size ≤ gb3);have NB1_3 := Aside0.mk (by rw [hg];exact Nat.ne_of_lt (blk_lt BK1.out) : gb1 ≠ gb3);have NB2_3 := Aside0.mk (by rw [hg];exact Nat.ne_of_lt (blk_lt BK2.out) : gb2 ≠ gb3);have NB3_2 := Aside0.mk (fun e => NB2_3.out e.symm : gb3 ≠ gb2);replace BK1 := Aside0.mk (blk_below BK1.out hb);replace BK2 := Aside0.mk (blk_below BK2.out hb);have BK3 := Aside0.mk (hbox);replace HB := Aside0.mk (below_step HB.out hb);replace HV := Aside0.mk (Kd.R_below HV.out hb);clear hbox hb hg) | ((with_reducible refine gate_store (t := 27) (p := 5) (v := .tmp 7) rfl ?_);refine store_blk (w0 := w) (base := w.heap.size) (e := 27) (g := gb3) (off := 0) (cur := #[.int .i64 0, .int .i64 0, .slice none 0 0]) (cur' := #[.int .i64 b0, .int .i64 b1, .slice A3 b2.length c3]) (u := .agg #[.int .i64 b0, .int .i64 b1, .slice A3 b2.length c3]) (seg := [.int .i64 b0, .int .i64 b1, .slice A3 b2.length c3]) rfl rfl rfl rfl rfl BK3.out rfl ?ht ?h1 (by simp) rfl HB.out GE3.out ?_;(case ht => kernel_rfl);(case h1 => intro q hq;simp only [List.mem_cons, List.not_mem_nil, or_false] at hq;first | (rcases hq with rfl | rfl | rfl <;> rfl) | (rcases hq with rfl | rfl <;> rfl) | (subst hq;rfl));intro ws_ hs_ hk_ hB_;replace BK3 := Aside0.mk (hs_);replace HB := Aside0.mk (hB_);replace HV := Aside0.mk (Kd.R_keep HV.out hk_ (fun k hk e => by have h1 := hk.1;have h2 := hk.2;have := HL1.out;have := HL2.out;have := GX.out;omega));replace BK1 := Aside0.mk (blk_keep BK1.out hk_ NB1_3.out);replace BK2 := Aside0.mk (blk_keep BK2.out hk_ NB2_3.out);clear hs_ hk_ hB_))
 have hz0 := (blk_cell BK3.out 0).trans (show _ = some (Value.int .i64 b0) from rfl)
 have hz1 := (blk_cell BK3.out 1).trans (show _ = some (Value.int .i64 b1) from rfl)
 have hz2 := (blk_cell BK3.out 2).trans (show _ = some (Value.slice A3 b2.length c3) from rfl)
 go_upto_region 3 with (first | ((with_reducible refine gate_store (t := 3) (p := 12) (v := .tmp 11) rfl ?_);refine store_blk (w0 := w) (base := w.heap.size) (e := 27) (g := gb3) (off := 1) (cur := #[.int .i64 b0, .int .i64 b1, .slice A3 b2.length c3]) (cur' := #[.int .i64 b0, .int .i64 (wrap64 (b1 + a1)), .slice A3 b2.length c3]) (u := .int .i64 (wrap64 (b1 + a1))) (seg := [.int .i64 (wrap64 (b1 + a1))]) rfl rfl rfl rfl rfl BK3.out rfl ?ht ?h1 (by simp) rfl HB.out GE3.out ?_;(case ht => kernel_rfl);(case h1 => intro q hq;simp only [List.mem_cons, List.not_mem_nil, or_false] at hq;first | (rcases hq with rfl | rfl | rfl <;> rfl) | (rcases hq with rfl | rfl <;> rfl) | (subst hq;rfl));intro ws_ hs_ hk_ hB_;replace BK3 := Aside0.mk (hs_);replace HB := Aside0.mk (hB_);replace HV := Aside0.mk (Kd.R_keep HV.out hk_ (fun k hk e => by have h1 := hk.1;have h2 := hk.2;have := HL1.out;have := HL2.out;have := GX.out;omega));replace BK1 := Aside0.mk (blk_keep BK1.out hk_ NB1_3.out);replace BK2 := Aside0.mk (blk_keep BK2.out hk_ NB2_3.out);clear hs_ hk_ hB_))
 clear hz0 hz1 hz2
 have hz0 := (blk_cell BK3.out 0).trans (show _ = some (Value.int .i64 b0) from rfl)
 have hz1 := (blk_cell BK3.out 1).trans (show _ = some (Value.int .i64 (wrap64 (b1 + a1))) from rfl)
 have hz2 := (blk_cell BK3.out 2).trans (show _ = some (Value.slice A3 b2.length c3) from rfl)
 go_wp2_with (first | ((with_reducible refine gate_store (t := 27) (p := 4) (v := .tmp 13) rfl ?_);refine store_blk (w0 := w) (base := w.heap.size) (e := 27) (g := gb2) (off := 0) (cur := #[.int .i64 0, .int .i64 0, .slice none 0 0]) (cur' := #[.int .i64 b0, .int .i64 (wrap64 (b1 + a1)), .slice A3 b2.length c3]) (u := .agg #[.int .i64 b0, .int .i64 (wrap64 (b1 + a1)), .slice A3 b2.length c3]) (seg := [.int .i64 b0, .int .i64 (wrap64 (b1 + a1)), .slice A3 b2.length c3]) rfl rfl rfl rfl rfl BK2.out rfl ?ht ?h1 (by simp) rfl HB.out GE2.out ?_;(case ht => kernel_rfl);(case h1 => intro q hq;simp only [List.mem_cons, List.not_mem_nil, or_false] at hq;first | (rcases hq with rfl | rfl | rfl <;> rfl) | (rcases hq with rfl | rfl <;> rfl) | (subst hq;rfl));intro ws_ hs_ hk_ hB_;replace BK2 := Aside0.mk (hs_);replace HB := Aside0.mk (hB_);replace HV := Aside0.mk (Kd.R_keep HV.out hk_ (fun k hk e => by have h1 := hk.1;have h2 := hk.2;have := HL1.out;have := HL2.out;omega));clear hs_ hk_ hB_))
 refine bodyPost_ret (results_cell_row rfl _ _ gb2 27 #[.int .i64 b0, .int .i64 (wrap64 (b1 + a1)), .slice A3 b2.length c3] (0, 0) _ rfl BK2.out Try.underlying27 rfl (by kernel_rfl)) rfl ?_
 exact ⟨_, rfl, Kd.R_mono HV.out (fun _ _ => trivial), HB.out⟩

end Go.Proofs.Ytiplpckgmikmeaa.M
namespace Go.Proofs.Ytiplpckgmikmeaa.M
open Go.RowKit Go.Proofs.YtiplpckgmikmeaaW.PrintWords Go.Proofs.YtiplpckgmikmeaaW.PrintLast Go.Proofs.YtiplpckgmikmeaaW.PrintMore
attribute [local go_sem] max2_int min2_int max_two min_two max_three min_three max_four min_four
set_option linter.unusedVariables false
set_option linter.unusedSimpArgs false

def spec_PlusOf.l0 : Nat → List S27 → Int → Int → List S27 → Int → Option (List S27)
 | 0, _, _, _, _, _ => none
 | k + 1, l, n, till, out, i => if i < (l.length : Int) then (if 0 ≤ i then (if wrap64 ((rd_T27 l i).f1 + n) ≤ till ∧ wrap64 ((rd_T27 l i).f1 + n) ≤ 2000 then (spec_l5Later.f (rd_T27 l i).f0 (rd_T27 l i).f1 (rd_T27 l i).f2 n).bind fun t => ((spec_l3Put.f k out t.1 t.2.1 t.2.2).bind fun out2 => spec_PlusOf.l0 k l n till out2 (wrap64 (i + 1))) else spec_PlusOf.l0 k l n till out (wrap64 (i + 1))) else none) else some out
def spec_PlusOf.f (k : Nat) (l0 : List S27) (a1 a2 : Int) : Option (List S27 × Bool) := (spec_OccsOk.f k l0).bind fun t => if t = true ∧ ¬ a1 < 1 ∧ ¬ a1 > 20 then (spec_PlusOf.l0 k l0 a1 a2 [] 0).bind fun m => spec_l4Told.f k m else some ([], false)
set_option maxHeartbeats 4000000 in
set_option maxRecDepth 100000 in
theorem spec_PlusOf.calls (k : Nat) (A0 : Option Addr) (c0 : Nat) (l0 : List (S27)) (a1 a2 : Int) (r1 : List (S27)) (r2 : Bool) (w : World) (hr0 : Kd.C k27 w A0 l0.length l0) (hc0 : l0.length ≤ c0) (h : spec_PlusOf.f k l0 a1 a2 = some (r1, r2)) :
  Calls Try.prog 62 #[.slice A0 l0.length c0, .int .i64 a1, .int .i64 a2] w fun e w' => ∃ v0_ : Value, e = .returned (.tuple #[v0_, .bool r2]) ∧ Kd.S k27 27 w' w.heap.size (fun _ => True) v0_ r1 ∧ Below w.heap.size w w' := by
 unfold spec_PlusOf.f at h
 obtain ⟨t, ht, h⟩ := Option.bind_eq_some_iff.1 h
 have HT := Aside0.mk ht
 have HH0 := Aside0.mk h
 have HR := Aside0.mk hr0
 have HC := Aside0.mk hc0
 clear ht h hr0 hc0
 go_enter Try.func62, Try.ntmps62
 go_wp2_with (go_at_call 28;fail)
 refine (spec_OccsOk.calls k A0 c0 l0 t _ HR.out HC.out HT.out).mono ?_
 rintro e w1 ⟨rfl, hb⟩
 have HB := Aside0.mk hb
 clear hb
 cases t with
 | false =>
  have HH := Aside0.mk (show some (([] : List S27), false) = some (r1, r2) from by have := HH0.out;rw [if_neg (by rintro ⟨h, _⟩;cases h)] at this;exact this)
  go_wp2_with (first | ((with_reducible refine gate_dst (N := 21) rfl ?_);refine Kd.S_lit k27 _ 27 ?hg (N := 21) ?hd (xs := ([] : List (S27))) (inner := []) (ok := fun _ => True) (okp := fun _ => True) ?hr ?hp (fun _ hk => hk) trivial (Below.refl _ _) (Nat.le_refl _) (by simp) ?_;(case hd => rfl);(case hg => rfl);(case hr => first | (go_simp;done) | (go_simp;rfl));(case hp => exact (Reps.none _ _));intro v21 wl hol hb hg_ hnew_;clear hg_ hnew_;have HS := Aside0.mk (Kd.S_lower hol HB.out.size);have n0_ := Aside0.mk (below_step HB.out hb);clear HB hol hb;have HB := n0_;clear n0_))
  go_ret2
  have h1 : ([], false) = (r1, r2) := Option.some.inj HH.out
  simp only [Prod.mk.injEq] at h1
  obtain ⟨rfl, rfl⟩ := h1
  exact ⟨_, rfl, HS.out, HB.out⟩
 | true =>
  by_cases n1 : a1 < 1
  ·have HH := Aside0.mk (show some (([] : List S27), false) = some (r1, r2) from by have := HH0.out;rw [if_neg (by rintro ⟨_, h1, h2⟩;omega)] at this;exact this)
   have d1 : decide (a1 < 1) = true := decide_eq_true n1
   go_wp2_with (first | ((with_reducible refine gate_dst (N := 21) rfl ?_);refine Kd.S_lit k27 _ 27 ?hg (N := 21) ?hd (xs := ([] : List (S27))) (inner := []) (ok := fun _ => True) (okp := fun _ => True) ?hr ?hp (fun _ hk => hk) trivial (Below.refl _ _) (Nat.le_refl _) (by simp) ?_;(case hd => rfl);(case hg => rfl);(case hr => first | (go_simp;done) | (go_simp;rfl));(case hp => exact (Reps.none _ _));intro v21 wl hol hb hg_ hnew_;clear hg_ hnew_;have HS := Aside0.mk (Kd.S_lower hol HB.out.size);have n0_ := Aside0.mk (below_step HB.out hb);clear HB hol hb;have HB := n0_;clear n0_))
   go_ret2
   have h1 : ([], false) = (r1, r2) := Option.some.inj HH.out
   simp only [Prod.mk.injEq] at h1
   obtain ⟨rfl, rfl⟩ := h1
   exact ⟨_, rfl, HS.out, HB.out⟩
  by_cases n2 : a1 > 20
  ·have HH := Aside0.mk (show some (([] : List S27), false) = some (r1, r2) from by have := HH0.out;rw [if_neg (by rintro ⟨_, h1, h2⟩;omega)] at this;exact this)
   have d1 : decide (a1 < 1) = false := decide_eq_false n1
   have d2 : decide (a1 > 20) = true := decide_eq_true n2
   go_wp2_with (first | ((with_reducible refine gate_dst (N := 21) rfl ?_);refine Kd.S_lit k27 _ 27 ?hg (N := 21) ?hd (xs := ([] : List (S27))) (inner := []) (ok := fun _ => True) (okp := fun _ => True) ?hr ?hp (fun _ hk => hk) trivial (Below.refl _ _) (Nat.le_refl _) (by simp) ?_;(case hd => rfl);(case hg => rfl);(case hr => first | (go_simp;done) | (go_simp;rfl));(case hp => exact (Reps.none _ _));intro v21 wl hol hb hg_ hnew_;clear hg_ hnew_;have HS := Aside0.mk (Kd.S_lower hol HB.out.size);have n0_ := Aside0.mk (below_step HB.out hb);clear HB hol hb;have HB := n0_;clear n0_))
   go_ret2
   have h1 : ([], false) = (r1, r2) := Option.some.inj HH.out
   simp only [Prod.mk.injEq] at h1
   obtain ⟨rfl, rfl⟩ := h1
   exact ⟨_, rfl, HS.out, HB.out⟩
  have d1 : decide (a1 < 1) = false := decide_eq_false n1
  have d2 : decide (a1 > 20) = false := decide_eq_false n2
  obtain ⟨m, hm, h⟩ := Option.bind_eq_some_iff.1 (show ((spec_PlusOf.l0 k l0 a1 a2 [] 0).bind fun m => spec_l4Told.f k m) = some (r1, r2) from by have := HH0.out;rw [if_pos ⟨rfl, by omega, by omega⟩] at this;exact this)
  have HH := Aside0.mk hm
  have HF := Aside0.mk h
  clear HH0 hm h
  go_wp2_with (first | ((with_reducible refine gate_dst (N := 22) rfl ?_);refine Kd.S_lit k27 _ 27 ?hg (N := 22) ?hd (xs := ([] : List (S27))) (inner := []) (ok := fun _ => True) (okp := fun _ => True) ?hr ?hp (fun _ hk => hk) trivial (Below.refl _ _) (Nat.le_refl _) (by simp) ?_;(case hd => rfl);(case hg => rfl);(case hr => first | (go_simp;done) | (go_simp;rfl));(case hp => exact (Reps.none _ _));intro v22 wl hol hb hg_ hnew_;clear hg_ hnew_;have HS := Aside0.mk (Kd.S_lower hol HB.out.size);have n0_ := Aside0.mk (below_step HB.out hb);clear HB hol hb;have HB := n0_;clear n0_))
  go_loopg [8, 9] k (fun kq v8 v9 w' => ∃ (out : List S27) (i : Int), v9 = .int .i64 i ∧ Aside0 (spec_PlusOf.l0 kq l0 a1 a2 out i = some m) ∧ Aside0 (kq ≤ k) ∧ Aside0 (Kd.S k27 27 w' w.heap.size (fun _ => True) v8 out) ∧ Aside0 (Below w.heap.size w w'))
  case atStart => exact ⟨[], 0, rfl, HH, ⟨Nat.le_refl _⟩, HS, HB⟩
  case round =>
   clear HS HB HH
   obtain ⟨out, i, rfl, HA, HK1, HS, HB⟩ := hrel
   cases gk with
   | zero => exact absurd HA.out (by simp [spec_PlusOf.l0])
   | succ k1 =>
    have H := HA.out
    clear HA
    simp only [spec_PlusOf.l0] at H
    by_cases c : i < (l0.length : Int)
    ·rw [if_pos c] at H
     by_cases c0_ : 0 ≤ i
     ·rw [if_pos c0_] at H
      obtain ⟨ad, A2, c2, e, h0, h1, h2, hl2, hg2⟩ := at_T27 HR.out i c0_ c
      subst e
      generalize rd_T27 l0 i = x at *
      have HL2 := Aside0.mk hl2
      have HG2 := Aside0.mk hg2
      clear hl2 hg2
      replace h0 := (HB.out.cell (World.block_lt_of_cell? w _ h0)).trans h0
      replace h1 := (HB.out.cell (World.block_lt_of_cell? w _ h1)).trans h1
      replace h2 := (HB.out.cell (World.block_lt_of_cell? w _ h2)).trans h2
      have p1 : (0 ≤ i) = True := eq_true c0_
      have q1 : (i < (l0.length : Int)) = True := eq_true c
      by_cases t1 : wrap64 (x.f1 + a1) ≤ a2
      ·have e1 : decide (wrap64 (x.f1 + a1) ≤ a2) = true := decide_eq_true t1
       by_cases t2 : wrap64 (x.f1 + a1) ≤ 2000
       ·have e2 : decide (wrap64 (x.f1 + a1) ≤ 2000) = true := decide_eq_true t2
        rw [if_pos ⟨t1, t2⟩] at H
        obtain ⟨⟨b0, b1, b2⟩, hL, H⟩ := Option.bind_eq_some_iff.1 H
        obtain ⟨out2, hP, H⟩ := Option.bind_eq_some_iff.1 H
        have HLt := Aside0.mk hL
        have HP := Aside0.mk hP
        have HH := Aside0.mk H
        clear hL hP H
        go_wp2_with (go_at_call 93;fail)
        refine (spec_l5Later.calls x.f0 x.f1 A2 c2 x.f2 a1 b0 b1 b2 _ (Kd.C_below HG2.out HB.out) HL2.out HLt.out).mono ?_
        rintro e w3 ⟨v3, rfl, hv, hb⟩
        have n0_ := Aside0.mk (Kd.S_below HS.out hb)
        have n1_ := Aside0.mk (below_step HB.out hb)
        obtain ⟨A3, c3, e3, hl3, hr3⟩ := Kd.R_reads hv
        subst e3
        have HL3 := Aside0.mk hl3
        have HR3 := Aside0.mk hr3
        clear HS HB hv hb hl3 hr3 h0 h1 h2
        have HS := n0_
        have HB := n1_
        clear n0_ n1_
        go_wp2_with (go_at_call 82;fail)
        refine (spec_l3Put.calls_base k1 (fun _ => True) _ out b0 b1 A3 c3 b2 out2 w.heap.size w _ HB.out HB.out.size HS.out HR3.out HL3.out HP.out).mono ?_
        rintro e w4 ⟨v4, rfl, hs4, hb4, _⟩
        have n0_ := Aside0.mk (Kd.S_mono (ok' := fun _ => True) hs4 (fun _ _ => trivial))
        have n1_ := Aside0.mk hb4
        clear HS HB hs4 hb4
        have HS := n0_
        have HB := n1_
        clear n0_ n1_
        go_wp2
        go_roundg k1
        case measure => have := HK1.out;omega
        case rel => exact ⟨out2, wrap64 (i + 1), rfl, HH, ⟨by have := HK1.out;omega⟩, HS, HB⟩
       ·have e2 : decide (wrap64 (x.f1 + a1) ≤ 2000) = false := decide_eq_false t2
        rw [if_neg (fun h => t2 h.2)] at H
        have HH := Aside0.mk H
        clear H
        go_wp2
        go_roundg k1
        case measure => have := HK1.out;omega
        case rel => exact ⟨out, wrap64 (i + 1), rfl, HH, ⟨by have := HK1.out;omega⟩, HS, HB⟩
      ·have e1 : decide (wrap64 (x.f1 + a1) ≤ a2) = false := decide_eq_false t1
       rw [if_neg (fun h => t1 h.1)] at H
       have HH := Aside0.mk H
       clear H
       go_wp2
       go_roundg k1
       case measure => have := HK1.out;omega
       case rel => exact ⟨out, wrap64 (i + 1), rfl, HH, ⟨by have := HK1.out;omega⟩, HS, HB⟩
     ·rw [if_neg c0_] at H
      cases H
    ·rw [if_neg c] at H
     obtain rfl := Option.some.inj H
     have q1 : (i < (l0.length : Int)) = False := eq_false c
     obtain ⟨A4, c4, e4, hl4, hr4⟩ := Kd.S_reads HS.out
     subst e4
     have HR4 := Aside0.mk hr4
     have HC4 := Aside0.mk hl4
     clear hl4 hr4
     go_wp2_with (go_at_call 86;fail)
     refine (spec_l4Told.calls k A4 c4 out r1 r2 _ HR4.out HC4.out HF.out).mono ?_
     rintro e w5 ⟨v5, rfl, hs, hb⟩
     have n0_ := Aside0.mk (Kd.S_lower hs HB.out.size)
     have n1_ := Aside0.mk (below_step HB.out hb)
     clear HS HB hs hb
     go_wp2
     go_ret2
     exact ⟨_, rfl, n0_.out, n1_.out⟩

end Go.Proofs.Ytiplpckgmikmeaa.M
namespace Go.Proofs.Ytiplpckgmikmeaa.M
open Go.RowKit Go.Proofs.YtiplpckgmikmeaaW.PrintWords Go.Proofs.YtiplpckgmikmeaaW.PrintLast Go.Proofs.YtiplpckgmikmeaaW.PrintMore
attribute [local go_sem] max2_int min2_int max_two min_two max_three min_three max_four min_four
set_option linter.unusedVariables false
set_option linter.unusedSimpArgs false

def spec_DrawOccsOk.f (k : Nat) (l0 : List Int) : Option ((List (S27))) := (spec_l14Open.f l0).bind fun bt101 => ((spec_l3Bent.f k bt101.1 bt101.2).bind fun bt104 => (some bt104.1))
set_option maxHeartbeats 8000000 in
set_option maxRecDepth 100000 in
theorem spec_DrawOccsOk.calls (k : Nat) (A0 : Option Addr) (c0 : Nat) (l0 : List Int) (r : List (S27)) (w : World) (hr0 : Kd.C (Kd.int .u8) w A0 l0.length l0) (hc0 : l0.length ≤ c0) (h : spec_DrawOccsOk.f k l0 = some r) :
  Calls Try.prog 63 #[.slice A0 l0.length c0] w fun e w' => ∃ v0_ : Value, e = .returned (v0_) ∧ Kd.N k27 27 w' w.heap.size (fun k_ => (w.heap.size ≤ k_)) v0_ r ∧ Below w.heap.size w w' := by
 have HR0 := Aside0.mk hr0
 have HC0 := Aside0.mk hc0
 clear hr0 hc0
 have HB := Aside0.mk (Below.refl w.heap.size w)
 have H : ((spec_l14Open.f l0).bind fun bt101 => ((spec_l3Bent.f k bt101.1 bt101.2).bind fun bt104 => (some bt104.1))) = some r := h
 clear h
 replace H := Option.bind_eq_some_iff.mp H
 obtain ⟨⟨t101, t102⟩, A20, H⟩ := H
 replace H : ((spec_l3Bent.f k t101 t102).bind fun bt104 => (some bt104.1)) = some r := H
 have A2 := Aside0.mk A20
 clear A20
 replace H := Option.bind_eq_some_iff.mp H
 obtain ⟨⟨t104, t107⟩, A30, H⟩ := H
 replace H : (some t104) = some r := H
 have A3 := Aside0.mk A30
 clear A30
 obtain rfl := Option.some.inj H
 go_enter Try.func63, Try.ntmps63
 go_wp2_with (first | ((with_reducible refine gate_callee (f := 72) rfl ?_);refine goesL_ (some 4) rfl rfl Try.func72 (by kernel_rfl) rfl #[.slice A0 l0.length c0] rfl (by (try simp only [List.map_toArray, List.map_cons, List.map_nil]);first | done | rfl | (simp only [List.length_drop, List.length_take];rfl)) ?_;(with_reducible refine (spec_l14Open.calls _ _ l0 t101 t102 w _ ?side1 ?side2 ?side3 A2.out).mono ?_);(case side1 => repeat (first | (with_reducible first | exact HB.out | apply below_alloc | apply pw_below_drewN | apply below_drew1) | exact HB.out));(case side2 => exact HR0.out);(case side3 => exact HC0.out);rintro e w4 ⟨g103, rfl, hi, hb, hb2⟩;refine ⟨_, rfl, ?_⟩;replace HB := Aside0.mk (hb);have HI103 := Aside0.mk (hi);(try clear hb);(try clear hb2);(try clear hk);(try clear hi)) | ((with_reducible refine gate_callee (f := 77) rfl ?_);refine goesL_ (some 5) rfl rfl Try.func77 (by kernel_rfl) rfl #[.pointer (some ⟨g103, 0, none⟩)] rfl (by (try simp only [List.map_toArray, List.map_cons, List.map_nil]);first | done | rfl | (simp only [List.length_drop, List.length_take];rfl)) ?_;(with_reducible refine (spec_l3Bent.calls k g103 t101 t102 t104 t107 w _ ?side1 ?side2 A3.out).mono ?_);(case side1 => repeat (first | (with_reducible first | exact HI103.out | apply IsS100.alloc | apply IsS100.drewN | apply IsS100.drew | apply IsS100.set_1) | exact HI103.out));(case side2 => repeat (first | (with_reducible first | exact HB.out | apply below_alloc | apply pw_below_drewN | apply below_drew1 | refine below_set ?_ (IsS100.ge HI103.out)) | exact HB.out));rintro e w5 ⟨v105, rfl, ho0, hi, hb, hk⟩;refine ⟨_, rfl, ?_⟩;have HO106 := Aside0.mk (Kd.N_lower (Kd.N_mono (ok' := fun k_ => (w.heap.size ≤ k_) ∧ k_ ≠ g103) ho0 (fun k_ hk_ => ⟨(Nat.le_trans (below_size (by repeat (first | (with_reducible first | exact HB.out | apply below_alloc | apply pw_below_drewN | apply below_drew1 | refine below_set ?_ (IsS100.ge HI103.out)) | exact HB.out))) hk_), (IsS100.fresh (by repeat (first | (with_reducible first | exact HI103.out | apply IsS100.alloc | apply IsS100.drewN | apply IsS100.drew | apply IsS100.set_1) | exact HI103.out)) k_ hk_)⟩)) (below_size (by repeat (first | (with_reducible first | exact HB.out | apply below_alloc | apply pw_below_drewN | apply below_drew1 | refine below_set ?_ (IsS100.ge HI103.out)) | exact HB.out))));replace HB := Aside0.mk (hb);replace HI103 := Aside0.mk (hi);(try clear hb);(try clear hb2);(try clear hk);(try clear hi);(try clear ho0)))
 go_ret
 exact ⟨_, by first | rfl | (simp [errW_none, errW_some] <;> rfl) | (simp [*, errW_none, errW_some] <;> rfl), by (with_reducible repeat (first | apply Kd.N_alloc | apply Kd.N_drewN | apply Kd.N_drew));exact Kd.N_mono HO106.out (fun _ hk => hk.1), by repeat (first | (with_reducible first | exact HB.out | apply below_alloc | apply pw_below_drewN | apply below_drew1 | refine below_set ?_ (IsS100.ge HI103.out)) | exact HB.out)⟩

end Go.Proofs.Ytiplpckgmikmeaa.M
