/- What the claim's law leans on: the program's functions, what they compute, and the law over plain values; no condition is asked. (Part 3 of 4.) -/
import Derived.Test.YtiplpckgmikmeaaCLawsFnOccOrder2
import Derived.Test.YtiplpckgmikmeaaVFnOccOrderWords
import Derived.Test.YtiplpckgmikmeaaVFnOccOrderLast
import Derived.Laws.BitsAllLaws
import Derived.Laws.BitsLemmas
namespace Go.Proofs.Ytiplpckgmikmeaa.M
open Go.RowKit Go.Proofs.YtiplpckgmikmeaaW.PrintWords Go.Proofs.YtiplpckgmikmeaaW.PrintLast Go.Proofs.YtiplpckgmikmeaaW.PrintMore
attribute [local go_sem] max2_int min2_int max_two min_two max_three min_three max_four min_four
set_option linter.unusedVariables false
set_option linter.unusedSimpArgs false

def spec_l3Bent.f (k : Nat) (s0_0 : List Int) (s0_1 : Int) : Option ((List (S27)) × Int) := (spec_l3Some.f k s0_0 s0_1 6).bind fun bt101 => (if (bt101.1.length : Int) = 0 then (some (bt101.1, bt101.2)) else ((spec_l14Rd_pick.f k s0_0 bt101.2 (bt101.1.length : Int)).bind fun bt105 => ((spec_l14Rd_pick.f k s0_0 bt105.2 40).bind fun bt107 => (if bt107.1 = 0 then (if 0 ≤ bt105.1 then (if bt105.1 < (bt101.1.length : Int) then ((spec_l14Rd_num.f k s0_0 bt107.2 (([0, wrap64 (((rd_T27 bt101.1 bt105.1).f1) + 1)] : List Int))).bind fun bt113 => (some ((bt101.1.set (bt105.1 : Int).toNat (⟨bt113.1, (rd_T27 bt101.1 bt105.1).f1, (rd_T27 bt101.1 bt105.1).f2⟩ : S27)), bt113.2))) else (none)) else (none)) else (if bt107.1 = 1 then ((spec_r0Ids.f k s0_0 bt107.2).bind fun bt116 => (if 0 ≤ bt105.1 then (if bt105.1 < (bt101.1.length : Int) then (some ((bt101.1.set (bt105.1 : Int).toNat (⟨(rd_T27 bt101.1 bt105.1).f0, (rd_T27 bt101.1 bt105.1).f1, bt116.1⟩ : S27)), bt116.2)) else (none)) else (none))) else (if bt107.1 = 2 then (if 0 < (bt101.1.length : Int) then (if bt101.1.length < 3518437208883 then (some ((bt101.1 ++ [(⟨(rd_T27 bt101.1 0).f0, (rd_T27 bt101.1 0).f1, (rd_T27 bt101.1 0).f2⟩ : S27)]), bt107.2)) else (none)) else (none)) else (if bt107.1 = 3 then (if 0 ≤ bt105.1 then (if bt105.1 < (bt101.1.length : Int) then (some ((bt101.1.set (bt105.1 : Int).toNat (⟨(rd_T27 bt101.1 bt105.1).f0, 2001, (rd_T27 bt101.1 bt105.1).f2⟩ : S27)), bt107.2)) else (none)) else (none)) else (some (bt101.1, bt107.2)))))))))
theorem spec_l3Bent.mono : ∀ a0 a1 k, LeO (spec_l3Bent.f k a0 a1) (spec_l3Bent.f (k + 1) a0 a1) := by
 intro a0 a1 k
 unfold spec_l3Bent.f
 repeat' first
   | (with_reducible exact spec_l14Rd_num.mono _ _ _ _)
   | (with_reducible exact spec_l14Rd_pick.mono _ _ _ _)
   | (with_reducible exact spec_l3Some.mono _ _ _ _)
   | (with_reducible exact spec_r0Ids.mono _ _ _)
   | (with_reducible exact LeO.refl _)
   | (with_reducible exact LeO.none _)
   | (with_reducible refine LeO.ite ?_ ?_)
   | (with_reducible refine LeO.bind ?_ (fun _ => ?_))
   | exact spec_l14Rd_num.mono _ _ _ _
   | exact spec_l14Rd_pick.mono _ _ _ _
   | exact spec_l3Some.mono _ _ _ _
   | exact spec_r0Ids.mono _ _ _
   | exact LeO.none _
   | refine LeO.ite ?_ ?_
   | refine LeO.bind ?_ (fun _ => ?_)
set_option maxHeartbeats 8000000 in
set_option maxRecDepth 100000 in
theorem spec_l3Bent.calls (k : Nat) (g : Nat) (s0_0 : List Int) (s0_1 : Int) (r1 : List (S27)) (r2 : Int) (w0 w : World) (hI : IsS100 w0 w g s0_0 s0_1) (hB : Below w0.heap.size w0 w) (h : spec_l3Bent.f k s0_0 s0_1 = some (r1, r2)) :
  Calls Try.prog 77 #[.pointer (some ⟨g, 0, none⟩)] w fun e w' => ∃ v0_ : Value, e = .returned (v0_) ∧ Kd.N k27 27 w' w.heap.size (fun k_ => (w.heap.size ≤ k_)) v0_ r1 ∧ IsS100 w0 w' g s0_0 r2 ∧ Below w0.heap.size w0 w' ∧ KeepBut w w' g none := by
 have hu27 := Try.underlying27
 have HI0 := Aside0.mk hI
 have HK := Aside0.mk (KeepBut.refl w g none)
 have HL := Aside0.mk hB.size
 clear hI
 have HW0 := Aside0.mk hB.size
 have HB := Aside0.mk hB
 clear hB
 have H : ((spec_l3Some.f k s0_0 s0_1 6).bind fun bt101 => (if (bt101.1.length : Int) = 0 then (some (bt101.1, bt101.2)) else ((spec_l14Rd_pick.f k s0_0 bt101.2 (bt101.1.length : Int)).bind fun bt105 => ((spec_l14Rd_pick.f k s0_0 bt105.2 40).bind fun bt107 => (if bt107.1 = 0 then (if 0 ≤ bt105.1 then (if bt105.1 < (bt101.1.length : Int) then ((spec_l14Rd_num.f k s0_0 bt107.2 (([0, wrap64 (((rd_T27 bt101.1 bt105.1).f1) + 1)] : List Int))).bind fun bt113 => (some ((bt101.1.set (bt105.1 : Int).toNat (⟨bt113.1, (rd_T27 bt101.1 bt105.1).f1, (rd_T27 bt101.1 bt105.1).f2⟩ : S27)), bt113.2))) else (none)) else (none)) else (if bt107.1 = 1 then ((spec_r0Ids.f k s0_0 bt107.2).bind fun bt116 => (if 0 ≤ bt105.1 then (if bt105.1 < (bt101.1.length : Int) then (some ((bt101.1.set (bt105.1 : Int).toNat (⟨(rd_T27 bt101.1 bt105.1).f0, (rd_T27 bt101.1 bt105.1).f1, bt116.1⟩ : S27)), bt116.2)) else (none)) else (none))) else (if bt107.1 = 2 then (if 0 < (bt101.1.length : Int) then (if bt101.1.length < 3518437208883 then (some ((bt101.1 ++ [(⟨(rd_T27 bt101.1 0).f0, (rd_T27 bt101.1 0).f1, (rd_T27 bt101.1 0).f2⟩ : S27)]), bt107.2)) else (none)) else (none)) else (if bt107.1 = 3 then (if 0 ≤ bt105.1 then (if bt105.1 < (bt101.1.length : Int) then (some ((bt101.1.set (bt105.1 : Int).toNat (⟨(rd_T27 bt101.1 bt105.1).f0, 2001, (rd_T27 bt101.1 bt105.1).f2⟩ : S27)), bt107.2)) else (none)) else (none)) else (some (bt101.1, bt107.2)))))))))) = some (r1, r2) := h
 clear h
 replace H := Option.bind_eq_some_iff.mp H
 obtain ⟨⟨t101, t104⟩, A20, H⟩ := H
 replace H : (if (t101.length : Int) = 0 then (some (t101, t104)) else ((spec_l14Rd_pick.f k s0_0 t104 (t101.length : Int)).bind fun bt105 => ((spec_l14Rd_pick.f k s0_0 bt105.2 40).bind fun bt107 => (if bt107.1 = 0 then (if 0 ≤ bt105.1 then (if bt105.1 < (t101.length : Int) then ((spec_l14Rd_num.f k s0_0 bt107.2 (([0, wrap64 (((rd_T27 t101 bt105.1).f1) + 1)] : List Int))).bind fun bt113 => (some ((t101.set (bt105.1 : Int).toNat (⟨bt113.1, (rd_T27 t101 bt105.1).f1, (rd_T27 t101 bt105.1).f2⟩ : S27)), bt113.2))) else (none)) else (none)) else (if bt107.1 = 1 then ((spec_r0Ids.f k s0_0 bt107.2).bind fun bt116 => (if 0 ≤ bt105.1 then (if bt105.1 < (t101.length : Int) then (some ((t101.set (bt105.1 : Int).toNat (⟨(rd_T27 t101 bt105.1).f0, (rd_T27 t101 bt105.1).f1, bt116.1⟩ : S27)), bt116.2)) else (none)) else (none))) else (if bt107.1 = 2 then (if 0 < (t101.length : Int) then (if t101.length < 3518437208883 then (some ((t101 ++ [(⟨(rd_T27 t101 0).f0, (rd_T27 t101 0).f1, (rd_T27 t101 0).f2⟩ : S27)]), bt107.2)) else (none)) else (none)) else (if bt107.1 = 3 then (if 0 ≤ bt105.1 then (if bt105.1 < (t101.length : Int) then (some ((t101.set (bt105.1 : Int).toNat (⟨(rd_T27 t101 bt105.1).f0, 2001, (rd_T27 t101 bt105.1).f2⟩ : S27)), bt107.2)) else (none)) else (none)) else (some (t101, bt107.2))))))))) = some (r1, r2) := H
 have A2 := Aside0.mk A20
 clear A20
 by_cases c3 : (t101.length : Int) = 0
 ·rw [if_pos c3] at H
  have c3b0 : ((t101.length : Int) == 0) = true := beq_iff_eq.mpr c3
  have c3b1 : ((t101.length : Int) != 0) = false := bne_eq_false_iff_eq.mpr c3
  clear c3
  simp only [Option.some.injEq, Prod.mk.injEq] at H
  obtain ⟨rfl, rfl⟩ := H
  go_enter Try.func77, Try.ntmps77
  go_wp2_with (first | ((with_reducible refine gate_callee (f := 96) rfl ?_);refine goesL_ (some 6) rfl rfl Try.func96 (by kernel_rfl) rfl #[.pointer (some ⟨g, 0, none⟩), .int .i64 6] rfl (by (try simp only [List.map_toArray, List.map_cons, List.map_nil]);first | done | rfl | (simp only [List.length_drop, List.length_take];rfl)) ?_;(with_reducible refine (spec_l3Some.calls k g s0_0 s0_1 6 t101 t104 w0 _ ?side1 ?side2 A2.out).mono ?_);(case side1 => repeat (first | (with_reducible first | exact HI0.out | apply IsS100.alloc | apply IsS100.drewN | apply IsS100.drew | apply IsS100.set_1) | exact HI0.out));(case side2 => repeat (first | (with_reducible first | exact HB.out | apply below_alloc | apply pw_below_drewN | apply below_drew1 | refine below_set ?_ (IsS100.ge HI0.out)) | exact HB.out));rintro e w4 ⟨v102, rfl, ho0, hi, hb, hk⟩;refine ⟨_, rfl, ?_⟩;have HO103 := Aside0.mk (Kd.N_lower (Kd.N_mono (ok' := fun k_ => (w.heap.size ≤ k_) ∧ k_ ≠ g) (Kd.S_N (Kd.S_bound ho0)) (fun k_ hk_ => ⟨(Nat.le_trans (keep_size (w := w) (g := g) (row := none) (by repeat (first | (with_reducible first | exact HK.out | apply KeepBut.set_ | apply keep_drewN | apply keep_drew | apply keep_alloc) | exact HK.out))) hk_.2.1), (IsS100.fresh (by repeat (first | (with_reducible first | exact HI0.out | apply IsS100.alloc | apply IsS100.drewN | apply IsS100.drew | apply IsS100.set_1) | exact HI0.out)) k_ hk_.2.1)⟩)) (keep_size (w := w) (g := g) (row := none) (by repeat (first | (with_reducible first | exact HK.out | apply KeepBut.set_ | apply keep_drewN | apply keep_drew | apply keep_alloc) | exact HK.out))));replace HK := Aside0.mk (KeepBut.trans (by repeat (first | (with_reducible first | exact HK.out | apply KeepBut.set_ | apply keep_drewN | apply keep_drew | apply keep_alloc) | exact HK.out)) hk (.inl rfl));replace HB := Aside0.mk (hb);replace HI0 := Aside0.mk (hi);(try clear hb);(try clear hb2);(try clear hk);(try clear hi);(try clear ho0);obtain ⟨Ao5, co5, eo5⟩ := Kd.N_slice HO103.out;subst eo5))
  go_ret
  exact ⟨_, by first | rfl | (simp [errW_none, errW_some] <;> rfl) | (simp [*, errW_none, errW_some] <;> rfl), by (with_reducible repeat (first | apply Kd.N_alloc | apply Kd.N_drewN | apply Kd.N_drew));exact Kd.N_mono HO103.out (fun _ hk => hk.1), by repeat (first | (with_reducible first | exact HI0.out | apply IsS100.alloc | apply IsS100.drewN | apply IsS100.drew | apply IsS100.set_1) | exact HI0.out), by repeat (first | (with_reducible first | exact HB.out | apply below_alloc | apply pw_below_drewN | apply below_drew1 | refine below_set ?_ (IsS100.ge HI0.out)) | exact HB.out), by repeat (first | (with_reducible first | exact HK.out | apply KeepBut.set_ | apply keep_drewN | apply keep_drew | apply keep_alloc) | exact HK.out)⟩
 ·rw [if_neg c3] at H
  have c3b0 : ((t101.length : Int) == 0) = false := beq_eq_false_iff_ne.mpr c3
  have c3b1 : ((t101.length : Int) != 0) = true := bne_iff_ne.mpr c3
  have c3b2 : ¬ (t101 = []) := fun h_ => c3 (by rw [h_];rfl)
  replace H := Option.bind_eq_some_iff.mp H
  obtain ⟨⟨t105, t106⟩, A60, H⟩ := H
  replace H : ((spec_l14Rd_pick.f k s0_0 t106 40).bind fun bt107 => (if bt107.1 = 0 then (if 0 ≤ t105 then (if t105 < (t101.length : Int) then ((spec_l14Rd_num.f k s0_0 bt107.2 (([0, wrap64 (((rd_T27 t101 t105).f1) + 1)] : List Int))).bind fun bt113 => (some ((t101.set (t105 : Int).toNat (⟨bt113.1, (rd_T27 t101 t105).f1, (rd_T27 t101 t105).f2⟩ : S27)), bt113.2))) else (none)) else (none)) else (if bt107.1 = 1 then ((spec_r0Ids.f k s0_0 bt107.2).bind fun bt116 => (if 0 ≤ t105 then (if t105 < (t101.length : Int) then (some ((t101.set (t105 : Int).toNat (⟨(rd_T27 t101 t105).f0, (rd_T27 t101 t105).f1, bt116.1⟩ : S27)), bt116.2)) else (none)) else (none))) else (if bt107.1 = 2 then (if 0 < (t101.length : Int) then (if t101.length < 3518437208883 then (some ((t101 ++ [(⟨(rd_T27 t101 0).f0, (rd_T27 t101 0).f1, (rd_T27 t101 0).f2⟩ : S27)]), bt107.2)) else (none)) else (none)) else (if bt107.1 = 3 then (if 0 ≤ t105 then (if t105 < (t101.length : Int) then (some ((t101.set (t105 : Int).toNat (⟨(rd_T27 t101 t105).f0, 2001, (rd_T27 t101 t105).f2⟩ : S27)), bt107.2)) else (none)) else (none)) else (some (t101, bt107.2))))))) = some (r1, r2) := H
  have A6 := Aside0.mk A60
  clear A60
  replace H := Option.bind_eq_some_iff.mp H
  obtain ⟨⟨t107, t108⟩, A70, H⟩ := H
  replace H : (if t107 = 0 then (if 0 ≤ t105 then (if t105 < (t101.length : Int) then ((spec_l14Rd_num.f k s0_0 t108 (([0, wrap64 (((rd_T27 t101 t105).f1) + 1)] : List Int))).bind fun bt113 => (some ((t101.set (t105 : Int).toNat (⟨bt113.1, (rd_T27 t101 t105).f1, (rd_T27 t101 t105).f2⟩ : S27)), bt113.2))) else (none)) else (none)) else (if t107 = 1 then ((spec_r0Ids.f k s0_0 t108).bind fun bt116 => (if 0 ≤ t105 then (if t105 < (t101.length : Int) then (some ((t101.set (t105 : Int).toNat (⟨(rd_T27 t101 t105).f0, (rd_T27 t101 t105).f1, bt116.1⟩ : S27)), bt116.2)) else (none)) else (none))) else (if t107 = 2 then (if 0 < (t101.length : Int) then (if t101.length < 3518437208883 then (some ((t101 ++ [(⟨(rd_T27 t101 0).f0, (rd_T27 t101 0).f1, (rd_T27 t101 0).f2⟩ : S27)]), t108)) else (none)) else (none)) else (if t107 = 3 then (if 0 ≤ t105 then (if t105 < (t101.length : Int) then (some ((t101.set (t105 : Int).toNat (⟨(rd_T27 t101 t105).f0, 2001, (rd_T27 t101 t105).f2⟩ : S27)), t108)) else (none)) else (none)) else (some (t101, t108)))))) = some (r1, r2) := H
  have A7 := Aside0.mk A70
  clear A70
  by_cases c8 : t107 = 0
  ·rw [if_pos c8] at H
   have c8b0 : (t107 == 0) = true := beq_iff_eq.mpr c8
   have c8b1 : (t107 != 0) = false := bne_eq_false_iff_eq.mpr c8
   clear c8
   by_cases c9 : 0 ≤ t105
   ·rw [if_pos c9] at H
    have c9b0 : decide (0 ≤ t105) = true := decide_eq_true c9
    clear c9
    by_cases c10 : t105 < (t101.length : Int)
    ·rw [if_pos c10] at H
     have c10b0 : decide (t105 < (t101.length : Int)) = true := decide_eq_true c10
     clear c10
     obtain ⟨y110, hy110⟩ : ∃ y_ : List Int, y_ = (([0, wrap64 (((rd_T27 t101 t105).f1) + 1)] : List Int)) := ⟨_, rfl⟩
     replace H : ((spec_l14Rd_num.f k s0_0 t108 y110).bind fun bt113 => (some ((t101.set (t105 : Int).toNat (⟨bt113.1, (rd_T27 t101 t105).f1, (rd_T27 t101 t105).f2⟩ : S27)), bt113.2))) = some (r1, r2) := by first | (rw [hy110];with_reducible exact H) | (have H2_ := (Option.bind_some _ _).symm.trans H;rw [hy110];with_reducible exact H2_) | (have H2_ := (Option.bind_some _ _).symm.trans H;with_reducible exact H2_) | with_reducible exact H | (rw [hy110];exact H) | exact H
     have Ny110 := Aside0.mk hy110
     clear hy110
     replace H := Option.bind_eq_some_iff.mp H
     obtain ⟨⟨t113, t114⟩, A110, H⟩ := H
     replace H : (some ((t101.set (t105 : Int).toNat (⟨t113, (rd_T27 t101 t105).f1, (rd_T27 t101 t105).f2⟩ : S27)), t114)) = some (r1, r2) := H
     have A11 := Aside0.mk A110
     clear A110
     obtain ⟨y115, hy115⟩ : ∃ y_ : List (S27), y_ = (t101.set (t105 : Int).toNat (⟨t113, (rd_T27 t101 t105).f1, (rd_T27 t101 t105).f2⟩ : S27)) := ⟨_, rfl⟩
     replace H : (some (y115, t114)) = some (r1, r2) := by first | (rw [hy115];with_reducible exact H) | (have H2_ := (Option.bind_some _ _).symm.trans H;rw [hy115];with_reducible exact H2_) | (have H2_ := (Option.bind_some _ _).symm.trans H;with_reducible exact H2_) | with_reducible exact H | (rw [hy115];exact H) | exact H
     have Ny115 := Aside0.mk hy115
     clear hy115
     simp only [Option.some.injEq, Prod.mk.injEq] at H
     obtain ⟨rfl, rfl⟩ := H
     go_enter Try.func77, Try.ntmps77
     go_wp2_with (first | ((with_reducible refine gate_callee (f := 96) rfl ?_);refine goesL_ (some 6) rfl rfl Try.func96 (by kernel_rfl) rfl #[.pointer (some ⟨g, 0, none⟩), .int .i64 6] rfl (by (try simp only [List.map_toArray, List.map_cons, List.map_nil]);first | done | rfl | (simp only [List.length_drop, List.length_take];rfl)) ?_;(with_reducible refine (spec_l3Some.calls k g s0_0 s0_1 6 t101 t104 w0 _ ?side1 ?side2 A2.out).mono ?_);(case side1 => repeat (first | (with_reducible first | exact HI0.out | apply IsS100.alloc | apply IsS100.drewN | apply IsS100.drew | apply IsS100.set_1) | exact HI0.out));(case side2 => repeat (first | (with_reducible first | exact HB.out | apply below_alloc | apply pw_below_drewN | apply below_drew1 | refine below_set ?_ (IsS100.ge HI0.out)) | exact HB.out));rintro e w13 ⟨v102, rfl, ho0, hi, hb, hk⟩;refine ⟨_, rfl, ?_⟩;have HO103 := Aside0.mk (Kd.N_lower (Kd.N_mono (ok' := fun k_ => (w.heap.size ≤ k_) ∧ k_ ≠ g) (Kd.S_N (Kd.S_bound ho0)) (fun k_ hk_ => ⟨(Nat.le_trans (keep_size (w := w) (g := g) (row := none) (by repeat (first | (with_reducible first | exact HK.out | apply KeepBut.set_ | apply keep_drewN | apply keep_drew | apply keep_alloc) | exact HK.out))) hk_.2.1), (IsS100.fresh (by repeat (first | (with_reducible first | exact HI0.out | apply IsS100.alloc | apply IsS100.drewN | apply IsS100.drew | apply IsS100.set_1) | exact HI0.out)) k_ hk_.2.1)⟩)) (keep_size (w := w) (g := g) (row := none) (by repeat (first | (with_reducible first | exact HK.out | apply KeepBut.set_ | apply keep_drewN | apply keep_drew | apply keep_alloc) | exact HK.out))));replace HK := Aside0.mk (KeepBut.trans (by repeat (first | (with_reducible first | exact HK.out | apply KeepBut.set_ | apply keep_drewN | apply keep_drew | apply keep_alloc) | exact HK.out)) hk (.inl rfl));replace HB := Aside0.mk (hb);replace HI0 := Aside0.mk (hi);(try clear hb);(try clear hb2);(try clear hk);(try clear hi);(try clear ho0);obtain ⟨Ao14, co14, eo14⟩ := Kd.N_slice HO103.out;subst eo14) | ((with_reducible refine gate_callee (f := 74) rfl ?_);refine goesL_ (some 14) rfl rfl Try.func74 (by kernel_rfl) rfl #[.pointer (some ⟨g, 0, none⟩), .int .i64 (t101.length : Int)] rfl (by (try simp only [List.map_toArray, List.map_cons, List.map_nil]);first | done | rfl | (simp only [List.length_drop, List.length_take];rfl)) ?_;(with_reducible refine (spec_l14Rd_pick.calls k g s0_0 t104 (t101.length : Int) t105 t106 w0 _ ?side1 ?side2 A6.out).mono ?_);(case side1 => repeat (first | (with_reducible first | exact HI0.out | apply IsS100.alloc | apply IsS100.drewN | apply IsS100.drew | apply IsS100.set_1) | exact HI0.out));(case side2 => repeat (first | (with_reducible first | exact HB.out | apply below_alloc | apply pw_below_drewN | apply below_drew1 | refine below_set ?_ (IsS100.ge HI0.out)) | exact HB.out));rintro e w15 ⟨rfl, hi, hb, hk⟩;refine ⟨_, rfl, ?_⟩;replace HO103 := Aside0.mk (Kd.N_mono (Kd.N_keep (Kd.N_mono (ok := fun k_ => (((w.heap.size ≤ k_)) ∧ k_ ≠ g)) (by exact HO103.out) (fun k_ hk_ => (⟨hk_, hk_.2⟩ : _ ∧ k_ ≠ g))) hk (fun _ h => h.2)) (fun _ h => h.1));replace HK := Aside0.mk (KeepBut.trans (by repeat (first | (with_reducible first | exact HK.out | apply KeepBut.set_ | apply keep_drewN | apply keep_drew | apply keep_alloc) | exact HK.out)) hk (.inl rfl));replace HB := Aside0.mk (hb);replace HI0 := Aside0.mk (hi);(try clear hb);(try clear hb2);(try clear hk);(try clear hi)) | ((with_reducible refine gate_callee (f := 74) rfl ?_);refine goesL_ (some 16) rfl rfl Try.func74 (by kernel_rfl) rfl #[.pointer (some ⟨g, 0, none⟩), .int .i64 40] rfl (by (try simp only [List.map_toArray, List.map_cons, List.map_nil]);first | done | rfl | (simp only [List.length_drop, List.length_take];rfl)) ?_;(with_reducible refine (spec_l14Rd_pick.calls k g s0_0 t106 40 t107 t108 w0 _ ?side1 ?side2 A7.out).mono ?_);(case side1 => repeat (first | (with_reducible first | exact HI0.out | apply IsS100.alloc | apply IsS100.drewN | apply IsS100.drew | apply IsS100.set_1) | exact HI0.out));(case side2 => repeat (first | (with_reducible first | exact HB.out | apply below_alloc | apply pw_below_drewN | apply below_drew1 | refine below_set ?_ (IsS100.ge HI0.out)) | exact HB.out));rintro e w16 ⟨rfl, hi, hb, hk⟩;refine ⟨_, rfl, ?_⟩;replace HO103 := Aside0.mk (Kd.N_mono (Kd.N_keep (Kd.N_mono (ok := fun k_ => (((w.heap.size ≤ k_)) ∧ k_ ≠ g)) (by exact HO103.out) (fun k_ hk_ => (⟨hk_, hk_.2⟩ : _ ∧ k_ ≠ g))) hk (fun _ h => h.2)) (fun _ h => h.1));replace HK := Aside0.mk (KeepBut.trans (by repeat (first | (with_reducible first | exact HK.out | apply KeepBut.set_ | apply keep_drewN | apply keep_drew | apply keep_alloc) | exact HK.out)) hk (.inl rfl));replace HB := Aside0.mk (hb);replace HI0 := Aside0.mk (hi);(try clear hb);(try clear hb2);(try clear hk);(try clear hi);have p109 : 0 ≤ (t105 : Int) := of_decide_eq_true (by first | (with_reducible assumption) | assumption);have q109 : t105 < (t101.length : Int) := of_decide_eq_true (by first | (with_reducible assumption) | assumption);obtain ⟨ad109, A109_2, c109_2, e109, hx109_0, hx109_1, hx109_2, hl109_2, hi109_2⟩ := at_T27 (Kd.N_reads' HO103.out).2.2 t105 p109 q109;cases e109;obtain ⟨ce109, hce109, hMe109, hcc109⟩ := Kd.N_get HO103.out z27 t105 p109 (by first | exact q109 | exact of_decide_eq_true (by first | (with_reducible assumption) | assumption) | (have e_ := (Kd.N_reads' HO103.out).1;omega));obtain ⟨ua109_2, uc109_2, rfl, ul109_2, ge109_2⟩ := k27_openF hMe109;have hv109_2 := hcc109 2 _ rfl;rw [add_field _ _ 2 (by omega)] at hv109_2;replace hv109_2 := Option.some.inj (hv109_2.symm.trans hx109_2);injection hv109_2 with hva_ hvn_ hvc_;rw [hva_] at ge109_2;rw [hvc_] at ul109_2;have HL109_2 := Aside0.mk (show Kd.V (Kd.int .i64) 3 _ w.heap.size _ _ ((rd_T27 t101 t105).f2) from Kd.V_mk ul109_2 ge109_2);clear hva_ hvn_ hvc_ ge109_2 ul109_2;clear hcc109 hce109;have HR109_2 := Aside0.mk hi109_2;have HC109_2 := Aside0.mk hl109_2;clear hi109_2 hl109_2;replace p109 := eq_true p109;replace q109 := eq_true q109) | ((with_reducible refine gate_dst (N := 28) rfl ?_);refine Kd.R_lit (Kd.int .i64) _ 3 ?hg (N := 28) ?hd (xs := ([0, wrap64 (((rd_T27 t101 t105).f1) + 1)] : List Int)) (inner := [.int .i64 0, .int .i64 (wrap64 (((rd_T27 t101 t105).f1) + 1))]) (ok := fun _ => True) (okp := fun _ => True) ?hr ?hp (fun _ hk => hk) trivial (Below.refl _ _) (Nat.le_refl _) (by simp) ?_;(case hd => rfl);(case hg => rfl);(case hr => first | (go_simp;done) | (go_simp;rfl));(case hp => exact (Reps.one (show Kd.M (Kd.int .i64) _ _ _ 0 [.int .i64 0] from rfl) (Reps.one (show Kd.M (Kd.int .i64) _ _ _ (wrap64 (((rd_T27 t101 t105).f1) + 1)) [.int .i64 (wrap64 (((rd_T27 t101 t105).f1) + 1))] from rfl) (Reps.none _ _))));intro v111 w17 ho18 hb hg_ hnew_;clear hg_ hnew_;(first | rw [← Ny110.out] at ho18 | (simp only [Int.reduceToNat] at ho18;rw [← Ny110.out] at ho18));replace HO103 := Aside0.mk (Kd.N_elder' (by exact HO103.out) (Kd.R_base ho18) hb);replace HL109_2 := Aside0.mk (Kd.V_elder' (by exact HL109_2.out) (Kd.R_base ho18) hb);have HO112 := Aside0.mk (Kd.R_lower (Kd.R_newM (M := fun k_ => (w.heap.size ≤ k_)) ho18 (keep_size (w := w) (g := g) (row := none) (by repeat (first | (with_reducible first | exact HK.out | apply KeepBut.set_ | apply keep_drewN | apply keep_drew | apply keep_alloc) | exact HK.out))) (fun k_ h_ => h_)) (keep_size (w := w) (g := g) (row := none) (by repeat (first | (with_reducible first | exact HK.out | apply KeepBut.set_ | apply keep_drewN | apply keep_drew | apply keep_alloc) | exact HK.out))));replace HR109_2 := Aside0.mk (Kd.C_below (by repeat (first | (with_reducible exact HR109_2.out) | (with_reducible refine Kd.C_alloc ?_ _) | (with_reducible refine Kd.C_drewN ?_ _) | (with_reducible refine Kd.C_drew ?_) | exact HR109_2.out)) hb);replace HK := Aside0.mk (KeepBut.trans (by repeat (first | (with_reducible first | exact HK.out | apply KeepBut.set_ | apply keep_drewN | apply keep_drew | apply keep_alloc) | exact HK.out)) (KeepBut.of_below hb g none) (.inl rfl));replace HB := Aside0.mk (below_step (by repeat (first | (with_reducible first | exact HB.out | apply below_alloc | apply pw_below_drewN | apply below_drew1 | refine below_set ?_ (IsS100.ge HI0.out)) | exact HB.out)) hb);replace HI0 := Aside0.mk (IsS100.below (by repeat (first | (with_reducible first | exact HI0.out | apply IsS100.alloc | apply IsS100.drewN | apply IsS100.drew | apply IsS100.set_1) | exact HI0.out)) hb);clear hb ho18;obtain ⟨Ao19, co19, eo19⟩ := Kd.R_slice HO112.out;subst eo19) | ((with_reducible refine gate_callee (f := 91) rfl ?_);refine goesL_ (some 29) rfl rfl Try.func91 (by kernel_rfl) rfl #[.pointer (some ⟨g, 0, none⟩), .slice Ao19 y110.length co19] rfl (by (try simp only [List.map_toArray, List.map_cons, List.map_nil]);first | done | rfl | (simp only [List.length_drop, List.length_take];rfl)) ?_;(with_reducible refine (spec_l14Rd_num.calls k g s0_0 t108 _ _ y110 t113 t114 w0 _ ?side1 ?side2 ?side3 ?side4 ?side5 A11.out).mono ?_);(case side1 => repeat (first | (with_reducible first | exact HI0.out | apply IsS100.alloc | apply IsS100.drewN | apply IsS100.drew | apply IsS100.set_1) | exact HI0.out));(case side2 => repeat (first | (with_reducible first | exact HB.out | apply below_alloc | apply pw_below_drewN | apply below_drew1 | refine below_set ?_ (IsS100.ge HI0.out)) | exact HB.out));(case side3 => repeat (first | exact (Kd.R_reads' HO112.out).2.2 | (with_reducible refine Kd.C_alloc ?_ _) | (with_reducible refine Kd.C_drewN ?_ _) | (with_reducible refine Kd.C_drew ?_)));(case side4 => exact (Kd.R_reads' HO112.out).2.1);(case side5 => exact far_slice (IsS100.own_ne HI0.out HO112.out (by decide)));rintro e w20 ⟨rfl, hi, hb, hk⟩;refine ⟨_, rfl, ?_⟩;replace HO103 := Aside0.mk (Kd.N_mono (Kd.N_keep (Kd.N_mono (ok := fun k_ => ((((w.heap.size ≤ k_)) ∧ k_ ≠ g) ∧ some k_ ≠ (.slice Ao19 y110.length co19 : Value).ownBlock)) (by exact HO103.out) (fun k_ hk_ => (⟨hk_, hk_.1.2⟩ : _ ∧ k_ ≠ g))) hk (fun _ h => h.2)) (fun _ h => h.1));replace HL109_2 := Aside0.mk (Kd.V_mono (Kd.V_keep (Kd.V_mono (ok := fun k_ => (((((w.heap.size ≤ k_)) ∧ k_ ≠ g) ∧ some k_ ≠ (.slice (some ad109) t101.length co14 : Value).ownBlock) ∧ some k_ ≠ (.slice Ao19 y110.length co19 : Value).ownBlock)) (by exact HL109_2.out) (fun k_ hk_ => (⟨hk_, hk_.1.1.2⟩ : _ ∧ k_ ≠ g))) hk (fun _ h => h.2)) (fun _ h => h.1));replace HO112 := Aside0.mk (Kd.R_mono (Kd.R_keep (IsS100.apart (show IsS100 w0 _ g s0_0 t108 from by repeat (first | (with_reducible first | exact HI0.out | apply IsS100.alloc | apply IsS100.drewN | apply IsS100.drew | apply IsS100.set_1) | exact HI0.out)) (by exact HO112.out) (by decide)) hk (fun _ h => h.2)) (fun _ h => h.1));replace HK := Aside0.mk (KeepBut.trans (by repeat (first | (with_reducible first | exact HK.out | apply KeepBut.set_ | apply keep_drewN | apply keep_drew | apply keep_alloc) | exact HK.out)) hk (.inl rfl));replace HB := Aside0.mk (hb);replace HI0 := Aside0.mk (hi);(try clear hb);(try clear hb2);(try clear hk);(try clear hi);have p12 : 0 ≤ (t105 : Int) := of_decide_eq_true (by first | (with_reducible assumption) | assumption);have q12 : (t105 : Int) < ((t101.length : Int) : Int) := of_decide_eq_true (by first | (with_reducible assumption) | assumption);obtain ⟨go12, co12, eo12, gb12, gl12, cl12, HG12⟩ := Kd.N_form HO103.out (by omega);(first | cases eo12 | (injection eo12 with ea_ en_ ec_;(first | subst ea_ | (injection ea_ with ea_;subst ea_));subst ec_;clear en_));have GB12 := Aside0.mk gb12;have GG12 := Aside0.mk HG12;clear gb12 gl12 HG12;(first | simp only [add_plain] at hx109_0 | skip);(first | simp only [add_plain] at hx109_1 | skip);(first | simp only [add_plain] at hx109_2 | skip);obtain ⟨ce12, hcl12, hM12, hcc12, hfr12⟩ := Kd.N_elem HO103.out z27 (t105 : Int) p12 q12;obtain ⟨ua12_2, uc12_2, rfl, ul12_2, ge12_2⟩ := k27_openF hM12;have hx12_0 : w20.cell? ⟨go12, (t105 : Int).toNat * 3, none⟩ = some (.int .i64 ((rd_T27 t101 t105).f0)) := hcc12 0 _ rfl;have hx12_1 : w20.cell? ⟨go12, (t105 : Int).toNat * 3 + 1, none⟩ = some (.int .i64 ((rd_T27 t101 t105).f1)) := hcc12 1 _ rfl;have hx12_2 : w20.cell? ⟨go12, (t105 : Int).toNat * 3 + 2, none⟩ = some (.slice ua12_2 ((rd_T27 t101 t105).f2).length uc12_2) := hcc12 2 _ rfl;have hf12_0 : w20.frozen? ⟨go12, (t105 : Int).toNat * 3, none⟩ = false := hfr12 0;have hf12_1 : w20.frozen? ⟨go12, (t105 : Int).toNat * 3 + 1, none⟩ = false := hfr12 1;have hf12_2 : w20.frozen? ⟨go12, (t105 : Int).toNat * 3 + 2, none⟩ = false := hfr12 2;clear hcl12 hcc12 hfr12 hM12;replace p12 := eq_true p12;replace q12 := eq_true q12;have n_ := Aside0.mk (Kd.N_mono (ok' := (fun k_ => (w.heap.size ≤ k_) ∧ some k_ ≠ (.slice Ao19 y110.length co19 : Value).ownBlock)) HO103.out (fun k_ hk => ⟨hk.1.1, hk.2⟩));clear HO103;have HO103 := n_;clear n_;have HX21 := Aside0.mk (show Kd.N k27 27 w20 w.heap.size (fun k_ => (w.heap.size ≤ k_) ∧ some k_ ≠ (.slice Ao19 y110.length co19 : Value).ownBlock) (.slice (some ⟨go12, 0, none⟩) t101.length co14) t101 from (by exact HO103.out));obtain ⟨ce21, hcl21, hM21, hcc21, hfr21⟩ := Kd.N_elem HX21.out z27 (t105 : Int) (of_decide_eq_true (by first | (with_reducible assumption) | assumption)) (by have h_ : (t105 : Int) < ((t101.length : Int) : Int) := of_decide_eq_true (by first | (with_reducible assumption) | assumption);first | exact h_ | (have e_ := (Kd.N_reads' HO103.out).1;omega) | simpa using h_);obtain ⟨ua21_2, uc21_2, rfl, ul21_2, ge21_2⟩ := k27_openF hM21;have HP21 := Kd.N_seg HX21.out (t105 : Int) (of_decide_eq_true (by first | (with_reducible assumption) | assumption)) (by have h_ : (t105 : Int) < ((t101.length : Int) : Int) := of_decide_eq_true (by first | (with_reducible assumption) | assumption);first | exact h_ | (have e_ := (Kd.N_reads' HO103.out).1;omega) | simpa using h_) (seg := [.int .i64 t113]) (j := 0) hcl21 hcc21 (show 1 ≤ 3 from by decide) (x' := (⟨t113, (rd_T27 t101 t105).f1, (rd_T27 t101 t105).f2⟩ : S27)) (k27_mkF _ _ (⟨t113, (rd_T27 t101 t105).f1, (rd_T27 t101 t105).f2⟩ : S27) ul21_2 ge21_2) (fun _ hk => hk);have hx21_0 := hcc21 0 _ rfl;(try simp only [show (k27).sz = 3 from rfl, Nat.mul_one, Nat.add_zero] at hx21_0);have hf21_0 := hfr21 0;(try simp only [show (k27).sz = 3 from rfl, Nat.mul_one, Nat.add_zero] at hf21_0);clear hcl21 hcc21 hfr21 hM21) | ((with_reducible refine gate_store (t := 3) (p := 31) rfl ?_);refine store_event (t := 3) (p := 31) (v := ?vo_w22) (w1 := (w20.setCell ⟨go12, (t105 : Int).toNat * 3, none⟩ (.int .i64 t113))) ?hg ?ho ?hn ?hr ?_;(case ho => rfl);(case hg => rfl);(case hn => rfl);(case hr => first | (go_simp;done) | (go_simp;rfl));intro w22 hw;have hg : w20.grownBy w22 (some go12) := (by rw [hw];exact HP21.2);have hp_ : Kd.N k27 27 w22 w.heap.size (fun k_ => (w.heap.size ≤ k_) ∧ some k_ ≠ (.slice Ao19 y110.length co19 : Value).ownBlock) (.slice (some ⟨go12, 0, none⟩) t101.length co14) y115 := (by rw [hw, Ny115.out];exact HP21.1);clear HP21;replace HI0 := Aside0.mk (IsS100.grown (by repeat (first | (with_reducible first | exact HI0.out | apply IsS100.alloc | apply IsS100.drewN | apply IsS100.drew | apply IsS100.set_1) | exact HI0.out)) hg (IsS100.own_neN HI0.out HO103.out (by decide)));replace HL109_2 := Aside0.mk (Kd.V_afterv (v := (.slice (some ⟨go12, 0, none⟩) t101.length co14)) (v1 := (.slice (some ⟨go12, 0, none⟩) t101.length co14)) (ok := (fun k_ => (w.heap.size ≤ k_) ∧ some k_ ≠ (.slice Ao19 y110.length co19 : Value).ownBlock ∧ k_ ≠ g)) (by (with_reducible repeat (first | apply Kd.V_alloc | apply Kd.V_drewN | apply Kd.V_drew));exact Kd.V_mono HL109_2.out (fun _ hk => ⟨⟨hk.1.1.1, ⟨hk.2, hk.1.1.2⟩⟩, hk.1.2⟩)) hg (.inl rfl));replace HO112 := Aside0.mk (Kd.R_over' (v := (.slice (some ⟨go12, 0, none⟩) t101.length co14)) (by exact HO112.out) (Kd.N_typed HO103.out) (by decide) hg);replace HB := Aside0.mk ((by rw [hw];exact below_set (HB.out) (Nat.le_trans HL.out GB12.out) : Below w0.heap.size w0 w22));replace HK := Aside0.mk (KeepBut.trans (by repeat (first | (with_reducible first | exact HK.out | apply KeepBut.set_ | apply keep_drewN | apply keep_drew | apply keep_alloc) | exact HK.out)) (KeepBut.of_grown hg g) (Kd.N_base2 HO103.out));replace HO103 := Aside0.mk (hp_);clear hg hw hp_))
     go_ret
     exact ⟨_, by first | rfl | (simp [errW_none, errW_some] <;> rfl) | (simp [*, errW_none, errW_some] <;> rfl), by (with_reducible repeat (first | apply Kd.N_alloc | apply Kd.N_drewN | apply Kd.N_drew));exact Kd.N_mono HO103.out (fun _ hk => hk.1), by repeat (first | (with_reducible first | exact HI0.out | apply IsS100.alloc | apply IsS100.drewN | apply IsS100.drew | apply IsS100.set_1) | exact HI0.out), by repeat (first | (with_reducible first | exact HB.out | apply below_alloc | apply pw_below_drewN | apply below_drew1 | refine below_set ?_ (IsS100.ge HI0.out)) | exact HB.out), by repeat (first | (with_reducible first | exact HK.out | apply KeepBut.set_ | apply keep_drewN | apply keep_drew | apply keep_alloc) | exact HK.out)⟩
    ·rw [if_neg c10] at H
     exact absurd H (by simp)
   ·rw [if_neg c9] at H
    exact absurd H (by simp)
  ·rw [if_neg c8] at H
   have c8b0 : (t107 == 0) = false := beq_eq_false_iff_ne.mpr c8
   have c8b1 : (t107 != 0) = true := bne_iff_ne.mpr c8
   by_cases c23 : t107 = 1
   ·rw [if_pos c23] at H
    have c23b0 : (t107 == 1) = true := beq_iff_eq.mpr c23
    have c23b1 : (t107 != 1) = false := bne_eq_false_iff_eq.mpr c23
    clear c23
    replace H := Option.bind_eq_some_iff.mp H
    obtain ⟨⟨t116, t119⟩, A240, H⟩ := H
    replace H : (if 0 ≤ t105 then (if t105 < (t101.length : Int) then (some ((t101.set (t105 : Int).toNat (⟨(rd_T27 t101 t105).f0, (rd_T27 t101 t105).f1, t116⟩ : S27)), t119)) else (none)) else (none)) = some (r1, r2) := H
    have A24 := Aside0.mk A240
    clear A240
    by_cases c25 : 0 ≤ t105
    ·rw [if_pos c25] at H
     have c25b0 : decide (0 ≤ t105) = true := decide_eq_true c25
     clear c25
     by_cases c26 : t105 < (t101.length : Int)
     ·rw [if_pos c26] at H
      have c26b0 : decide (t105 < (t101.length : Int)) = true := decide_eq_true c26
      clear c26
      obtain ⟨y120, hy120⟩ : ∃ y_ : List (S27), y_ = (t101.set (t105 : Int).toNat (⟨(rd_T27 t101 t105).f0, (rd_T27 t101 t105).f1, t116⟩ : S27)) := ⟨_, rfl⟩
      replace H : (some (y120, t119)) = some (r1, r2) := by first | (rw [hy120];with_reducible exact H) | (have H2_ := (Option.bind_some _ _).symm.trans H;rw [hy120];with_reducible exact H2_) | (have H2_ := (Option.bind_some _ _).symm.trans H;with_reducible exact H2_) | with_reducible exact H | (rw [hy120];exact H) | exact H
      have Ny120 := Aside0.mk hy120
      clear hy120
      simp only [Option.some.injEq, Prod.mk.injEq] at H
      obtain ⟨rfl, rfl⟩ := H
      go_enter Try.func77, Try.ntmps77
      go_wp2_with (first | ((with_reducible refine gate_callee (f := 96) rfl ?_);refine goesL_ (some 6) rfl rfl Try.func96 (by kernel_rfl) rfl #[.pointer (some ⟨g, 0, none⟩), .int .i64 6] rfl (by (try simp only [List.map_toArray, List.map_cons, List.map_nil]);first | done | rfl | (simp only [List.length_drop, List.length_take];rfl)) ?_;(with_reducible refine (spec_l3Some.calls k g s0_0 s0_1 6 t101 t104 w0 _ ?side1 ?side2 A2.out).mono ?_);(case side1 => repeat (first | (with_reducible first | exact HI0.out | apply IsS100.alloc | apply IsS100.drewN | apply IsS100.drew | apply IsS100.set_1) | exact HI0.out));(case side2 => repeat (first | (with_reducible first | exact HB.out | apply below_alloc | apply pw_below_drewN | apply below_drew1 | refine below_set ?_ (IsS100.ge HI0.out)) | exact HB.out));rintro e w28 ⟨v102, rfl, ho0, hi, hb, hk⟩;refine ⟨_, rfl, ?_⟩;have HO103 := Aside0.mk (Kd.N_lower (Kd.N_mono (ok' := fun k_ => (w.heap.size ≤ k_) ∧ k_ ≠ g) (Kd.S_N (Kd.S_bound ho0)) (fun k_ hk_ => ⟨(Nat.le_trans (keep_size (w := w) (g := g) (row := none) (by repeat (first | (with_reducible first | exact HK.out | apply KeepBut.set_ | apply keep_drewN | apply keep_drew | apply keep_alloc) | exact HK.out))) hk_.2.1), (IsS100.fresh (by repeat (first | (with_reducible first | exact HI0.out | apply IsS100.alloc | apply IsS100.drewN | apply IsS100.drew | apply IsS100.set_1) | exact HI0.out)) k_ hk_.2.1)⟩)) (keep_size (w := w) (g := g) (row := none) (by repeat (first | (with_reducible first | exact HK.out | apply KeepBut.set_ | apply keep_drewN | apply keep_drew | apply keep_alloc) | exact HK.out))));replace HK := Aside0.mk (KeepBut.trans (by repeat (first | (with_reducible first | exact HK.out | apply KeepBut.set_ | apply keep_drewN | apply keep_drew | apply keep_alloc) | exact HK.out)) hk (.inl rfl));replace HB := Aside0.mk (hb);replace HI0 := Aside0.mk (hi);(try clear hb);(try clear hb2);(try clear hk);(try clear hi);(try clear ho0);obtain ⟨Ao29, co29, eo29⟩ := Kd.N_slice HO103.out;subst eo29) | ((with_reducible refine gate_callee (f := 74) rfl ?_);refine goesL_ (some 14) rfl rfl Try.func74 (by kernel_rfl) rfl #[.pointer (some ⟨g, 0, none⟩), .int .i64 (t101.length : Int)] rfl (by (try simp only [List.map_toArray, List.map_cons, List.map_nil]);first | done | rfl | (simp only [List.length_drop, List.length_take];rfl)) ?_;(with_reducible refine (spec_l14Rd_pick.calls k g s0_0 t104 (t101.length : Int) t105 t106 w0 _ ?side1 ?side2 A6.out).mono ?_);(case side1 => repeat (first | (with_reducible first | exact HI0.out | apply IsS100.alloc | apply IsS100.drewN | apply IsS100.drew | apply IsS100.set_1) | exact HI0.out));(case side2 => repeat (first | (with_reducible first | exact HB.out | apply below_alloc | apply pw_below_drewN | apply below_drew1 | refine below_set ?_ (IsS100.ge HI0.out)) | exact HB.out));rintro e w30 ⟨rfl, hi, hb, hk⟩;refine ⟨_, rfl, ?_⟩;replace HO103 := Aside0.mk (Kd.N_mono (Kd.N_keep (Kd.N_mono (ok := fun k_ => (((w.heap.size ≤ k_)) ∧ k_ ≠ g)) (by exact HO103.out) (fun k_ hk_ => (⟨hk_, hk_.2⟩ : _ ∧ k_ ≠ g))) hk (fun _ h => h.2)) (fun _ h => h.1));replace HK := Aside0.mk (KeepBut.trans (by repeat (first | (with_reducible first | exact HK.out | apply KeepBut.set_ | apply keep_drewN | apply keep_drew | apply keep_alloc) | exact HK.out)) hk (.inl rfl));replace HB := Aside0.mk (hb);replace HI0 := Aside0.mk (hi);(try clear hb);(try clear hb2);(try clear hk);(try clear hi)) | ((with_reducible refine gate_callee (f := 74) rfl ?_);refine goesL_ (some 16) rfl rfl Try.func74 (by kernel_rfl) rfl #[.pointer (some ⟨g, 0, none⟩), .int .i64 40] rfl (by (try simp only [List.map_toArray, List.map_cons, List.map_nil]);first | done | rfl | (simp only [List.length_drop, List.length_take];rfl)) ?_;(with_reducible refine (spec_l14Rd_pick.calls k g s0_0 t106 40 t107 t108 w0 _ ?side1 ?side2 A7.out).mono ?_);(case side1 => repeat (first | (with_reducible first | exact HI0.out | apply IsS100.alloc | apply IsS100.drewN | apply IsS100.drew | apply IsS100.set_1) | exact HI0.out));(case side2 => repeat (first | (with_reducible first | exact HB.out | apply below_alloc | apply pw_below_drewN | apply below_drew1 | refine below_set ?_ (IsS100.ge HI0.out)) | exact HB.out));rintro e w31 ⟨rfl, hi, hb, hk⟩;refine ⟨_, rfl, ?_⟩;replace HO103 := Aside0.mk (Kd.N_mono (Kd.N_keep (Kd.N_mono (ok := fun k_ => (((w.heap.size ≤ k_)) ∧ k_ ≠ g)) (by exact HO103.out) (fun k_ hk_ => (⟨hk_, hk_.2⟩ : _ ∧ k_ ≠ g))) hk (fun _ h => h.2)) (fun _ h => h.1));replace HK := Aside0.mk (KeepBut.trans (by repeat (first | (with_reducible first | exact HK.out | apply KeepBut.set_ | apply keep_drewN | apply keep_drew | apply keep_alloc) | exact HK.out)) hk (.inl rfl));replace HB := Aside0.mk (hb);replace HI0 := Aside0.mk (hi);(try clear hb);(try clear hb2);(try clear hk);(try clear hi)) | ((with_reducible refine gate_callee (f := 97) rfl ?_);refine goesL_ (some 37) rfl rfl Try.func97 (by kernel_rfl) rfl #[.pointer (some ⟨g, 0, none⟩)] rfl (by (try simp only [List.map_toArray, List.map_cons, List.map_nil]);first | done | rfl | (simp only [List.length_drop, List.length_take];rfl)) ?_;(with_reducible refine (spec_r0Ids.calls k g s0_0 t108 t116 t119 w0 _ ?side1 ?side2 A24.out).mono ?_);(case side1 => repeat (first | (with_reducible first | exact HI0.out | apply IsS100.alloc | apply IsS100.drewN | apply IsS100.drew | apply IsS100.set_1) | exact HI0.out));(case side2 => repeat (first | (with_reducible first | exact HB.out | apply below_alloc | apply pw_below_drewN | apply below_drew1 | refine below_set ?_ (IsS100.ge HI0.out)) | exact HB.out));rintro e w32 ⟨v117, rfl, ho0, hi, hb, hk⟩;refine ⟨_, rfl, ?_⟩;replace HO103 := Aside0.mk (Kd.N_mono (Kd.N_told (Kd.N_oldK (Kd.N_mono (ok := fun k_ => (((w.heap.size ≤ k_)) ∧ k_ ≠ g)) (by exact HO103.out) (fun k_ hk_ => (⟨hk_, hk_.2⟩ : _ ∧ k_ ≠ g))) hk) (Kd.R_base ho0)) (fun _ h_ => h_.1));have HO118 := Aside0.mk (Kd.R_lower (Kd.R_newM (M := fun k_ => (w.heap.size ≤ k_)) ho0 (keep_size (w := w) (g := g) (row := none) (by repeat (first | (with_reducible first | exact HK.out | apply KeepBut.set_ | apply keep_drewN | apply keep_drew | apply keep_alloc) | exact HK.out))) (fun k_ h_ => h_)) (keep_size (w := w) (g := g) (row := none) (by repeat (first | (with_reducible first | exact HK.out | apply KeepBut.set_ | apply keep_drewN | apply keep_drew | apply keep_alloc) | exact HK.out))));replace HK := Aside0.mk (KeepBut.trans (by repeat (first | (with_reducible first | exact HK.out | apply KeepBut.set_ | apply keep_drewN | apply keep_drew | apply keep_alloc) | exact HK.out)) hk (.inl rfl));replace HB := Aside0.mk (hb);replace HI0 := Aside0.mk (hi);(try clear hb);(try clear hb2);(try clear hk);(try clear hi);(try clear ho0);have p27 : 0 ≤ (t105 : Int) := of_decide_eq_true (by first | (with_reducible assumption) | assumption);have q27 : (t105 : Int) < ((t101.length : Int) : Int) := of_decide_eq_true (by first | (with_reducible assumption) | assumption);obtain ⟨go27, co27, eo27, gb27, gl27, cl27, HG27⟩ := Kd.N_form HO103.out (by omega);(first | cases eo27 | (injection eo27 with ea_ en_ ec_;(first | subst ea_ | (injection ea_ with ea_;subst ea_));subst ec_;clear en_));have GB27 := Aside0.mk gb27;have GG27 := Aside0.mk HG27;clear gb27 gl27 HG27;obtain ⟨ce27, hcl27, hM27, hcc27, hfr27⟩ := Kd.N_elem HO103.out z27 (t105 : Int) p27 q27;obtain ⟨ua27_2, uc27_2, rfl, ul27_2, ge27_2⟩ := k27_openF hM27;have hx27_0 : w32.cell? ⟨go27, (t105 : Int).toNat * 3, none⟩ = some (.int .i64 ((rd_T27 t101 t105).f0)) := hcc27 0 _ rfl;have hx27_1 : w32.cell? ⟨go27, (t105 : Int).toNat * 3 + 1, none⟩ = some (.int .i64 ((rd_T27 t101 t105).f1)) := hcc27 1 _ rfl;have hx27_2 : w32.cell? ⟨go27, (t105 : Int).toNat * 3 + 2, none⟩ = some (.slice ua27_2 ((rd_T27 t101 t105).f2).length uc27_2) := hcc27 2 _ rfl;have hf27_0 : w32.frozen? ⟨go27, (t105 : Int).toNat * 3, none⟩ = false := hfr27 0;have hf27_1 : w32.frozen? ⟨go27, (t105 : Int).toNat * 3 + 1, none⟩ = false := hfr27 1;have hf27_2 : w32.frozen? ⟨go27, (t105 : Int).toNat * 3 + 2, none⟩ = false := hfr27 2;clear hcl27 hcc27 hfr27 hM27;replace p27 := eq_true p27;replace q27 := eq_true q27;obtain ⟨Ao35, co35, eo35⟩ := Kd.R_slice HO118.out;subst eo35;have n_ := Aside0.mk (Kd.N_mono (ok' := (fun k_ => (w.heap.size ≤ k_) ∧ some k_ ≠ (.slice Ao35 t116.length co35 : Value).ownBlock)) HO103.out (fun k_ hk => ⟨hk.1.1, hk.2⟩));clear HO103;have HO103 := n_;clear n_;have HX33 := Aside0.mk (show Kd.N k27 27 w32 w.heap.size (fun k_ => (w.heap.size ≤ k_)) (.slice (some ⟨go27, 0, none⟩) t101.length co29) t101 from (by (with_reducible repeat (first | apply Kd.N_alloc | apply Kd.N_drewN | apply Kd.N_drew));exact Kd.N_mono HO103.out (fun _ hk => hk.1)));obtain ⟨ce33, hcl33, hM33, hcc33, hfr33⟩ := Kd.N_elem HX33.out z27 (t105 : Int) (of_decide_eq_true (by first | (with_reducible assumption) | assumption)) (by have h_ : (t105 : Int) < ((t101.length : Int) : Int) := of_decide_eq_true (by first | (with_reducible assumption) | assumption);first | exact h_ | (have e_ := (Kd.N_reads' HO103.out).1;omega) | simpa using h_);obtain ⟨ua33_2, uc33_2, rfl, ul33_2, ge33_2⟩ := k27_openF hM33;have HP33 := Kd.N_seg HX33.out (t105 : Int) (of_decide_eq_true (by first | (with_reducible assumption) | assumption)) (by have h_ : (t105 : Int) < ((t101.length : Int) : Int) := of_decide_eq_true (by first | (with_reducible assumption) | assumption);first | exact h_ | (have e_ := (Kd.N_reads' HO103.out).1;omega) | simpa using h_) (seg := [.slice Ao35 t116.length co35]) (j := 2) hcl33 hcc33 (show 3 ≤ 3 from by decide) (x' := (⟨(rd_T27 t101 t105).f0, (rd_T27 t101 t105).f1, t116⟩ : S27)) (k27_mkF _ _ (⟨(rd_T27 t101 t105).f0, (rd_T27 t101 t105).f1, t116⟩ : S27) (Kd.R_reads' (Kd.R_mono (ok' := (fun k_ => ((fun k_ => (w.heap.size ≤ k_))) k_ ∧ k_ ≠ go27)) (Kd.R_apart' (HO118.out) (Kd.N_typed HO103.out) (by decide)) (fun k_ hk => ⟨hk.1.1, fun e_ => (hk.2) (by rw [e_];rfl)⟩))).2.1 (Kd.R_F (Kd.R_mono (ok' := (fun k_ => ((fun k_ => (w.heap.size ≤ k_))) k_ ∧ k_ ≠ go27)) (Kd.R_apart' (HO118.out) (Kd.N_typed HO103.out) (by decide)) (fun k_ hk => ⟨hk.1.1, fun e_ => (hk.2) (by rw [e_];rfl)⟩)))) (fun _ hk => hk);have hx33_2 := hcc33 2 _ rfl;(try simp only [show (k27).sz = 3 from rfl, Nat.mul_one, Nat.add_zero] at hx33_2);have hf33_2 := hfr33 2;(try simp only [show (k27).sz = 3 from rfl, Nat.mul_one, Nat.add_zero] at hf33_2);clear hcl33 hcc33 hfr33 hM33) | ((with_reducible refine gate_store (t := 22) (p := 39) rfl ?_);refine store_event (t := 22) (p := 39) (v := ?vo_w34) (w1 := (w32.setCell ⟨go27, (t105 : Int).toNat * 3 + 2, none⟩ (.slice Ao35 t116.length co35))) ?hg ?ho ?hn ?hr ?_;(case ho => rfl);(case hg => rfl);(case hn => rfl);(case hr => first | (go_simp;done) | (go_simp;rfl));intro w34 hw;have hg : w32.grownBy w34 (some go27) := (by rw [hw];exact HP33.2);have hp_ : Kd.N k27 27 w34 w.heap.size (fun k_ => (w.heap.size ≤ k_)) (.slice (some ⟨go27, 0, none⟩) t101.length co29) y120 := (by rw [hw, Ny120.out];exact HP33.1);clear HP33;have n0_ := Aside0.mk (IsS100.grown (by repeat (first | (with_reducible first | exact HI0.out | apply IsS100.alloc | apply IsS100.drewN | apply IsS100.drew | apply IsS100.set_1) | exact HI0.out)) hg (IsS100.own_neN HI0.out HO103.out (by decide)));have n1_ := Aside0.mk (hp_);have n2_ := Aside0.mk ((by rw [hw];exact below_set (HB.out) (Nat.le_trans HL.out GB27.out) : Below w0.heap.size w0 w34));have n3_ := Aside0.mk (KeepBut.trans (by repeat (first | (with_reducible first | exact HK.out | apply KeepBut.set_ | apply keep_drewN | apply keep_drew | apply keep_alloc) | exact HK.out)) (KeepBut.of_grown hg g) (Kd.N_base2 HO103.out));clear HI0;clear HO103;clear HB;clear HK;clear HO118;have HI0 := n0_;have HO103 := n1_;have HB := n2_;have HK := n3_;clear n0_ n1_ n2_ n3_;clear hg hw hp_))
      go_ret
      exact ⟨_, by first | rfl | (simp [errW_none, errW_some] <;> rfl) | (simp [*, errW_none, errW_some] <;> rfl), by (with_reducible repeat (first | apply Kd.N_alloc | apply Kd.N_drewN | apply Kd.N_drew));exact HO103.out, by repeat (first | (with_reducible first | exact HI0.out | apply IsS100.alloc | apply IsS100.drewN | apply IsS100.drew | apply IsS100.set_1) | exact HI0.out), by repeat (first | (with_reducible first | exact HB.out | apply below_alloc | apply pw_below_drewN | apply below_drew1 | refine below_set ?_ (IsS100.ge HI0.out)) | exact HB.out), by repeat (first | (with_reducible first | exact HK.out | apply KeepBut.set_ | apply keep_drewN | apply keep_drew | apply keep_alloc) | exact HK.out)⟩
     ·rw [if_neg c26] at H
      exact absurd H (by simp)
    ·rw [if_neg c25] at H
     exact absurd H (by simp)
   ·rw [if_neg c23] at H
    have c23b0 : (t107 == 1) = false := beq_eq_false_iff_ne.mpr c23
    have c23b1 : (t107 != 1) = true := bne_iff_ne.mpr c23
    by_cases c36 : t107 = 2
    ·rw [if_pos c36] at H
     have c36b0 : (t107 == 2) = true := beq_iff_eq.mpr c36
     have c36b1 : (t107 != 2) = false := bne_eq_false_iff_eq.mpr c36
     clear c36
     by_cases c37 : 0 < (t101.length : Int)
     ·rw [if_pos c37] at H
      have c37b0 : decide (0 < (t101.length : Int)) = true := decide_eq_true c37
      have c37b1 : decide (0 < t101.length) = true := decide_eq_true (by omega)
      clear c37
      by_cases c38 : t101.length < 3518437208883
      ·rw [if_pos c38] at H
       have LMc38 := Aside0.mk c38
       clear c38
       obtain ⟨y122, hy122⟩ : ∃ y_ : List (S27), y_ = (t101 ++ [(⟨(rd_T27 t101 0).f0, (rd_T27 t101 0).f1, (rd_T27 t101 0).f2⟩ : S27)]) := ⟨_, rfl⟩
       replace H : (some (y122, t108)) = some (r1, r2) := by first | (rw [hy122];with_reducible exact H) | (have H2_ := (Option.bind_some _ _).symm.trans H;rw [hy122];with_reducible exact H2_) | (have H2_ := (Option.bind_some _ _).symm.trans H;with_reducible exact H2_) | with_reducible exact H | (rw [hy122];exact H) | exact H
       have Ny122 := Aside0.mk hy122
       clear hy122
       simp only [Option.some.injEq, Prod.mk.injEq] at H
       obtain ⟨rfl, rfl⟩ := H
       go_enter Try.func77, Try.ntmps77
       go_wp2_with (first | ((with_reducible refine gate_callee (f := 96) rfl ?_);refine goesL_ (some 6) rfl rfl Try.func96 (by kernel_rfl) rfl #[.pointer (some ⟨g, 0, none⟩), .int .i64 6] rfl (by (try simp only [List.map_toArray, List.map_cons, List.map_nil]);first | done | rfl | (simp only [List.length_drop, List.length_take];rfl)) ?_;(with_reducible refine (spec_l3Some.calls k g s0_0 s0_1 6 t101 t104 w0 _ ?side1 ?side2 A2.out).mono ?_);(case side1 => repeat (first | (with_reducible first | exact HI0.out | apply IsS100.alloc | apply IsS100.drewN | apply IsS100.drew | apply IsS100.set_1) | exact HI0.out));(case side2 => repeat (first | (with_reducible first | exact HB.out | apply below_alloc | apply pw_below_drewN | apply below_drew1 | refine below_set ?_ (IsS100.ge HI0.out)) | exact HB.out));rintro e w39 ⟨v102, rfl, ho0, hi, hb, hk⟩;refine ⟨_, rfl, ?_⟩;have HO103 := Aside0.mk (Kd.N_lower (Kd.N_mono (ok' := fun k_ => (w.heap.size ≤ k_) ∧ k_ ≠ g) (Kd.S_N (Kd.S_bound ho0)) (fun k_ hk_ => ⟨(Nat.le_trans (keep_size (w := w) (g := g) (row := none) (by repeat (first | (with_reducible first | exact HK.out | apply KeepBut.set_ | apply keep_drewN | apply keep_drew | apply keep_alloc) | exact HK.out))) hk_.2.1), (IsS100.fresh (by repeat (first | (with_reducible first | exact HI0.out | apply IsS100.alloc | apply IsS100.drewN | apply IsS100.drew | apply IsS100.set_1) | exact HI0.out)) k_ hk_.2.1)⟩)) (keep_size (w := w) (g := g) (row := none) (by repeat (first | (with_reducible first | exact HK.out | apply KeepBut.set_ | apply keep_drewN | apply keep_drew | apply keep_alloc) | exact HK.out))));replace HK := Aside0.mk (KeepBut.trans (by repeat (first | (with_reducible first | exact HK.out | apply KeepBut.set_ | apply keep_drewN | apply keep_drew | apply keep_alloc) | exact HK.out)) hk (.inl rfl));replace HB := Aside0.mk (hb);replace HI0 := Aside0.mk (hi);(try clear hb);(try clear hb2);(try clear hk);(try clear hi);(try clear ho0);obtain ⟨Ao40, co40, eo40⟩ := Kd.N_slice HO103.out;subst eo40) | ((with_reducible refine gate_callee (f := 74) rfl ?_);refine goesL_ (some 14) rfl rfl Try.func74 (by kernel_rfl) rfl #[.pointer (some ⟨g, 0, none⟩), .int .i64 (t101.length : Int)] rfl (by (try simp only [List.map_toArray, List.map_cons, List.map_nil]);first | done | rfl | (simp only [List.length_drop, List.length_take];rfl)) ?_;(with_reducible refine (spec_l14Rd_pick.calls k g s0_0 t104 (t101.length : Int) t105 t106 w0 _ ?side1 ?side2 A6.out).mono ?_);(case side1 => repeat (first | (with_reducible first | exact HI0.out | apply IsS100.alloc | apply IsS100.drewN | apply IsS100.drew | apply IsS100.set_1) | exact HI0.out));(case side2 => repeat (first | (with_reducible first | exact HB.out | apply below_alloc | apply pw_below_drewN | apply below_drew1 | refine below_set ?_ (IsS100.ge HI0.out)) | exact HB.out));rintro e w41 ⟨rfl, hi, hb, hk⟩;refine ⟨_, rfl, ?_⟩;replace HO103 := Aside0.mk (Kd.N_mono (Kd.N_keep (Kd.N_mono (ok := fun k_ => (((w.heap.size ≤ k_)) ∧ k_ ≠ g)) (by exact HO103.out) (fun k_ hk_ => (⟨hk_, hk_.2⟩ : _ ∧ k_ ≠ g))) hk (fun _ h => h.2)) (fun _ h => h.1));replace HK := Aside0.mk (KeepBut.trans (by repeat (first | (with_reducible first | exact HK.out | apply KeepBut.set_ | apply keep_drewN | apply keep_drew | apply keep_alloc) | exact HK.out)) hk (.inl rfl));replace HB := Aside0.mk (hb);replace HI0 := Aside0.mk (hi);(try clear hb);(try clear hb2);(try clear hk);(try clear hi)) | ((with_reducible refine gate_callee (f := 74) rfl ?_);refine goesL_ (some 16) rfl rfl Try.func74 (by kernel_rfl) rfl #[.pointer (some ⟨g, 0, none⟩), .int .i64 40] rfl (by (try simp only [List.map_toArray, List.map_cons, List.map_nil]);first | done | rfl | (simp only [List.length_drop, List.length_take];rfl)) ?_;(with_reducible refine (spec_l14Rd_pick.calls k g s0_0 t106 40 t107 t108 w0 _ ?side1 ?side2 A7.out).mono ?_);(case side1 => repeat (first | (with_reducible first | exact HI0.out | apply IsS100.alloc | apply IsS100.drewN | apply IsS100.drew | apply IsS100.set_1) | exact HI0.out));(case side2 => repeat (first | (with_reducible first | exact HB.out | apply below_alloc | apply pw_below_drewN | apply below_drew1 | refine below_set ?_ (IsS100.ge HI0.out)) | exact HB.out));rintro e w42 ⟨rfl, hi, hb, hk⟩;refine ⟨_, rfl, ?_⟩;replace HO103 := Aside0.mk (Kd.N_mono (Kd.N_keep (Kd.N_mono (ok := fun k_ => (((w.heap.size ≤ k_)) ∧ k_ ≠ g)) (by exact HO103.out) (fun k_ hk_ => (⟨hk_, hk_.2⟩ : _ ∧ k_ ≠ g))) hk (fun _ h => h.2)) (fun _ h => h.1));replace HK := Aside0.mk (KeepBut.trans (by repeat (first | (with_reducible first | exact HK.out | apply KeepBut.set_ | apply keep_drewN | apply keep_drew | apply keep_alloc) | exact HK.out)) hk (.inl rfl));replace HB := Aside0.mk (hb);replace HI0 := Aside0.mk (hi);(try clear hb);(try clear hb2);(try clear hk);(try clear hi);have p121 : 0 ≤ (0 : Int) := (by omega);have q121 : 0 < (t101.length : Int) := of_decide_eq_true (by first | (with_reducible assumption) | assumption);obtain ⟨ad121, A121_2, c121_2, e121, hx121_0, hx121_1, hx121_2, hl121_2, hi121_2⟩ := at_T27 (Kd.N_reads' HO103.out).2.2 0 p121 q121;cases e121;obtain ⟨ce121, hce121, hMe121, hcc121⟩ := Kd.N_get HO103.out z27 0 p121 (by first | exact q121 | exact of_decide_eq_true (by first | (with_reducible assumption) | assumption) | (have e_ := (Kd.N_reads' HO103.out).1;omega));obtain ⟨ua121_2, uc121_2, rfl, ul121_2, ge121_2⟩ := k27_openF hMe121;have hv121_2 := hcc121 2 _ rfl;rw [add_field _ _ 2 (by omega)] at hv121_2;replace hv121_2 := Option.some.inj (hv121_2.symm.trans hx121_2);injection hv121_2 with hva_ hvn_ hvc_;rw [hva_] at ge121_2;rw [hvc_] at ul121_2;have HL121_2 := Aside0.mk (show Kd.V (Kd.int .i64) 3 _ w.heap.size _ _ ((rd_T27 t101 0).f2) from Kd.V_mk ul121_2 ge121_2);clear hva_ hvn_ hvc_ ge121_2 ul121_2;clear hcc121 hce121;have qi121 : (0 < t101.length) = True := eq_true (by omega);(try rw [show ((0 : Int)).toNat = 0 from rfl] at hx121_0);(try rw [show 0 * 3 = 0 from rfl] at hx121_0);(try rw [Addr.add_zero'] at hx121_0);(try rw [show ((0 : Int)).toNat = 0 from rfl] at hx121_1);(try rw [show 0 * 3 = 0 from rfl] at hx121_1);(try rw [Addr.add_zero'] at hx121_1);(try rw [show ((0 : Int)).toNat = 0 from rfl] at hx121_2);(try rw [show 0 * 3 = 0 from rfl] at hx121_2);(try rw [Addr.add_zero'] at hx121_2);have HR121_2 := Aside0.mk hi121_2;have HC121_2 := Aside0.mk hl121_2;clear hi121_2 hl121_2;replace p121 := eq_true p121;replace q121 := eq_true q121) | ((with_reducible refine gate_builtin (b := .append) (xs := #[.tmp 42, .tmp 46]) rfl ?_);at_builtin;refine Kd.N_append k27 w.heap.size rfl (.tmp 42) (.tmp 46) 34 27 (.agg #[(.int .i64 0), (.int .i64 0), (.slice none 0 0)]) 40 rfl Try.underlying34 info27 rfl (by decide) (by omega) (.slice (some ad121) t101.length co40) t101 (⟨(rd_T27 t101 0).f0, (rd_T27 t101 0).f1, (rd_T27 t101 0).f2⟩ : S27) [.int .i64 ((rd_T27 t101 0).f0), .int .i64 ((rd_T27 t101 0).f1), .slice A121_2 ((rd_T27 t101 0).f2).length c121_2] (fun k_ => (w.heap.size ≤ k_) ∧ k_ ≠ g) (fun k_ => ((fun k_ => (w.heap.size ≤ k_) ∧ k_ ≠ g)) k_ ∧ some k_ ≠ (.slice (some ad121) t101.length co40 : Value).ownBlock) rfl rfl ?aP (fun _ hk => hk) ?aF ?aO (Below.refl _ _) ?aS ?aL ?_;(case aP => exact (k27_mkF _ _ (⟨(rd_T27 t101 0).f0, (rd_T27 t101 0).f1, (rd_T27 t101 0).f2⟩ : S27) (Kd.V_reads' (Kd.V_mono (ok' := (fun k_ => ((fun k_ => (w.heap.size ≤ k_) ∧ k_ ≠ g)) k_ ∧ some k_ ≠ (.slice (some ad121) t101.length co40 : Value).ownBlock)) (HL121_2.out) (fun k_ hk => ⟨⟨hk.1.1, hk.1.2⟩, hk.2⟩))).2.1 (Kd.V_F (Kd.V_mono (ok' := (fun k_ => ((fun k_ => (w.heap.size ≤ k_) ∧ k_ ≠ g)) k_ ∧ some k_ ≠ (.slice (some ad121) t101.length co40 : Value).ownBlock)) (HL121_2.out) (fun k_ hk => ⟨⟨hk.1.1, hk.1.2⟩, hk.2⟩)))));(case aF => exact (fun k_ hk => ⟨(Nat.le_trans (keep_size (w := w) (g := g) (row := none) (by repeat (first | (with_reducible first | exact HK.out | apply KeepBut.set_ | apply keep_drewN | apply keep_drew | apply keep_alloc) | exact HK.out))) hk), IsS100.fresh (by repeat (first | (with_reducible first | exact HI0.out | apply IsS100.alloc | apply IsS100.drewN | apply IsS100.drew | apply IsS100.set_1) | exact HI0.out)) k_ hk⟩));(case aO => exact (by exact HO103.out));(case aS => exact (keep_size (w := w) (g := g) (row := none) (by repeat (first | (with_reducible first | exact HK.out | apply KeepBut.set_ | apply keep_drewN | apply keep_drew | apply keep_alloc) | exact HK.out))));(case aL => have := LMc38.out;omega);intro v123 w43 ho hb hg hat;rw [← Ny122.out] at ho;have n0_ := Aside0.mk (IsS100.grown (by repeat (first | (with_reducible first | exact HI0.out | apply IsS100.alloc | apply IsS100.drewN | apply IsS100.drew | apply IsS100.set_1) | exact HI0.out)) hg (IsS100.own_neN HI0.out HO103.out (by decide)));have n1_ := Aside0.mk (Kd.V_afterv (ok := (fun k_ => (w.heap.size ≤ k_) ∧ k_ ≠ g)) (by exact HL121_2.out) hg hat);have n2_ := Aside0.mk (below_weaken (by repeat (first | (with_reducible first | exact HB.out | apply below_alloc | apply pw_below_drewN | apply below_drew1 | refine below_set ?_ (IsS100.ge HI0.out)) | exact HB.out)) HL.out hb);have n3_ := Aside0.mk (KeepBut.trans (by repeat (first | (with_reducible first | exact HK.out | apply KeepBut.set_ | apply keep_drewN | apply keep_drew | apply keep_alloc) | exact HK.out)) (KeepBut.of_grown hg g) (Kd.N_base2 HO103.out));have n4_ := Aside0.mk (ho);clear HI0;clear HL121_2;clear HB;clear HK;clear HO103;have HI0 := n0_;have HL121_2 := n1_;have HB := n2_;have HK := n3_;have HO124 := n4_;clear n0_ n1_ n2_ n3_ n4_;clear ho hb hg hat))
       go_ret
       exact ⟨_, by first | rfl | (simp [errW_none, errW_some] <;> rfl) | (simp [*, errW_none, errW_some] <;> rfl), by (with_reducible repeat (first | apply Kd.N_alloc | apply Kd.N_drewN | apply Kd.N_drew));exact Kd.N_mono HO124.out (fun _ hk => hk.1), by repeat (first | (with_reducible first | exact HI0.out | apply IsS100.alloc | apply IsS100.drewN | apply IsS100.drew | apply IsS100.set_1) | exact HI0.out), by repeat (first | (with_reducible first | exact HB.out | apply below_alloc | apply pw_below_drewN | apply below_drew1 | refine below_set ?_ (IsS100.ge HI0.out)) | exact HB.out), by repeat (first | (with_reducible first | exact HK.out | apply KeepBut.set_ | apply keep_drewN | apply keep_drew | apply keep_alloc) | exact HK.out)⟩
      ·rw [if_neg c38] at H
       exact absurd H (by simp)
     ·rw [if_neg c37] at H
      exact absurd H (by simp)
    ·rw [if_neg c36] at H
     have c36b0 : (t107 == 2) = false := beq_eq_false_iff_ne.mpr c36
     have c36b1 : (t107 != 2) = true := bne_iff_ne.mpr c36
     by_cases c44 : t107 = 3
     ·rw [if_pos c44] at H
      have c44b0 : (t107 == 3) = true := beq_iff_eq.mpr c44
      have c44b1 : (t107 != 3) = false := bne_eq_false_iff_eq.mpr c44
      clear c44
      by_cases c45 : 0 ≤ t105
      ·rw [if_pos c45] at H
       have c45b0 : decide (0 ≤ t105) = true := decide_eq_true c45
       clear c45
       by_cases c46 : t105 < (t101.length : Int)
       ·rw [if_pos c46] at H
        have c46b0 : decide (t105 < (t101.length : Int)) = true := decide_eq_true c46
        clear c46
        obtain ⟨y125, hy125⟩ : ∃ y_ : List (S27), y_ = (t101.set (t105 : Int).toNat (⟨(rd_T27 t101 t105).f0, 2001, (rd_T27 t101 t105).f2⟩ : S27)) := ⟨_, rfl⟩
        replace H : (some (y125, t108)) = some (r1, r2) := by first | (rw [hy125];with_reducible exact H) | (have H2_ := (Option.bind_some _ _).symm.trans H;rw [hy125];with_reducible exact H2_) | (have H2_ := (Option.bind_some _ _).symm.trans H;with_reducible exact H2_) | with_reducible exact H | (rw [hy125];exact H) | exact H
        have Ny125 := Aside0.mk hy125
        clear hy125
        simp only [Option.some.injEq, Prod.mk.injEq] at H
        obtain ⟨rfl, rfl⟩ := H
        go_enter Try.func77, Try.ntmps77
        go_wp2_with (first | ((with_reducible refine gate_callee (f := 96) rfl ?_);refine goesL_ (some 6) rfl rfl Try.func96 (by kernel_rfl) rfl #[.pointer (some ⟨g, 0, none⟩), .int .i64 6] rfl (by (try simp only [List.map_toArray, List.map_cons, List.map_nil]);first | done | rfl | (simp only [List.length_drop, List.length_take];rfl)) ?_;(with_reducible refine (spec_l3Some.calls k g s0_0 s0_1 6 t101 t104 w0 _ ?side1 ?side2 A2.out).mono ?_);(case side1 => repeat (first | (with_reducible first | exact HI0.out | apply IsS100.alloc | apply IsS100.drewN | apply IsS100.drew | apply IsS100.set_1) | exact HI0.out));(case side2 => repeat (first | (with_reducible first | exact HB.out | apply below_alloc | apply pw_below_drewN | apply below_drew1 | refine below_set ?_ (IsS100.ge HI0.out)) | exact HB.out));rintro e w48 ⟨v102, rfl, ho0, hi, hb, hk⟩;refine ⟨_, rfl, ?_⟩;have HO103 := Aside0.mk (Kd.N_lower (Kd.N_mono (ok' := fun k_ => (w.heap.size ≤ k_) ∧ k_ ≠ g) (Kd.S_N (Kd.S_bound ho0)) (fun k_ hk_ => ⟨(Nat.le_trans (keep_size (w := w) (g := g) (row := none) (by repeat (first | (with_reducible first | exact HK.out | apply KeepBut.set_ | apply keep_drewN | apply keep_drew | apply keep_alloc) | exact HK.out))) hk_.2.1), (IsS100.fresh (by repeat (first | (with_reducible first | exact HI0.out | apply IsS100.alloc | apply IsS100.drewN | apply IsS100.drew | apply IsS100.set_1) | exact HI0.out)) k_ hk_.2.1)⟩)) (keep_size (w := w) (g := g) (row := none) (by repeat (first | (with_reducible first | exact HK.out | apply KeepBut.set_ | apply keep_drewN | apply keep_drew | apply keep_alloc) | exact HK.out))));replace HK := Aside0.mk (KeepBut.trans (by repeat (first | (with_reducible first | exact HK.out | apply KeepBut.set_ | apply keep_drewN | apply keep_drew | apply keep_alloc) | exact HK.out)) hk (.inl rfl));replace HB := Aside0.mk (hb);replace HI0 := Aside0.mk (hi);(try clear hb);(try clear hb2);(try clear hk);(try clear hi);(try clear ho0);obtain ⟨Ao49, co49, eo49⟩ := Kd.N_slice HO103.out;subst eo49) | ((with_reducible refine gate_callee (f := 74) rfl ?_);refine goesL_ (some 14) rfl rfl Try.func74 (by kernel_rfl) rfl #[.pointer (some ⟨g, 0, none⟩), .int .i64 (t101.length : Int)] rfl (by (try simp only [List.map_toArray, List.map_cons, List.map_nil]);first | done | rfl | (simp only [List.length_drop, List.length_take];rfl)) ?_;(with_reducible refine (spec_l14Rd_pick.calls k g s0_0 t104 (t101.length : Int) t105 t106 w0 _ ?side1 ?side2 A6.out).mono ?_);(case side1 => repeat (first | (with_reducible first | exact HI0.out | apply IsS100.alloc | apply IsS100.drewN | apply IsS100.drew | apply IsS100.set_1) | exact HI0.out));(case side2 => repeat (first | (with_reducible first | exact HB.out | apply below_alloc | apply pw_below_drewN | apply below_drew1 | refine below_set ?_ (IsS100.ge HI0.out)) | exact HB.out));rintro e w50 ⟨rfl, hi, hb, hk⟩;refine ⟨_, rfl, ?_⟩;replace HO103 := Aside0.mk (Kd.N_mono (Kd.N_keep (Kd.N_mono (ok := fun k_ => (((w.heap.size ≤ k_)) ∧ k_ ≠ g)) (by exact HO103.out) (fun k_ hk_ => (⟨hk_, hk_.2⟩ : _ ∧ k_ ≠ g))) hk (fun _ h => h.2)) (fun _ h => h.1));replace HK := Aside0.mk (KeepBut.trans (by repeat (first | (with_reducible first | exact HK.out | apply KeepBut.set_ | apply keep_drewN | apply keep_drew | apply keep_alloc) | exact HK.out)) hk (.inl rfl));replace HB := Aside0.mk (hb);replace HI0 := Aside0.mk (hi);(try clear hb);(try clear hb2);(try clear hk);(try clear hi)) | ((with_reducible refine gate_callee (f := 74) rfl ?_);refine goesL_ (some 16) rfl rfl Try.func74 (by kernel_rfl) rfl #[.pointer (some ⟨g, 0, none⟩), .int .i64 40] rfl (by (try simp only [List.map_toArray, List.map_cons, List.map_nil]);first | done | rfl | (simp only [List.length_drop, List.length_take];rfl)) ?_;(with_reducible refine (spec_l14Rd_pick.calls k g s0_0 t106 40 t107 t108 w0 _ ?side1 ?side2 A7.out).mono ?_);(case side1 => repeat (first | (with_reducible first | exact HI0.out | apply IsS100.alloc | apply IsS100.drewN | apply IsS100.drew | apply IsS100.set_1) | exact HI0.out));(case side2 => repeat (first | (with_reducible first | exact HB.out | apply below_alloc | apply pw_below_drewN | apply below_drew1 | refine below_set ?_ (IsS100.ge HI0.out)) | exact HB.out));rintro e w51 ⟨rfl, hi, hb, hk⟩;refine ⟨_, rfl, ?_⟩;replace HO103 := Aside0.mk (Kd.N_mono (Kd.N_keep (Kd.N_mono (ok := fun k_ => (((w.heap.size ≤ k_)) ∧ k_ ≠ g)) (by exact HO103.out) (fun k_ hk_ => (⟨hk_, hk_.2⟩ : _ ∧ k_ ≠ g))) hk (fun _ h => h.2)) (fun _ h => h.1));replace HK := Aside0.mk (KeepBut.trans (by repeat (first | (with_reducible first | exact HK.out | apply KeepBut.set_ | apply keep_drewN | apply keep_drew | apply keep_alloc) | exact HK.out)) hk (.inl rfl));replace HB := Aside0.mk (hb);replace HI0 := Aside0.mk (hi);(try clear hb);(try clear hb2);(try clear hk);(try clear hi);have p47 : 0 ≤ (t105 : Int) := of_decide_eq_true (by first | (with_reducible assumption) | assumption);have q47 : (t105 : Int) < ((t101.length : Int) : Int) := of_decide_eq_true (by first | (with_reducible assumption) | assumption);obtain ⟨go47, co47, eo47, gb47, gl47, cl47, HG47⟩ := Kd.N_form HO103.out (by omega);(first | cases eo47 | (injection eo47 with ea_ en_ ec_;(first | subst ea_ | (injection ea_ with ea_;subst ea_));subst ec_;clear en_));have GB47 := Aside0.mk gb47;have GG47 := Aside0.mk HG47;clear gb47 gl47 HG47;obtain ⟨ce47, hcl47, hM47, hcc47, hfr47⟩ := Kd.N_elem HO103.out z27 (t105 : Int) p47 q47;obtain ⟨ua47_2, uc47_2, rfl, ul47_2, ge47_2⟩ := k27_openF hM47;have hx47_0 : w51.cell? ⟨go47, (t105 : Int).toNat * 3, none⟩ = some (.int .i64 ((rd_T27 t101 t105).f0)) := hcc47 0 _ rfl;have hx47_1 : w51.cell? ⟨go47, (t105 : Int).toNat * 3 + 1, none⟩ = some (.int .i64 ((rd_T27 t101 t105).f1)) := hcc47 1 _ rfl;have hx47_2 : w51.cell? ⟨go47, (t105 : Int).toNat * 3 + 2, none⟩ = some (.slice ua47_2 ((rd_T27 t101 t105).f2).length uc47_2) := hcc47 2 _ rfl;have hf47_0 : w51.frozen? ⟨go47, (t105 : Int).toNat * 3, none⟩ = false := hfr47 0;have hf47_1 : w51.frozen? ⟨go47, (t105 : Int).toNat * 3 + 1, none⟩ = false := hfr47 1;have hf47_2 : w51.frozen? ⟨go47, (t105 : Int).toNat * 3 + 2, none⟩ = false := hfr47 2;clear hcl47 hcc47 hfr47 hM47;replace p47 := eq_true p47;replace q47 := eq_true q47;have HX52 := Aside0.mk (show Kd.N k27 27 w51 w.heap.size (fun k_ => (w.heap.size ≤ k_) ∧ k_ ≠ g) (.slice (some ⟨go47, 0, none⟩) t101.length co49) t101 from (by exact HO103.out));obtain ⟨ce52, hcl52, hM52, hcc52, hfr52⟩ := Kd.N_elem HX52.out z27 (t105 : Int) (of_decide_eq_true (by first | (with_reducible assumption) | assumption)) (by have h_ : (t105 : Int) < ((t101.length : Int) : Int) := of_decide_eq_true (by first | (with_reducible assumption) | assumption);first | exact h_ | (have e_ := (Kd.N_reads' HO103.out).1;omega) | simpa using h_);obtain ⟨ua52_2, uc52_2, rfl, ul52_2, ge52_2⟩ := k27_openF hM52;have HP52 := Kd.N_seg HX52.out (t105 : Int) (of_decide_eq_true (by first | (with_reducible assumption) | assumption)) (by have h_ : (t105 : Int) < ((t101.length : Int) : Int) := of_decide_eq_true (by first | (with_reducible assumption) | assumption);first | exact h_ | (have e_ := (Kd.N_reads' HO103.out).1;omega) | simpa using h_) (seg := [.int .i64 2001]) (j := 1) hcl52 hcc52 (show 2 ≤ 3 from by decide) (x' := (⟨(rd_T27 t101 t105).f0, 2001, (rd_T27 t101 t105).f2⟩ : S27)) (k27_mkF _ _ (⟨(rd_T27 t101 t105).f0, 2001, (rd_T27 t101 t105).f2⟩ : S27) ul52_2 ge52_2) (fun _ hk => hk);have hx52_1 := hcc52 1 _ rfl;(try simp only [show (k27).sz = 3 from rfl, Nat.mul_one, Nat.add_zero] at hx52_1);have hf52_1 := hfr52 1;(try simp only [show (k27).sz = 3 from rfl, Nat.mul_one, Nat.add_zero] at hf52_1);clear hcl52 hcc52 hfr52 hM52) | ((with_reducible refine gate_store (t := 3) (p := 53) rfl ?_);refine store_event (t := 3) (p := 53) (v := ?vo_w53) (w1 := (w51.setCell ⟨go47, (t105 : Int).toNat * 3 + 1, none⟩ (.int .i64 2001))) ?hg ?ho ?hn ?hr ?_;(case ho => rfl);(case hg => rfl);(case hn => rfl);(case hr => first | (go_simp;done) | (go_simp;rfl));intro w53 hw;have hg : w51.grownBy w53 (some go47) := (by rw [hw];exact HP52.2);have hp_ : Kd.N k27 27 w53 w.heap.size (fun k_ => (w.heap.size ≤ k_) ∧ k_ ≠ g) (.slice (some ⟨go47, 0, none⟩) t101.length co49) y125 := (by rw [hw, Ny125.out];exact HP52.1);clear HP52;replace HI0 := Aside0.mk (IsS100.grown (by repeat (first | (with_reducible first | exact HI0.out | apply IsS100.alloc | apply IsS100.drewN | apply IsS100.drew | apply IsS100.set_1) | exact HI0.out)) hg (IsS100.own_neN HI0.out HO103.out (by decide)));replace HB := Aside0.mk ((by rw [hw];exact below_set (HB.out) (Nat.le_trans HL.out GB47.out) : Below w0.heap.size w0 w53));replace HK := Aside0.mk (KeepBut.trans (by repeat (first | (with_reducible first | exact HK.out | apply KeepBut.set_ | apply keep_drewN | apply keep_drew | apply keep_alloc) | exact HK.out)) (KeepBut.of_grown hg g) (Kd.N_base2 HO103.out));replace HO103 := Aside0.mk (hp_);clear hg hw hp_))
        go_ret
        exact ⟨_, by first | rfl | (simp [errW_none, errW_some] <;> rfl) | (simp [*, errW_none, errW_some] <;> rfl), by (with_reducible repeat (first | apply Kd.N_alloc | apply Kd.N_drewN | apply Kd.N_drew));exact Kd.N_mono HO103.out (fun _ hk => hk.1), by repeat (first | (with_reducible first | exact HI0.out | apply IsS100.alloc | apply IsS100.drewN | apply IsS100.drew | apply IsS100.set_1) | exact HI0.out), by repeat (first | (with_reducible first | exact HB.out | apply below_alloc | apply pw_below_drewN | apply below_drew1 | refine below_set ?_ (IsS100.ge HI0.out)) | exact HB.out), by repeat (first | (with_reducible first | exact HK.out | apply KeepBut.set_ | apply keep_drewN | apply keep_drew | apply keep_alloc) | exact HK.out)⟩
       ·rw [if_neg c46] at H
        exact absurd H (by simp)
      ·rw [if_neg c45] at H
       exact absurd H (by simp)
     ·rw [if_neg c44] at H
      have c44b0 : (t107 == 3) = false := beq_eq_false_iff_ne.mpr c44
      have c44b1 : (t107 != 3) = true := bne_iff_ne.mpr c44
      simp only [Option.some.injEq, Prod.mk.injEq] at H
      obtain ⟨rfl, rfl⟩ := H
      go_enter Try.func77, Try.ntmps77
      go_wp2_with (first | ((with_reducible refine gate_callee (f := 96) rfl ?_);refine goesL_ (some 6) rfl rfl Try.func96 (by kernel_rfl) rfl #[.pointer (some ⟨g, 0, none⟩), .int .i64 6] rfl (by (try simp only [List.map_toArray, List.map_cons, List.map_nil]);first | done | rfl | (simp only [List.length_drop, List.length_take];rfl)) ?_;(with_reducible refine (spec_l3Some.calls k g s0_0 s0_1 6 t101 t104 w0 _ ?side1 ?side2 A2.out).mono ?_);(case side1 => repeat (first | (with_reducible first | exact HI0.out | apply IsS100.alloc | apply IsS100.drewN | apply IsS100.drew | apply IsS100.set_1) | exact HI0.out));(case side2 => repeat (first | (with_reducible first | exact HB.out | apply below_alloc | apply pw_below_drewN | apply below_drew1 | refine below_set ?_ (IsS100.ge HI0.out)) | exact HB.out));rintro e w54 ⟨v102, rfl, ho0, hi, hb, hk⟩;refine ⟨_, rfl, ?_⟩;have HO103 := Aside0.mk (Kd.N_lower (Kd.N_mono (ok' := fun k_ => (w.heap.size ≤ k_) ∧ k_ ≠ g) (Kd.S_N (Kd.S_bound ho0)) (fun k_ hk_ => ⟨(Nat.le_trans (keep_size (w := w) (g := g) (row := none) (by repeat (first | (with_reducible first | exact HK.out | apply KeepBut.set_ | apply keep_drewN | apply keep_drew | apply keep_alloc) | exact HK.out))) hk_.2.1), (IsS100.fresh (by repeat (first | (with_reducible first | exact HI0.out | apply IsS100.alloc | apply IsS100.drewN | apply IsS100.drew | apply IsS100.set_1) | exact HI0.out)) k_ hk_.2.1)⟩)) (keep_size (w := w) (g := g) (row := none) (by repeat (first | (with_reducible first | exact HK.out | apply KeepBut.set_ | apply keep_drewN | apply keep_drew | apply keep_alloc) | exact HK.out))));replace HK := Aside0.mk (KeepBut.trans (by repeat (first | (with_reducible first | exact HK.out | apply KeepBut.set_ | apply keep_drewN | apply keep_drew | apply keep_alloc) | exact HK.out)) hk (.inl rfl));replace HB := Aside0.mk (hb);replace HI0 := Aside0.mk (hi);(try clear hb);(try clear hb2);(try clear hk);(try clear hi);(try clear ho0);obtain ⟨Ao55, co55, eo55⟩ := Kd.N_slice HO103.out;subst eo55) | ((with_reducible refine gate_callee (f := 74) rfl ?_);refine goesL_ (some 14) rfl rfl Try.func74 (by kernel_rfl) rfl #[.pointer (some ⟨g, 0, none⟩), .int .i64 (t101.length : Int)] rfl (by (try simp only [List.map_toArray, List.map_cons, List.map_nil]);first | done | rfl | (simp only [List.length_drop, List.length_take];rfl)) ?_;(with_reducible refine (spec_l14Rd_pick.calls k g s0_0 t104 (t101.length : Int) t105 t106 w0 _ ?side1 ?side2 A6.out).mono ?_);(case side1 => repeat (first | (with_reducible first | exact HI0.out | apply IsS100.alloc | apply IsS100.drewN | apply IsS100.drew | apply IsS100.set_1) | exact HI0.out));(case side2 => repeat (first | (with_reducible first | exact HB.out | apply below_alloc | apply pw_below_drewN | apply below_drew1 | refine below_set ?_ (IsS100.ge HI0.out)) | exact HB.out));rintro e w56 ⟨rfl, hi, hb, hk⟩;refine ⟨_, rfl, ?_⟩;replace HO103 := Aside0.mk (Kd.N_mono (Kd.N_keep (Kd.N_mono (ok := fun k_ => (((w.heap.size ≤ k_)) ∧ k_ ≠ g)) (by exact HO103.out) (fun k_ hk_ => (⟨hk_, hk_.2⟩ : _ ∧ k_ ≠ g))) hk (fun _ h => h.2)) (fun _ h => h.1));replace HK := Aside0.mk (KeepBut.trans (by repeat (first | (with_reducible first | exact HK.out | apply KeepBut.set_ | apply keep_drewN | apply keep_drew | apply keep_alloc) | exact HK.out)) hk (.inl rfl));replace HB := Aside0.mk (hb);replace HI0 := Aside0.mk (hi);(try clear hb);(try clear hb2);(try clear hk);(try clear hi)) | ((with_reducible refine gate_callee (f := 74) rfl ?_);refine goesL_ (some 16) rfl rfl Try.func74 (by kernel_rfl) rfl #[.pointer (some ⟨g, 0, none⟩), .int .i64 40] rfl (by (try simp only [List.map_toArray, List.map_cons, List.map_nil]);first | done | rfl | (simp only [List.length_drop, List.length_take];rfl)) ?_;(with_reducible refine (spec_l14Rd_pick.calls k g s0_0 t106 40 t107 t108 w0 _ ?side1 ?side2 A7.out).mono ?_);(case side1 => repeat (first | (with_reducible first | exact HI0.out | apply IsS100.alloc | apply IsS100.drewN | apply IsS100.drew | apply IsS100.set_1) | exact HI0.out));(case side2 => repeat (first | (with_reducible first | exact HB.out | apply below_alloc | apply pw_below_drewN | apply below_drew1 | refine below_set ?_ (IsS100.ge HI0.out)) | exact HB.out));rintro e w57 ⟨rfl, hi, hb, hk⟩;refine ⟨_, rfl, ?_⟩;replace HO103 := Aside0.mk (Kd.N_mono (Kd.N_keep (Kd.N_mono (ok := fun k_ => (((w.heap.size ≤ k_)) ∧ k_ ≠ g)) (by exact HO103.out) (fun k_ hk_ => (⟨hk_, hk_.2⟩ : _ ∧ k_ ≠ g))) hk (fun _ h => h.2)) (fun _ h => h.1));replace HK := Aside0.mk (KeepBut.trans (by repeat (first | (with_reducible first | exact HK.out | apply KeepBut.set_ | apply keep_drewN | apply keep_drew | apply keep_alloc) | exact HK.out)) hk (.inl rfl));replace HB := Aside0.mk (hb);replace HI0 := Aside0.mk (hi);(try clear hb);(try clear hb2);(try clear hk);(try clear hi)))
      go_ret
      exact ⟨_, by first | rfl | (simp [errW_none, errW_some] <;> rfl) | (simp [*, errW_none, errW_some] <;> rfl), by (with_reducible repeat (first | apply Kd.N_alloc | apply Kd.N_drewN | apply Kd.N_drew));exact Kd.N_mono HO103.out (fun _ hk => hk.1), by repeat (first | (with_reducible first | exact HI0.out | apply IsS100.alloc | apply IsS100.drewN | apply IsS100.drew | apply IsS100.set_1) | exact HI0.out), by repeat (first | (with_reducible first | exact HB.out | apply below_alloc | apply pw_below_drewN | apply below_drew1 | refine below_set ?_ (IsS100.ge HI0.out)) | exact HB.out), by repeat (first | (with_reducible first | exact HK.out | apply KeepBut.set_ | apply keep_drewN | apply keep_drew | apply keep_alloc) | exact HK.out)⟩

end Go.Proofs.Ytiplpckgmikmeaa.M
namespace Go.Proofs.Ytiplpckgmikmeaa.M
open Go.RowKit Go.Proofs.YtiplpckgmikmeaaW.PrintWords Go.Proofs.YtiplpckgmikmeaaW.PrintLast Go.Proofs.YtiplpckgmikmeaaW.PrintMore
attribute [local go_sem] max2_int min2_int max_two min_two max_three min_three max_four min_four
set_option linter.unusedVariables false
set_option linter.unusedSimpArgs false

def spec_DrawOccsSame.f (k : Nat) (l0 : List Int) : Option (List (S27) × List (S27)) := (spec_l14Open.f l0).bind fun t => (spec_l3Bent.f k t.1 t.2).bind fun a => (spec_l3Bent.f k t.1 t.2).bind fun b => if 0 < l0.length ∧ Int.tmod (rd l0 0) 2 = 1 then (if b.1.length < 1099511627776 then some (a.1, b.1 ++ [⟨1, 999, [1]⟩]) else none) else some (a.1, b.1)
theorem spec_DrawOccsSame.mono : ∀ a0 k, LeO (spec_DrawOccsSame.f k a0) (spec_DrawOccsSame.f (k + 1) a0) := by
 intro a0 k
 unfold spec_DrawOccsSame.f
 exact LeO.bind (LeO.refl _) (fun _ => LeO.bind (spec_l3Bent.mono _ _ k) (fun _ => LeO.bind (spec_l3Bent.mono _ _ k) (fun _ => LeO.refl _)))
set_option maxHeartbeats 4000000 in
set_option maxRecDepth 100000 in
theorem spec_DrawOccsSame.calls (k : Nat) (A0 : Option Addr) (c0 : Nat) (l0 : List Int) (r1 : List (S27)) (r2 : List (S27)) (w : World) (hr0 : Kd.C (Kd.int .u8) w A0 l0.length l0) (hc0 : l0.length ≤ c0) (h : spec_DrawOccsSame.f k l0 = some (r1, r2)) :
  Calls Try.prog 47 #[.slice A0 l0.length c0] w fun e w' => ∃ v0_ v1_ : Value, e = .returned (.tuple #[v0_, v1_]) ∧ Kd.N k27 27 w' w.heap.size (fun k_ => (w.heap.size ≤ k_) ∧ some k_ ≠ (v1_ : Value).ownBlock) v0_ r1 ∧ Kd.N k27 27 w' w.heap.size (fun k_ => (w.heap.size ≤ k_) ∧ some k_ ≠ (v0_ : Value).ownBlock) v1_ r2 ∧ Below w.heap.size w w' := by
 unfold spec_DrawOccsSame.f at h
 obtain ⟨⟨c, p⟩, ho, h⟩ := Option.bind_eq_some_iff.1 h
 obtain ⟨⟨a, pa⟩, ha, h⟩ := Option.bind_eq_some_iff.1 h
 obtain ⟨⟨b, pb⟩, hb_, h⟩ := Option.bind_eq_some_iff.1 h
 have HO := Aside0.mk ho
 have HA := Aside0.mk ha
 have HB_ := Aside0.mk hb_
 have HH := Aside0.mk h
 have HR0 := Aside0.mk hr0
 have HC0 := Aside0.mk hc0
 clear ho ha hb_ h hr0 hc0
 go_enter Try.func47, Try.ntmps47
 go_wp2_with (go_at_call 72;fail)
 refine (spec_l14Open.calls A0 c0 l0 c p w w (Below.refl _ _) HR0.out HC0.out HO.out).mono ?_
 rintro e w1 ⟨g, rfl, hi, _, hb⟩
 have HI := Aside0.mk hi
 have HB := Aside0.mk hb
 clear hi hb
 go_wp2_with (go_at_call 77;fail)
 refine (spec_l3Bent.calls k g c p a pa w w1 HI.out HB.out HA.out).mono ?_
 rintro e w2 ⟨va, rfl, hn, _, hb, _⟩
 have HNA := Aside0.mk (Kd.N_mono (ok' := fun k_ => w.heap.size ≤ k_ ∧ k_ < w2.heap.size) (Kd.N_lower (Kd.N_bound hn) HB.out.size) (fun k_ hk => ⟨Nat.le_trans HB.out.size hk.1, hk.2⟩))
 have n0_ := Aside0.mk hb
 clear HI HB HA hn hb
 have HB := n0_
 clear n0_
 go_wp2_with (go_at_call 72;fail)
 refine (spec_l14Open.calls A0 c0 l0 c p w2 w2 (Below.refl _ _) (Kd.C_below HR0.out HB.out) HC0.out HO.out).mono ?_
 rintro e w3 ⟨g', rfl, hi, _, hb⟩
 have HI := Aside0.mk hi
 have HB3 := Aside0.mk hb
 clear hi hb
 go_wp2_with (go_at_call 77;fail)
 refine (spec_l3Bent.calls k g' c p b pb w2 w3 HI.out HB3.out HB_.out).mono ?_
 rintro e w4 ⟨vb, rfl, hn, _, hb, hk⟩
 have HNB := Aside0.mk (Kd.N_lower hn (Nat.le_trans HB.out.size HB3.out.size))
 have n0_ := Aside0.mk (Kd.N_below HNA.out hb)
 have n1_ := Aside0.mk (below_step HB.out hb)
 have HS1 := Aside0.mk HB.out.size
 have HS2 := Aside0.mk HB3.out.size
 have HS4 := Aside0.mk hk.1
 clear HNA HB HB3 HI HB_ hn hb hk
 have HNA := n0_
 have HB := n1_
 clear n0_ n1_
 have fin : ∀ (W : World) (v1 : Value), Kd.N k27 27 W w.heap.size (fun k_ => w.heap.size ≤ k_ ∧ k_ < w2.heap.size) va a → Kd.N k27 27 W w.heap.size (fun k_ => w3.heap.size ≤ k_) v1 r2 → (a = r1) → Below w.heap.size w W → ∃ v0_ v1_ : Value, Ending.returned (.tuple #[va, v1]) = .returned (.tuple #[v0_, v1_]) ∧ Kd.N k27 27 W w.heap.size (fun k_ => (w.heap.size ≤ k_) ∧ some k_ ≠ (v1_ : Value).ownBlock) v0_ r1 ∧ Kd.N k27 27 W w.heap.size (fun k_ => (w.heap.size ≤ k_) ∧ some k_ ≠ (v0_ : Value).ownBlock) v1_ r2 ∧ Below w.heap.size w W := by
  intro W v1 h1 h2 h3 h4
  subst h3
  have s2 := HS2.out
  refine ⟨va, v1, rfl, Kd.N_mono h1 (fun k_ hk => ⟨hk.1, fun he => ?_⟩), Kd.N_mono h2 (fun k_ hk => ⟨?_, fun he => ?_⟩), h4⟩
  ·have h5 : w3.heap.size ≤ k_ := h2.1 k_ he.symm
   have := hk.2
   omega
  ·have h5 : w3.heap.size ≤ k_ := hk
   have := HS1.out
   omega
  ·have := (h1.1 k_ he.symm).2
   have h5 : w3.heap.size ≤ k_ := hk
   omega
 have HFIN := Aside0.mk fin
 clear fin
 by_cases h0 : 0 < l0.length
 ·obtain ⟨ad, rfl, hcell⟩ := Kd.at_int (Kd.C_below HR0.out HB.out) 0 (by omega) (by omega)
  have h0' : ((0 : Int) < (l0.length : Int)) := by omega
  have hcap : 0 < l0.length := h0
  have hcell0 : w4.cell? ad = some (.int .u8 (rd l0 0)) := by simpa [Addr.add] using hcell
  clear hcell
  by_cases hm : Int.tmod (rd l0 0) 2 = 1
  ·have HH2 := Aside0.mk (show (if b.length < 1099511627776 then some (a, b ++ [(⟨1, 999, [1]⟩ : S27)]) else none) = some (r1, r2) from by have := HH.out;rw [if_pos ⟨h0, hm⟩] at this;exact this)
   by_cases hl : b.length < 1099511627776
   ·have HH3 := Aside0.mk (show some (a, b ++ [(⟨1, 999, [1]⟩ : S27)]) = some (r1, r2) from by have := HH2.out;rw [if_pos hl] at this;exact this)
    have HL := Aside0.mk hl
    clear hl
    have hm' : (Int.tmod (rd l0 0) 2 == 1) = true := beq_iff_eq.mpr hm
    go_wp2_with (first
     | ((with_reducible refine gate_dst (N := 23) rfl ?_);refine Kd.R_lit (Kd.int .i64) _ 3 ?hg (N := 23) ?hd (xs := ([1] : List Int)) (inner := [.int .i64 1]) (ok := fun k_ => w4.heap.size ≤ k_) (okp := fun _ => False) ?hr ?hp (fun _ h => h.elim) (Nat.le_refl _) (Below.refl _ _) (Nat.le_refl _) (by simp) ?_;(case hd => rfl);(case hg => rfl);(case hr => first | (go_simp;done) | (go_simp;rfl));(case hp => exact Reps.one rfl (Reps.none _ _));intro v23 w5 hol hb hg_ hnew_;clear hg_ hnew_;have HO23 := Aside0.mk hol;have HB5 := Aside0.mk hb;clear hol hb;obtain ⟨A23, c23, e23⟩ := Kd.R_slice HO23.out;subst e23)
     | ((with_reducible refine gate_builtin (b := .append) (xs := #[.tmp 22, .tmp 25]) rfl ?_);at_builtin;refine Kd.N_append k27 (w0 := w) w.heap.size rfl (.tmp 22) (.tmp 25) 34 27 (.agg #[(.int .i64 0), (.int .i64 0), (.slice none 0 0)]) 40 rfl Try.underlying34 info27 rfl (by decide) (by omega) vb b (⟨1, 999, [1]⟩ : S27) [.int .i64 1, .int .i64 999, .slice A23 1 c23] (fun k_ => w3.heap.size ≤ k_) (fun k_ => w4.heap.size ≤ k_) rfl rfl ?aP ?ap ?aF ?aO ?aB ?aS ?aL ?_;(case aP => exact Kd.FK_of_M (k27_mkM _ w4.heap.size _ (⟨1, 999, [1]⟩ : S27) HO23.out));(case ap => exact fun k_ hk => ⟨Nat.le_trans HS4.out hk, fun he => by have := Kd.N_lt HNB.out k_ he.symm;have h5 : w4.heap.size ≤ k_ := hk;omega⟩);(case aF => exact fun k_ hk => Nat.le_trans HS4.out (Nat.le_trans HB5.out.size hk));(case aO => exact Kd.N_below HNB.out HB5.out);(case aB => exact below_step HB.out HB5.out);(case aS => exact Nat.le_trans HB.out.size HB5.out.size);(case aL => have := HL.out;omega);intro v26 w6 hn6 hb6 hg hat;have HN6 := Aside0.mk hn6;have HB6 := Aside0.mk hb6;have HG6 := Aside0.mk (Kd.N_grown (Kd.N_below HNA.out HB5.out) hg (fun k_ hk he => by have h5 : w3.heap.size ≤ k_ := HNB.out.1 k_ he.symm;have := HS2.out;have := hk.2;omega));clear hn6 hb6 hg hat))
    go_ret2
    have h1 := HH3.out
    simp only [Option.some.injEq, Prod.mk.injEq] at h1
    obtain ⟨e1, e2⟩ := h1
    subst e2
    exact HFIN.out _ _ HG6.out HN6.out e1 HB6.out
   ·exact absurd (show (none : Option (List S27 × List S27)) = some (r1, r2) from by have := HH2.out;rw [if_neg hl] at this;exact this) (by simp)
  ·have HH2 := Aside0.mk (show some (a, b) = some (r1, r2) from by have := HH.out;rw [if_neg (fun h => hm h.2)] at this;exact this)
   have hm' : (Int.tmod (rd l0 0) 2 == 1) = false := beq_eq_false_iff_ne.mpr hm
   go_wp2
   go_ret2
   have h1 := HH2.out
   simp only [Option.some.injEq, Prod.mk.injEq] at h1
   obtain ⟨e1, e2⟩ := h1
   subst e2
   exact HFIN.out w4 vb HNA.out HNB.out e1 HB.out
 ·have HH2 := Aside0.mk (show some (a, b) = some (r1, r2) from by have := HH.out;rw [if_neg (fun h => h0 h.1)] at this;exact this)
  have h0' : ¬ ((0 : Int) < (l0.length : Int)) := by omega
  go_wp2
  go_ret2
  have h1 := HH2.out
  simp only [Option.some.injEq, Prod.mk.injEq] at h1
  obtain ⟨e1, e2⟩ := h1
  subst e2
  exact HFIN.out w4 vb HNA.out HNB.out e1 HB.out

end Go.Proofs.Ytiplpckgmikmeaa.M
namespace Go.Proofs.Ytiplpckgmikmeaa.M
open Go.RowKit Go.Proofs.YtiplpckgmikmeaaW.PrintWords Go.Proofs.YtiplpckgmikmeaaW.PrintLast Go.Proofs.YtiplpckgmikmeaaW.PrintMore
attribute [local go_sem] max2_int min2_int max_two min_two max_three min_three max_four min_four
set_option linter.unusedVariables false
set_option linter.unusedSimpArgs false

mutual
def laws_FnOccOrder.j0 : Nat → List Int → List Int → Bool → Option (Bool)
 | 0, _, _, _ => none
 | k + 1, x0, x1, x20 => if x20 = true then (some true) else ((spec_DrawOccLess.f k x0).bind fun bt101 => ((spec_DrawOccLess.f k x1).bind fun bt113 => ((impl_OccLess.f k bt101.1 bt101.2.1 bt101.2.2.1 bt101.2.2.2.1 bt101.2.2.2.2.1 bt101.2.2.2.2.2).bind fun t125 => ((spec_OccLess.f k bt101.1 bt101.2.1 bt101.2.2.1 bt101.2.2.2.1 bt101.2.2.2.2.1 bt101.2.2.2.2.2).bind fun t126 => (if (t125 != t126) = true then (some false) else (laws_FnOccOrder.l0 k x0 0 bt101.1 bt101.2.1 bt101.2.2.1 bt101.2.2.2.1 bt101.2.2.2.2.1 bt101.2.2.2.2.2 bt113.1 bt113.2.1 bt113.2.2.1 bt113.2.2.2.1 bt113.2.2.2.2.1 bt113.2.2.2.2.2))))))
def laws_FnOccOrder.l0 : Nat → List Int → Int → Int → Int → List Int → Int → Int → List Int → Int → Int → List Int → Int → Int → List Int → Option (Bool)
 | 0, _, _, _, _, _, _, _, _, _, _, _, _, _, _ => none
 | k + 1, x0, x9, x112000, x112001, x112002, x113000, x113001, x113002, x124000, x124001, x124002, x125000, x125001, x125002 => if x9 < 2 then ((impl_OccLess.f k x112000 x112001 x112002 x113000 x113001 x113002).bind fun t127 => (if t127 = true then ((impl_OccLess.f k x113000 x113001 x113002 x124000 x124001 x124002).bind fun t128 => (if t128 = true then ((impl_OccLess.f k x112000 x112001 x112002 x124000 x124001 x124002).bind fun t129 => (if t129 = true then ((impl_OccLess.f k x112000 x112001 x112002 x112000 x112001 x112002).bind fun t130 => (if t130 = true then (some false) else (laws_FnOccOrder.l0 k x0 (wrap64 (x9 + 1)) x112000 x112001 x112002 x113000 x113001 x113002 x125000 x125001 x125002 x125000 x125001 x125002))) else (some false))) else ((impl_OccLess.f k x112000 x112001 x112002 x112000 x112001 x112002).bind fun t131 => (if t131 = true then (some false) else (laws_FnOccOrder.l0 k x0 (wrap64 (x9 + 1)) x112000 x112001 x112002 x113000 x113001 x113002 x125000 x125001 x125002 x125000 x125001 x125002))))) else ((impl_OccLess.f k x112000 x112001 x112002 x112000 x112001 x112002).bind fun t132 => (if t132 = true then (some false) else (laws_FnOccOrder.l0 k x0 (wrap64 (x9 + 1)) x112000 x112001 x112002 x113000 x113001 x113002 x125000 x125001 x125002 x125000 x125001 x125002))))) else ((spec_DrawOccsSame.f k x0).bind fun bt133 => ((impl_OccsSame.f k bt133.1 bt133.2).bind fun t139 => ((spec_OccsSame.f k bt133.1 bt133.2).bind fun t140 => (if (t139 != t140) = true then (laws_FnOccOrder.j2 k bt133.1 true) else ((impl_OccsOk.f k bt133.1).bind fun t141 => ((spec_OccsOk.f k bt133.1).bind fun t142 => (laws_FnOccOrder.j2 k bt133.1 (t141 != t142))))))))
def laws_FnOccOrder.j2 : Nat → List (S27) → Bool → Option (Bool)
 | 0, _, _ => none
 | k + 1, x10, x80 => if x80 = true then (some false) else (laws_FnOccOrder.l1 k x10 1)
def laws_FnOccOrder.l1 : Nat → List (S27) → Int → Option (Bool)
 | 0, _, _ => none
 | k + 1, x10, x12 => if x12 < (x10.length : Int) then ((spec_OccsOk.f k x10).bind fun t143 => (laws_FnOccOrder.j4 k x10 x12 t143)) else (laws_FnOccOrder.j4 k x10 x12 false)
def laws_FnOccOrder.j4 : Nat → List (S27) → Int → Bool → Option (Bool)
 | 0, _, _, _ => none
 | k + 1, x10, x12, x88 => if x88 = true then (if 0 < (x10.length : Int) then (if 0 ≤ x12 then (if x12 < (x10.length : Int) then ((impl_OccLess.f k ((rd_T27 x10 0).f0) ((rd_T27 x10 0).f1) ((rd_T27 x10 0).f2) ((rd_T27 x10 x12).f0) ((rd_T27 x10 x12).f1) ((rd_T27 x10 x12).f2)).bind fun t146 => (if t146 = true then (laws_FnOccOrder.l1 k x10 (wrap64 (x12 + 1))) else (some false))) else (none)) else (none)) else (none)) else (some true)
end
def laws_FnOccOrder.f (k : Nat) (l0 : List Int) (l1 : List Int) : Option (Bool) := if (l0.length : Int) > 1048576 then (laws_FnOccOrder.j0 k l0 l1 true) else (laws_FnOccOrder.j0 k l0 l1 (decide ((l1.length : Int) > 1048576)))
theorem laws_FnOccOrder.mono_l : ∀ k, (∀ y0 y1 y2, LeO (laws_FnOccOrder.j0 k y0 y1 y2) (laws_FnOccOrder.j0 (k + 1) y0 y1 y2)) ∧ (∀ y0 y1 y2 y3 y4 y5 y6 y7 y8 y9 y10 y11 y12 y13, LeO (laws_FnOccOrder.l0 k y0 y1 y2 y3 y4 y5 y6 y7 y8 y9 y10 y11 y12 y13) (laws_FnOccOrder.l0 (k + 1) y0 y1 y2 y3 y4 y5 y6 y7 y8 y9 y10 y11 y12 y13)) ∧ (∀ y0 y1, LeO (laws_FnOccOrder.j2 k y0 y1) (laws_FnOccOrder.j2 (k + 1) y0 y1)) ∧ (∀ y0 y1, LeO (laws_FnOccOrder.l1 k y0 y1) (laws_FnOccOrder.l1 (k + 1) y0 y1)) ∧ (∀ y0 y1 y2, LeO (laws_FnOccOrder.j4 k y0 y1 y2) (laws_FnOccOrder.j4 (k + 1) y0 y1 y2))
 | 0 => ⟨fun _ _ _ r h => by simp [laws_FnOccOrder.j0] at h, fun _ _ _ _ _ _ _ _ _ _ _ _ _ _ r h => by simp [laws_FnOccOrder.l0] at h, fun _ _ r h => by simp [laws_FnOccOrder.j2] at h, fun _ _ r h => by simp [laws_FnOccOrder.l1] at h, fun _ _ _ r h => by simp [laws_FnOccOrder.j4] at h⟩
 | k + 1 => by
  obtain ⟨ih0, ih1, ih2, ih3, ih4⟩ := laws_FnOccOrder.mono_l k
  refine ⟨?_, ?_, ?_, ?_, ?_⟩
  ·intro y0 y1 y2
   unfold laws_FnOccOrder.j0
   repeat' first
   | (with_reducible exact ih0 _ _ _)
   | (with_reducible exact ih1 _ _ _ _ _ _ _ _ _ _ _ _ _ _)
   | (with_reducible exact ih2 _ _)
   | (with_reducible exact ih3 _ _)
   | (with_reducible exact ih4 _ _ _)
   | (with_reducible exact impl_OccLess.mono _ _ _ _ _ _ _)
   | (with_reducible exact impl_OccsOk.mono _ _)
   | (with_reducible exact impl_OccsSame.mono _ _ _)
   | (with_reducible exact spec_DrawOccLess.mono _ _)
   | (with_reducible exact spec_DrawOccsSame.mono _ _)
   | (with_reducible exact spec_OccLess.mono _ _ _ _ _ _ _)
   | (with_reducible exact spec_OccsOk.mono _ _)
   | (with_reducible exact spec_OccsSame.mono _ _ _)
   | (with_reducible exact LeO.refl _)
   | (with_reducible exact LeO.none _)
   | (with_reducible refine LeO.ite ?_ ?_)
   | (with_reducible refine LeO.bind ?_ (fun _ => ?_))
   | exact ih0 _ _ _
   | exact ih1 _ _ _ _ _ _ _ _ _ _ _ _ _ _
   | exact ih2 _ _
   | exact ih3 _ _
   | exact ih4 _ _ _
   | exact impl_OccLess.mono _ _ _ _ _ _ _
   | exact impl_OccsOk.mono _ _
   | exact impl_OccsSame.mono _ _ _
   | exact spec_DrawOccLess.mono _ _
   | exact spec_DrawOccsSame.mono _ _
   | exact spec_OccLess.mono _ _ _ _ _ _ _
   | exact spec_OccsOk.mono _ _
   | exact spec_OccsSame.mono _ _ _
   | exact LeO.none _
   | refine LeO.ite ?_ ?_
   | refine LeO.bind ?_ (fun _ => ?_)
  ·intro y0 y1 y2 y3 y4 y5 y6 y7 y8 y9 y10 y11 y12 y13
   unfold laws_FnOccOrder.l0
   repeat' first
   | (with_reducible exact ih0 _ _ _)
   | (with_reducible exact ih1 _ _ _ _ _ _ _ _ _ _ _ _ _ _)
   | (with_reducible exact ih2 _ _)
   | (with_reducible exact ih3 _ _)
   | (with_reducible exact ih4 _ _ _)
   | (with_reducible exact impl_OccLess.mono _ _ _ _ _ _ _)
   | (with_reducible exact impl_OccsOk.mono _ _)
   | (with_reducible exact impl_OccsSame.mono _ _ _)
   | (with_reducible exact spec_DrawOccLess.mono _ _)
   | (with_reducible exact spec_DrawOccsSame.mono _ _)
   | (with_reducible exact spec_OccLess.mono _ _ _ _ _ _ _)
   | (with_reducible exact spec_OccsOk.mono _ _)
   | (with_reducible exact spec_OccsSame.mono _ _ _)
   | (with_reducible exact LeO.refl _)
   | (with_reducible exact LeO.none _)
   | (with_reducible refine LeO.ite ?_ ?_)
   | (with_reducible refine LeO.bind ?_ (fun _ => ?_))
   | exact ih0 _ _ _
   | exact ih1 _ _ _ _ _ _ _ _ _ _ _ _ _ _
   | exact ih2 _ _
   | exact ih3 _ _
   | exact ih4 _ _ _
   | exact impl_OccLess.mono _ _ _ _ _ _ _
   | exact impl_OccsOk.mono _ _
   | exact impl_OccsSame.mono _ _ _
   | exact spec_DrawOccLess.mono _ _
   | exact spec_DrawOccsSame.mono _ _
   | exact spec_OccLess.mono _ _ _ _ _ _ _
   | exact spec_OccsOk.mono _ _
   | exact spec_OccsSame.mono _ _ _
   | exact LeO.none _
   | refine LeO.ite ?_ ?_
   | refine LeO.bind ?_ (fun _ => ?_)
  ·intro y0 y1
   unfold laws_FnOccOrder.j2
   repeat' first
   | (with_reducible exact ih0 _ _ _)
   | (with_reducible exact ih1 _ _ _ _ _ _ _ _ _ _ _ _ _ _)
   | (with_reducible exact ih2 _ _)
   | (with_reducible exact ih3 _ _)
   | (with_reducible exact ih4 _ _ _)
   | (with_reducible exact impl_OccLess.mono _ _ _ _ _ _ _)
   | (with_reducible exact impl_OccsOk.mono _ _)
   | (with_reducible exact impl_OccsSame.mono _ _ _)
   | (with_reducible exact spec_DrawOccLess.mono _ _)
   | (with_reducible exact spec_DrawOccsSame.mono _ _)
   | (with_reducible exact spec_OccLess.mono _ _ _ _ _ _ _)
   | (with_reducible exact spec_OccsOk.mono _ _)
   | (with_reducible exact spec_OccsSame.mono _ _ _)
   | (with_reducible exact LeO.refl _)
   | (with_reducible exact LeO.none _)
   | (with_reducible refine LeO.ite ?_ ?_)
   | (with_reducible refine LeO.bind ?_ (fun _ => ?_))
   | exact ih0 _ _ _
   | exact ih1 _ _ _ _ _ _ _ _ _ _ _ _ _ _
   | exact ih2 _ _
   | exact ih3 _ _
   | exact ih4 _ _ _
   | exact impl_OccLess.mono _ _ _ _ _ _ _
   | exact impl_OccsOk.mono _ _
   | exact impl_OccsSame.mono _ _ _
   | exact spec_DrawOccLess.mono _ _
   | exact spec_DrawOccsSame.mono _ _
   | exact spec_OccLess.mono _ _ _ _ _ _ _
   | exact spec_OccsOk.mono _ _
   | exact spec_OccsSame.mono _ _ _
   | exact LeO.none _
   | refine LeO.ite ?_ ?_
   | refine LeO.bind ?_ (fun _ => ?_)
  ·intro y0 y1
   unfold laws_FnOccOrder.l1
   repeat' first
   | (with_reducible exact ih0 _ _ _)
   | (with_reducible exact ih1 _ _ _ _ _ _ _ _ _ _ _ _ _ _)
   | (with_reducible exact ih2 _ _)
   | (with_reducible exact ih3 _ _)
   | (with_reducible exact ih4 _ _ _)
   | (with_reducible exact impl_OccLess.mono _ _ _ _ _ _ _)
   | (with_reducible exact impl_OccsOk.mono _ _)
   | (with_reducible exact impl_OccsSame.mono _ _ _)
   | (with_reducible exact spec_DrawOccLess.mono _ _)
   | (with_reducible exact spec_DrawOccsSame.mono _ _)
   | (with_reducible exact spec_OccLess.mono _ _ _ _ _ _ _)
   | (with_reducible exact spec_OccsOk.mono _ _)
   | (with_reducible exact spec_OccsSame.mono _ _ _)
   | (with_reducible exact LeO.refl _)
   | (with_reducible exact LeO.none _)
   | (with_reducible refine LeO.ite ?_ ?_)
   | (with_reducible refine LeO.bind ?_ (fun _ => ?_))
   | exact ih0 _ _ _
   | exact ih1 _ _ _ _ _ _ _ _ _ _ _ _ _ _
   | exact ih2 _ _
   | exact ih3 _ _
   | exact ih4 _ _ _
   | exact impl_OccLess.mono _ _ _ _ _ _ _
   | exact impl_OccsOk.mono _ _
   | exact impl_OccsSame.mono _ _ _
   | exact spec_DrawOccLess.mono _ _
   | exact spec_DrawOccsSame.mono _ _
   | exact spec_OccLess.mono _ _ _ _ _ _ _
   | exact spec_OccsOk.mono _ _
   | exact spec_OccsSame.mono _ _ _
   | exact LeO.none _
   | refine LeO.ite ?_ ?_
   | refine LeO.bind ?_ (fun _ => ?_)
  ·intro y0 y1 y2
   unfold laws_FnOccOrder.j4
   repeat' first
   | (with_reducible exact ih0 _ _ _)
   | (with_reducible exact ih1 _ _ _ _ _ _ _ _ _ _ _ _ _ _)
   | (with_reducible exact ih2 _ _)
   | (with_reducible exact ih3 _ _)
   | (with_reducible exact ih4 _ _ _)
   | (with_reducible exact impl_OccLess.mono _ _ _ _ _ _ _)
   | (with_reducible exact impl_OccsOk.mono _ _)
   | (with_reducible exact impl_OccsSame.mono _ _ _)
   | (with_reducible exact spec_DrawOccLess.mono _ _)
   | (with_reducible exact spec_DrawOccsSame.mono _ _)
   | (with_reducible exact spec_OccLess.mono _ _ _ _ _ _ _)
   | (with_reducible exact spec_OccsOk.mono _ _)
   | (with_reducible exact spec_OccsSame.mono _ _ _)
   | (with_reducible exact LeO.refl _)
   | (with_reducible exact LeO.none _)
   | (with_reducible refine LeO.ite ?_ ?_)
   | (with_reducible refine LeO.bind ?_ (fun _ => ?_))
   | exact ih0 _ _ _
   | exact ih1 _ _ _ _ _ _ _ _ _ _ _ _ _ _
   | exact ih2 _ _
   | exact ih3 _ _
   | exact ih4 _ _ _
   | exact impl_OccLess.mono _ _ _ _ _ _ _
   | exact impl_OccsOk.mono _ _
   | exact impl_OccsSame.mono _ _ _
   | exact spec_DrawOccLess.mono _ _
   | exact spec_DrawOccsSame.mono _ _
   | exact spec_OccLess.mono _ _ _ _ _ _ _
   | exact spec_OccsOk.mono _ _
   | exact spec_OccsSame.mono _ _ _
   | exact LeO.none _
   | refine LeO.ite ?_ ?_
   | refine LeO.bind ?_ (fun _ => ?_)
theorem laws_FnOccOrder.mono : ∀ a0 a1 k, LeO (laws_FnOccOrder.f k a0 a1) (laws_FnOccOrder.f (k + 1) a0 a1) := by
 intro a0 a1 k
 obtain ⟨ih0, ih1, ih2, ih3, ih4⟩ := laws_FnOccOrder.mono_l k
 unfold laws_FnOccOrder.f
 repeat' first
   | (with_reducible exact ih0 _ _ _)
   | (with_reducible exact ih1 _ _ _ _ _ _ _ _ _ _ _ _ _ _)
   | (with_reducible exact ih2 _ _)
   | (with_reducible exact ih3 _ _)
   | (with_reducible exact ih4 _ _ _)
   | (with_reducible exact impl_OccLess.mono _ _ _ _ _ _ _)
   | (with_reducible exact impl_OccsOk.mono _ _)
   | (with_reducible exact impl_OccsSame.mono _ _ _)
   | (with_reducible exact spec_DrawOccLess.mono _ _)
   | (with_reducible exact spec_DrawOccsSame.mono _ _)
   | (with_reducible exact spec_OccLess.mono _ _ _ _ _ _ _)
   | (with_reducible exact spec_OccsOk.mono _ _)
   | (with_reducible exact spec_OccsSame.mono _ _ _)
   | (with_reducible exact LeO.refl _)
   | (with_reducible exact LeO.none _)
   | (with_reducible refine LeO.ite ?_ ?_)
   | (with_reducible refine LeO.bind ?_ (fun _ => ?_))
   | exact ih0 _ _ _
   | exact ih1 _ _ _ _ _ _ _ _ _ _ _ _ _ _
   | exact ih2 _ _
   | exact ih3 _ _
   | exact ih4 _ _ _
   | exact impl_OccLess.mono _ _ _ _ _ _ _
   | exact impl_OccsOk.mono _ _
   | exact impl_OccsSame.mono _ _ _
   | exact spec_DrawOccLess.mono _ _
   | exact spec_DrawOccsSame.mono _ _
   | exact spec_OccLess.mono _ _ _ _ _ _ _
   | exact spec_OccsOk.mono _ _
   | exact spec_OccsSame.mono _ _ _
   | exact LeO.none _
   | refine LeO.ite ?_ ?_
   | refine LeO.bind ?_ (fun _ => ?_)
def laws_FnOccOrder.T19 : Bool × List (List Nat × List Nat) := (true, [([], []), ([0], [0]), ([1], [1]), ([], []), ([], []), ([3, 4], [3, 4]), ([5], [5]), ([2, 6], [2, 6]), ([7], [7])])
def laws_FnOccOrder.B19 : List Nat := [0, 1, 3, 0, 0, 24, 56, 127, 255]
theorem laws_FnOccOrder.tab19 : rtab .any (opsOf Try.f10 19) = laws_FnOccOrder.T19 := by kernel_rfl
theorem laws_FnOccOrder.bits19 : waitsOk laws_FnOccOrder.T19.2 laws_FnOccOrder.B19 = true := by kernel_rfl
set_option maxHeartbeats 8000000 in
set_option maxRecDepth 100000 in
theorem laws_FnOccOrder.calls (k : Nat) (A0 : Option Addr) (c0 : Nat) (l0 : List Int) (A1 : Option Addr) (c1 : Nat) (l1 : List Int) (r : Bool) (hT_ : Aside0 (r = true)) (w : World) (hr0 : Kd.C (Kd.int .u8) w A0 l0.length l0) (hc0 : l0.length ≤ c0) (hr1 : Kd.C (Kd.int .u8) w A1 l1.length l1) (hc1 : l1.length ≤ c1) (h : laws_FnOccOrder.f k l0 l1 = some r) :
  Calls Try.prog 10 #[.slice A0 l0.length c0, .slice A1 l1.length c1] w fun e w' => e = .returned (.bool r) ∧ Below w.heap.size w w' := by
 have hu27 := Try.underlying27
 have HR0 := Aside0.mk hr0
 have HC0 := Aside0.mk hc0
 clear hr0 hc0
 have HR1 := Aside0.mk hr1
 have HC1 := Aside0.mk hc1
 clear hr1 hc1
 have HB := Aside0.mk (Below.refl w.heap.size w)
 have H : (if (l0.length : Int) > 1048576 then (laws_FnOccOrder.j0 k l0 l1 true) else (laws_FnOccOrder.j0 k l0 l1 (decide ((l1.length : Int) > 1048576)))) = some r := h
 clear h
 have HC3 := Aside0.mk H
 clear H
 go_enter Try.func10, Try.ntmps10
 go_upto_region 1 with (fail)
 go_cut [20] (fun v20 wc => ∃ (kq : Nat) (x20_2 : Bool), v20 = .bool x20_2 ∧ Aside0 (laws_FnOccOrder.j0 kq l0 l1 x20_2 = some r) ∧ Aside0 (kq ≤ k) ∧ Aside0 (Below w.heap.size w wc))
 case first =>
  have H := HC3.out
  clear HC3
  by_cases c4 : (l0.length : Int) > 1048576
  ·rw [if_pos c4] at H
   have c4b0 : decide (1048576 < (l0.length : Int)) = true := decide_eq_true c4
   have c4b1 : decide (1048576 < l0.length) = true := decide_eq_true (by omega)
   clear c4
   (first | rw [c4b0] | (simp only [i64_w, i32_w];rw [c4b0]) | skip)
   have H' := Aside0.mk H
   clear H
   go_wp2
   go_meet
   case rel => exact ⟨_, (true), (by first | rfl | (simp;done) | (simp [*];done)), H', ⟨by first | omega | exact Nat.le_refl _⟩, ⟨by repeat (first | (with_reducible first | exact HB.out | apply below_alloc | apply pw_below_drewN | apply below_drew1) | exact HB.out)⟩⟩
  ·rw [if_neg c4] at H
   have c4b0 : decide (1048576 < (l0.length : Int)) = false := decide_eq_false c4
   have c4b1 : decide (1048576 < l0.length) = false := decide_eq_false (by omega)
   clear c4
   (first | rw [c4b0] | (simp only [i64_w, i32_w];rw [c4b0]) | skip)
   have H' := Aside0.mk H
   clear H
   go_wp2
   go_meet
   case rel => exact ⟨_, (decide ((l1.length : Int) > 1048576)), (by first | rfl | (simp;done) | (simp [*];done)), H', ⟨by first | omega | exact Nat.le_refl _⟩, ⟨by repeat (first | (with_reducible first | exact HB.out | apply below_alloc | apply pw_below_drewN | apply below_drew1) | exact HB.out)⟩⟩
 case rest =>
  clear HC3
  try clear c1
  try clear p2
  try clear c4
  try clear c4b0
  try clear c4b1
  obtain ⟨kq, x20_2, rfl, HA, HJ2, HB⟩ := hcut
  cases kq with
  | zero => exact absurd HA.out (by simp [laws_FnOccOrder.j0])
  | succ kj2 =>
   have H := HA.out
   clear HA
   simp only [laws_FnOccOrder.j0] at H
   by_cases c5 : x20_2 = true
   ·subst c5
    have H1 : (some true) = some r := by rw [if_pos rfl] at H;exact H
    clear H
    have H := H1
    clear H1
    obtain rfl := Option.some.inj H
    go_wp2
    go_ret
    exact ⟨by first | rfl | (simp [errW_none, errW_some] <;> rfl) | (simp [*, errW_none, errW_some] <;> rfl), by repeat (first | (with_reducible first | exact HB.out | apply below_alloc | apply pw_below_drewN | apply below_drew1) | exact HB.out)⟩
   ·replace c5 := Bool.eq_false_iff.mpr c5
    subst c5
    have H1 : ((spec_DrawOccLess.f kj2 l0).bind fun bt101 => ((spec_DrawOccLess.f kj2 l1).bind fun bt113 => ((impl_OccLess.f kj2 bt101.1 bt101.2.1 bt101.2.2.1 bt101.2.2.2.1 bt101.2.2.2.2.1 bt101.2.2.2.2.2).bind fun t125 => ((spec_OccLess.f kj2 bt101.1 bt101.2.1 bt101.2.2.1 bt101.2.2.2.1 bt101.2.2.2.2.1 bt101.2.2.2.2.2).bind fun t126 => (if (t125 != t126) = true then (some false) else (laws_FnOccOrder.l0 kj2 l0 0 bt101.1 bt101.2.1 bt101.2.2.1 bt101.2.2.2.1 bt101.2.2.2.2.1 bt101.2.2.2.2.2 bt113.1 bt113.2.1 bt113.2.2.1 bt113.2.2.2.1 bt113.2.2.2.2.1 bt113.2.2.2.2.2)))))) = some r := by rw [if_neg (show ¬ (false = true) by decide)] at H;exact H
    clear H
    have H := H1
    clear H1
    replace H := Option.bind_eq_some_iff.mp H
    obtain ⟨⟨t101, t102, t103, t106, t107, t108⟩, A60, H⟩ := H
    replace H : ((spec_DrawOccLess.f kj2 l1).bind fun bt113 => ((impl_OccLess.f kj2 t101 t102 t103 t106 t107 t108).bind fun t125 => ((spec_OccLess.f kj2 t101 t102 t103 t106 t107 t108).bind fun t126 => (if (t125 != t126) = true then (some false) else (laws_FnOccOrder.l0 kj2 l0 0 t101 t102 t103 t106 t107 t108 bt113.1 bt113.2.1 bt113.2.2.1 bt113.2.2.2.1 bt113.2.2.2.2.1 bt113.2.2.2.2.2))))) = some r := H
    have A6 := Aside0.mk A60
    clear A60
    replace H := Option.bind_eq_some_iff.mp H
    obtain ⟨⟨t113, t114, t115, t118, t119, t120⟩, A70, H⟩ := H
    replace H : ((impl_OccLess.f kj2 t101 t102 t103 t106 t107 t108).bind fun t125 => ((spec_OccLess.f kj2 t101 t102 t103 t106 t107 t108).bind fun t126 => (if (t125 != t126) = true then (some false) else (laws_FnOccOrder.l0 kj2 l0 0 t101 t102 t103 t106 t107 t108 t113 t114 t115 t118 t119 t120)))) = some r := H
    have A7 := Aside0.mk A70
    clear A70
    replace H := Option.bind_eq_some_iff.mp H
    obtain ⟨t125, A80, H⟩ := H
    replace H : ((spec_OccLess.f kj2 t101 t102 t103 t106 t107 t108).bind fun t126 => (if (t125 != t126) = true then (some false) else (laws_FnOccOrder.l0 kj2 l0 0 t101 t102 t103 t106 t107 t108 t113 t114 t115 t118 t119 t120))) = some r := H
    have A8 := Aside0.mk A80
    clear A80
    replace H := Option.bind_eq_some_iff.mp H
    obtain ⟨t126, A90, H⟩ := H
    replace H : (if (t125 != t126) = true then (some false) else (laws_FnOccOrder.l0 kj2 l0 0 t101 t102 t103 t106 t107 t108 t113 t114 t115 t118 t119 t120)) = some r := H
    have A9 := Aside0.mk A90
    clear A90
    by_cases c10 : (t125 != t126) = true
    ·rw [if_pos c10] at H
     have c10b0 : (t125 != t126) = true := c10
     (try (have c10b1 : decide (t125 = t126) = false := by simpa using c10))
     (try (have c10b2 : (t125 == t126) = false := by simpa using c10))
     (try (have c10b3 : ¬ (t125 = t126) := by simpa using c10))
     clear c10
     exact absurd (Option.some.inj H) (by rw [hT_.out];decide)
    ·rw [if_neg c10] at H
     have c10b0 : (t125 != t126) = false := by simpa using c10
     (try (have c10b1 : decide (t125 = t126) = true := by simpa using c10))
     (try (have c10b2 : (t125 == t126) = true := by simpa using c10))
     clear c10
     have H' := Aside0.mk H
     clear H
     try go_wp2_with (first | ((with_reducible refine gate_callee (f := 44) rfl ?_);refine goesL_ (some 23) rfl rfl Try.func44 (by kernel_rfl) rfl #[.slice A0 l0.length c0] rfl (by (try simp only [List.map_toArray, List.map_cons, List.map_nil]);first | done | rfl | (simp only [List.length_drop, List.length_take];rfl)) ?_;(with_reducible refine (spec_DrawOccLess.calls kj2 _ _ l0 t101 t102 t103 t106 t107 t108 _ ?side1 ?side2 A6.out).mono ?_);(case side1 => repeat (first | exact (Kd.C_below HR0.out HB.out) | (with_reducible refine Kd.C_alloc ?_ _) | (with_reducible refine Kd.C_drewN ?_ _) | (with_reducible refine Kd.C_drew ?_)));(case side2 => exact HC0.out);rintro e w11 ⟨v104, v109, rfl, ho0, ho1, hb⟩;refine ⟨_, rfl, ?_⟩;have HO105 := Aside0.mk (Kd.V_lower (Kd.V_mono (ok' := fun k_ => True) ho0 (fun k_ hk_ => trivial)) (below_size (by repeat (first | (with_reducible first | exact HB.out | apply below_alloc | apply pw_below_drewN | apply below_drew1) | exact HB.out))));have HO110 := Aside0.mk (Kd.V_lower (Kd.V_mono (ok' := fun k_ => True) ho1 (fun k_ hk_ => trivial)) (below_size (by repeat (first | (with_reducible first | exact HB.out | apply below_alloc | apply pw_below_drewN | apply below_drew1) | exact HB.out))));replace HB := Aside0.mk (below_step (by repeat (first | (with_reducible first | exact HB.out | apply below_alloc | apply pw_below_drewN | apply below_drew1) | exact HB.out)) hb);(try clear hb);(try clear hb2);(try clear hk);(try clear hi);(try clear ho0);(try clear ho1)) | ((with_reducible refine gate_dst (N := 5) rfl ?_);(try (refine gate_guard (by rfl) ?_;dsimp only));refine box_event ?hg (N := 5) ?hd (cs := #[.int .i64 0, .int .i64 0, .slice none 0 0]) (t := 27) ?hr ?_;(case hd => rfl);(case hg => rfl);(case hr => first | (go_simp;done) | (go_simp;rfl));intro gb111 hg w12 hbox hb;replace HO105 := Aside0.mk (Kd.V_below (Kd.V_elderB (by exact HO105.out) gb111 (Nat.le_of_eq hg.symm)) hb);replace HO110 := Aside0.mk (Kd.V_below (Kd.V_elderB (by exact HO110.out) gb111 (Nat.le_of_eq hg.symm)) hb);have BK111 := Aside0.mk (hbox);have GW111 := Aside0.mk ((by rw [hg];exact (below_size (by repeat (first | (with_reducible first | exact HB.out | apply below_alloc | apply pw_below_drewN | apply below_drew1) | exact HB.out))) : w.heap.size ≤ gb111));have GE111 := Aside0.mk ((by rw [hg];exact (below_size (by repeat (first | (with_reducible first | exact HB.out | apply below_alloc | apply pw_below_drewN | apply below_drew1) | exact HB.out))) : w.heap.size ≤ gb111));replace HB := Aside0.mk (below_step (by repeat (first | (with_reducible first | exact HB.out | apply below_alloc | apply pw_below_drewN | apply below_drew1) | exact HB.out)) hb);clear hb hbox hg) | ((with_reducible refine gate_dst (N := 6) rfl ?_);(try (refine gate_guard (by rfl) ?_;dsimp only));refine box_event ?hg (N := 6) ?hd (cs := #[.int .i64 0, .int .i64 0, .slice none 0 0]) (t := 27) ?hr ?_;(case hd => rfl);(case hg => rfl);(case hr => first | (go_simp;done) | (go_simp;rfl));intro gb112 hg w13 hbox hb;replace HO105 := Aside0.mk (Kd.V_below (Kd.V_elderB (by exact HO105.out) gb112 (Nat.le_of_eq hg.symm)) hb);replace HO110 := Aside0.mk (Kd.V_below (Kd.V_elderB (by exact HO110.out) gb112 (Nat.le_of_eq hg.symm)) hb);have BK112 := Aside0.mk (hbox);have GW112 := Aside0.mk ((by rw [hg];exact (below_size (by repeat (first | (with_reducible first | exact HB.out | apply below_alloc | apply pw_below_drewN | apply below_drew1 | refine below_set ?_ GE111.out) | exact HB.out))) : w.heap.size ≤ gb112));have GE112 := Aside0.mk ((by rw [hg];exact (below_size (by repeat (first | (with_reducible first | exact HB.out | apply below_alloc | apply pw_below_drewN | apply below_drew1 | refine below_set ?_ GE111.out) | exact HB.out))) : w.heap.size ≤ gb112));replace HB := Aside0.mk (below_step (by repeat (first | (with_reducible first | exact HB.out | apply below_alloc | apply pw_below_drewN | apply below_drew1 | refine below_set ?_ GE111.out) | exact HB.out)) hb);have NB111_112 := Aside0.mk ((by rw [hg];exact Nat.ne_of_lt (blk_lt BK111.out) : gb111 ≠ gb112));have NB112_111 := Aside0.mk ((by rw [hg];exact Nat.ne_of_gt (blk_lt BK111.out) : gb112 ≠ gb111));replace BK111 := Aside0.mk (blk_below BK111.out hb);clear hb hbox hg;have hnb14 := NB111_112.out;have hnc14 := NB112_111.out;obtain ⟨hcz15_0, hcz15_1, hcz15_2, hfz15_0, hfz15_1, hfz15_2⟩ := bx3 BK111.out;obtain ⟨Ao16, co16, eo16⟩ := Kd.V_slice HO105.out;subst eo16;obtain ⟨hcz17_0, hcz17_1, hcz17_2, hfz17_0, hfz17_1, hfz17_2⟩ := bx3 BK112.out;obtain ⟨Ao18, co18, eo18⟩ := Kd.V_slice HO110.out;subst eo18) | ((with_reducible refine gate_callee (f := 44) rfl ?_);refine goesL_ (some 28) rfl rfl Try.func44 (by kernel_rfl) rfl #[.slice A1 l1.length c1] rfl (by (try simp only [List.map_toArray, List.map_cons, List.map_nil]);first | done | rfl | (simp only [List.length_drop, List.length_take];rfl)) ?_;(with_reducible refine (spec_DrawOccLess.calls kj2 _ _ l1 t113 t114 t115 t118 t119 t120 _ ?side1 ?side2 A7.out).mono ?_);(case side1 => exact Kd.C_below HR1.out (by repeat (first | (with_reducible first | exact HB.out | apply below_alloc | apply pw_below_drewN | apply below_drew1 | refine below_set ?_ GE111.out | refine below_set ?_ GE112.out) | exact HB.out)));(case side2 => exact HC1.out);rintro e w19 ⟨v116, v121, rfl, ho0, ho1, hb⟩;refine ⟨_, rfl, ?_⟩;replace HO105 := Aside0.mk (Kd.V_below (by (with_reducible repeat (first | apply Kd.V_alloc | apply Kd.V_drewN | apply Kd.V_drew));exact (Kd.V_mono (Kd.V_mono (Kd.V_far (p := ⟨gb112, 2, none⟩) (Kd.V_far (p := ⟨gb112, 1, none⟩) (Kd.V_far (p := ⟨gb112, 0, none⟩) (Kd.V_far (p := ⟨gb111, 2, none⟩) (Kd.V_far (p := ⟨gb111, 1, none⟩) (Kd.V_far (p := ⟨gb111, 0, none⟩) (Kd.V_mono (Kd.V_mono HO105.out (fun k_ hk => (⟨hk, hk.1.2⟩ : _ ∧ k_ ≠ gb111))) (fun k_ hk => (⟨hk, hk.1.2⟩ : _ ∧ k_ ≠ gb112))) (fun _ hk => hk.1.2) (.int .i64 t101)) (fun _ hk => hk.1.2) (.int .i64 t102)) (fun _ hk => hk.1.2) (.slice Ao16 t103.length co16)) (fun _ hk => hk.2) (.int .i64 t106)) (fun _ hk => hk.2) (.int .i64 t107)) (fun _ hk => hk.2) (.slice Ao18 t108.length co18)) (fun _ h_ => h_.1)) (fun _ h_ => h_.1))) hb);replace HO110 := Aside0.mk (Kd.V_below (by (with_reducible repeat (first | apply Kd.V_alloc | apply Kd.V_drewN | apply Kd.V_drew));exact (Kd.V_mono (Kd.V_mono (Kd.V_far (p := ⟨gb112, 2, none⟩) (Kd.V_far (p := ⟨gb112, 1, none⟩) (Kd.V_far (p := ⟨gb112, 0, none⟩) (Kd.V_far (p := ⟨gb111, 2, none⟩) (Kd.V_far (p := ⟨gb111, 1, none⟩) (Kd.V_far (p := ⟨gb111, 0, none⟩) (Kd.V_mono (Kd.V_mono HO110.out (fun k_ hk => (⟨hk, hk.1.2⟩ : _ ∧ k_ ≠ gb111))) (fun k_ hk => (⟨hk, hk.1.2⟩ : _ ∧ k_ ≠ gb112))) (fun _ hk => hk.1.2) (.int .i64 t101)) (fun _ hk => hk.1.2) (.int .i64 t102)) (fun _ hk => hk.1.2) (.slice Ao16 t103.length co16)) (fun _ hk => hk.2) (.int .i64 t106)) (fun _ hk => hk.2) (.int .i64 t107)) (fun _ hk => hk.2) (.slice Ao18 t108.length co18)) (fun _ h_ => h_.1)) (fun _ h_ => h_.1))) hb);have HO117 := Aside0.mk (Kd.V_lower (Kd.V_mono (ok' := fun k_ => k_ ≠ gb111 ∧ k_ ≠ gb112) ho0 (fun k_ hk_ => ⟨(Kd.freshB (g := gb111) (o := .cells #[.int .i64 t101, .int .i64 t102, .slice Ao16 t103.length co16] 27 (0, 0)) (by (with_reducible repeat (first | refine blk_drewN ?_ _ | refine blk_drew ?_ | refine blk_alloc ?_ _));refine blk_far ?_ NB111_112.out _;(with_reducible repeat (first | refine blk_drewN ?_ _ | refine blk_drew ?_ | refine blk_alloc ?_ _));refine blk_far ?_ NB111_112.out _;(with_reducible repeat (first | refine blk_drewN ?_ _ | refine blk_drew ?_ | refine blk_alloc ?_ _));refine blk_far ?_ NB111_112.out _;(with_reducible repeat (first | refine blk_drewN ?_ _ | refine blk_drew ?_ | refine blk_alloc ?_ _));refine blk_put (cs := #[.int .i64 t101, .int .i64 t102, .slice none 0 0]) ?_ 2 _ rfl;(with_reducible repeat (first | refine blk_drewN ?_ _ | refine blk_drew ?_ | refine blk_alloc ?_ _));refine blk_put (cs := #[.int .i64 t101, .int .i64 0, .slice none 0 0]) ?_ 1 _ rfl;(with_reducible repeat (first | refine blk_drewN ?_ _ | refine blk_drew ?_ | refine blk_alloc ?_ _));refine blk_put (cs := #[.int .i64 0, .int .i64 0, .slice none 0 0]) ?_ 0 _ rfl;(with_reducible repeat (first | refine blk_drewN ?_ _ | refine blk_drew ?_ | refine blk_alloc ?_ _));exact BK111.out) k_ hk_), (Kd.freshB (g := gb112) (o := .cells #[.int .i64 t106, .int .i64 t107, .slice Ao18 t108.length co18] 27 (0, 0)) (by (with_reducible repeat (first | refine blk_drewN ?_ _ | refine blk_drew ?_ | refine blk_alloc ?_ _));refine blk_put (cs := #[.int .i64 t106, .int .i64 t107, .slice none 0 0]) ?_ 2 _ rfl;(with_reducible repeat (first | refine blk_drewN ?_ _ | refine blk_drew ?_ | refine blk_alloc ?_ _));refine blk_put (cs := #[.int .i64 t106, .int .i64 0, .slice none 0 0]) ?_ 1 _ rfl;(with_reducible repeat (first | refine blk_drewN ?_ _ | refine blk_drew ?_ | refine blk_alloc ?_ _));refine blk_put (cs := #[.int .i64 0, .int .i64 0, .slice none 0 0]) ?_ 0 _ rfl;(with_reducible repeat (first | refine blk_drewN ?_ _ | refine blk_drew ?_ | refine blk_alloc ?_ _));refine blk_far ?_ NB112_111.out _;(with_reducible repeat (first | refine blk_drewN ?_ _ | refine blk_drew ?_ | refine blk_alloc ?_ _));refine blk_far ?_ NB112_111.out _;(with_reducible repeat (first | refine blk_drewN ?_ _ | refine blk_drew ?_ | refine blk_alloc ?_ _));refine blk_far ?_ NB112_111.out _;(with_reducible repeat (first | refine blk_drewN ?_ _ | refine blk_drew ?_ | refine blk_alloc ?_ _));exact BK112.out) k_ hk_)⟩)) (below_size (by repeat (first | (with_reducible first | exact HB.out | apply below_alloc | apply pw_below_drewN | apply below_drew1 | refine below_set ?_ GE111.out | refine below_set ?_ GE112.out) | exact HB.out))));have HO122 := Aside0.mk (Kd.V_lower (Kd.V_mono (ok' := fun k_ => k_ ≠ gb111 ∧ k_ ≠ gb112) ho1 (fun k_ hk_ => ⟨(Kd.freshB (g := gb111) (o := .cells #[.int .i64 t101, .int .i64 t102, .slice Ao16 t103.length co16] 27 (0, 0)) (by (with_reducible repeat (first | refine blk_drewN ?_ _ | refine blk_drew ?_ | refine blk_alloc ?_ _));refine blk_far ?_ NB111_112.out _;(with_reducible repeat (first | refine blk_drewN ?_ _ | refine blk_drew ?_ | refine blk_alloc ?_ _));refine blk_far ?_ NB111_112.out _;(with_reducible repeat (first | refine blk_drewN ?_ _ | refine blk_drew ?_ | refine blk_alloc ?_ _));refine blk_far ?_ NB111_112.out _;(with_reducible repeat (first | refine blk_drewN ?_ _ | refine blk_drew ?_ | refine blk_alloc ?_ _));refine blk_put (cs := #[.int .i64 t101, .int .i64 t102, .slice none 0 0]) ?_ 2 _ rfl;(with_reducible repeat (first | refine blk_drewN ?_ _ | refine blk_drew ?_ | refine blk_alloc ?_ _));refine blk_put (cs := #[.int .i64 t101, .int .i64 0, .slice none 0 0]) ?_ 1 _ rfl;(with_reducible repeat (first | refine blk_drewN ?_ _ | refine blk_drew ?_ | refine blk_alloc ?_ _));refine blk_put (cs := #[.int .i64 0, .int .i64 0, .slice none 0 0]) ?_ 0 _ rfl;(with_reducible repeat (first | refine blk_drewN ?_ _ | refine blk_drew ?_ | refine blk_alloc ?_ _));exact BK111.out) k_ hk_), (Kd.freshB (g := gb112) (o := .cells #[.int .i64 t106, .int .i64 t107, .slice Ao18 t108.length co18] 27 (0, 0)) (by (with_reducible repeat (first | refine blk_drewN ?_ _ | refine blk_drew ?_ | refine blk_alloc ?_ _));refine blk_put (cs := #[.int .i64 t106, .int .i64 t107, .slice none 0 0]) ?_ 2 _ rfl;(with_reducible repeat (first | refine blk_drewN ?_ _ | refine blk_drew ?_ | refine blk_alloc ?_ _));refine blk_put (cs := #[.int .i64 t106, .int .i64 0, .slice none 0 0]) ?_ 1 _ rfl;(with_reducible repeat (first | refine blk_drewN ?_ _ | refine blk_drew ?_ | refine blk_alloc ?_ _));refine blk_put (cs := #[.int .i64 0, .int .i64 0, .slice none 0 0]) ?_ 0 _ rfl;(with_reducible repeat (first | refine blk_drewN ?_ _ | refine blk_drew ?_ | refine blk_alloc ?_ _));refine blk_far ?_ NB112_111.out _;(with_reducible repeat (first | refine blk_drewN ?_ _ | refine blk_drew ?_ | refine blk_alloc ?_ _));refine blk_far ?_ NB112_111.out _;(with_reducible repeat (first | refine blk_drewN ?_ _ | refine blk_drew ?_ | refine blk_alloc ?_ _));refine blk_far ?_ NB112_111.out _;(with_reducible repeat (first | refine blk_drewN ?_ _ | refine blk_drew ?_ | refine blk_alloc ?_ _));exact BK112.out) k_ hk_)⟩)) (below_size (by repeat (first | (with_reducible first | exact HB.out | apply below_alloc | apply pw_below_drewN | apply below_drew1 | refine below_set ?_ GE111.out | refine below_set ?_ GE112.out) | exact HB.out))));replace BK111 := Aside0.mk (blk_below (g := gb111) (o := .cells #[.int .i64 t101, .int .i64 t102, .slice Ao16 t103.length co16] 27 (0, 0)) (by (with_reducible repeat (first | refine blk_drewN ?_ _ | refine blk_drew ?_ | refine blk_alloc ?_ _));refine blk_far ?_ NB111_112.out _;(with_reducible repeat (first | refine blk_drewN ?_ _ | refine blk_drew ?_ | refine blk_alloc ?_ _));refine blk_far ?_ NB111_112.out _;(with_reducible repeat (first | refine blk_drewN ?_ _ | refine blk_drew ?_ | refine blk_alloc ?_ _));refine blk_far ?_ NB111_112.out _;(with_reducible repeat (first | refine blk_drewN ?_ _ | refine blk_drew ?_ | refine blk_alloc ?_ _));refine blk_put (cs := #[.int .i64 t101, .int .i64 t102, .slice none 0 0]) ?_ 2 _ rfl;(with_reducible repeat (first | refine blk_drewN ?_ _ | refine blk_drew ?_ | refine blk_alloc ?_ _));refine blk_put (cs := #[.int .i64 t101, .int .i64 0, .slice none 0 0]) ?_ 1 _ rfl;(with_reducible repeat (first | refine blk_drewN ?_ _ | refine blk_drew ?_ | refine blk_alloc ?_ _));refine blk_put (cs := #[.int .i64 0, .int .i64 0, .slice none 0 0]) ?_ 0 _ rfl;(with_reducible repeat (first | refine blk_drewN ?_ _ | refine blk_drew ?_ | refine blk_alloc ?_ _));exact BK111.out) hb);replace BK112 := Aside0.mk (blk_below (g := gb112) (o := .cells #[.int .i64 t106, .int .i64 t107, .slice Ao18 t108.length co18] 27 (0, 0)) (by (with_reducible repeat (first | refine blk_drewN ?_ _ | refine blk_drew ?_ | refine blk_alloc ?_ _));refine blk_put (cs := #[.int .i64 t106, .int .i64 t107, .slice none 0 0]) ?_ 2 _ rfl;(with_reducible repeat (first | refine blk_drewN ?_ _ | refine blk_drew ?_ | refine blk_alloc ?_ _));refine blk_put (cs := #[.int .i64 t106, .int .i64 0, .slice none 0 0]) ?_ 1 _ rfl;(with_reducible repeat (first | refine blk_drewN ?_ _ | refine blk_drew ?_ | refine blk_alloc ?_ _));refine blk_put (cs := #[.int .i64 0, .int .i64 0, .slice none 0 0]) ?_ 0 _ rfl;(with_reducible repeat (first | refine blk_drewN ?_ _ | refine blk_drew ?_ | refine blk_alloc ?_ _));refine blk_far ?_ NB112_111.out _;(with_reducible repeat (first | refine blk_drewN ?_ _ | refine blk_drew ?_ | refine blk_alloc ?_ _));refine blk_far ?_ NB112_111.out _;(with_reducible repeat (first | refine blk_drewN ?_ _ | refine blk_drew ?_ | refine blk_alloc ?_ _));refine blk_far ?_ NB112_111.out _;(with_reducible repeat (first | refine blk_drewN ?_ _ | refine blk_drew ?_ | refine blk_alloc ?_ _));exact BK112.out) hb);replace HB := Aside0.mk (below_step (by repeat (first | (with_reducible first | exact HB.out | apply below_alloc | apply pw_below_drewN | apply below_drew1 | refine below_set ?_ GE111.out | refine below_set ?_ GE112.out) | exact HB.out)) hb);(try clear hb);(try clear hb2);(try clear hk);(try clear hi);(try clear ho0);(try clear ho1)) | ((with_reducible refine gate_dst (N := 7) rfl ?_);(try (refine gate_guard (by rfl) ?_;dsimp only));refine box_event ?hg (N := 7) ?hd (cs := #[.int .i64 0, .int .i64 0, .slice none 0 0]) (t := 27) ?hr ?_;(case hd => rfl);(case hg => rfl);(case hr => first | (go_simp;done) | (go_simp;rfl));intro gb123 hg w20 hbox hb;replace HO105 := Aside0.mk (Kd.V_below (Kd.V_elderB (by exact HO105.out) gb123 (Nat.le_of_eq hg.symm)) hb);replace HO110 := Aside0.mk (Kd.V_below (Kd.V_elderB (by exact HO110.out) gb123 (Nat.le_of_eq hg.symm)) hb);replace HO117 := Aside0.mk (Kd.V_below (Kd.V_elderB (by exact HO117.out) gb123 (Nat.le_of_eq hg.symm)) hb);replace HO122 := Aside0.mk (Kd.V_below (Kd.V_elderB (by exact HO122.out) gb123 (Nat.le_of_eq hg.symm)) hb);have BK123 := Aside0.mk (hbox);have GW123 := Aside0.mk ((by rw [hg];exact (below_size (by repeat (first | (with_reducible first | exact HB.out | apply below_alloc | apply pw_below_drewN | apply below_drew1 | refine below_set ?_ GE111.out | refine below_set ?_ GE112.out) | exact HB.out))) : w.heap.size ≤ gb123));have GE123 := Aside0.mk ((by rw [hg];exact (below_size (by repeat (first | (with_reducible first | exact HB.out | apply below_alloc | apply pw_below_drewN | apply below_drew1 | refine below_set ?_ GE111.out | refine below_set ?_ GE112.out) | exact HB.out))) : w.heap.size ≤ gb123));replace HB := Aside0.mk (below_step (by repeat (first | (with_reducible first | exact HB.out | apply below_alloc | apply pw_below_drewN | apply below_drew1 | refine below_set ?_ GE111.out | refine below_set ?_ GE112.out) | exact HB.out)) hb);have NB111_123 := Aside0.mk ((by rw [hg];exact Nat.ne_of_lt (blk_lt BK111.out) : gb111 ≠ gb123));have NB123_111 := Aside0.mk ((by rw [hg];exact Nat.ne_of_gt (blk_lt BK111.out) : gb123 ≠ gb111));replace BK111 := Aside0.mk (blk_below BK111.out hb);have NB112_123 := Aside0.mk ((by rw [hg];exact Nat.ne_of_lt (blk_lt BK112.out) : gb112 ≠ gb123));have NB123_112 := Aside0.mk ((by rw [hg];exact Nat.ne_of_gt (blk_lt BK112.out) : gb123 ≠ gb112));replace BK112 := Aside0.mk (blk_below BK112.out hb);clear hb hbox hg) | ((with_reducible refine gate_dst (N := 8) rfl ?_);(try (refine gate_guard (by rfl) ?_;dsimp only));refine box_event ?hg (N := 8) ?hd (cs := #[.int .i64 0, .int .i64 0, .slice none 0 0]) (t := 27) ?hr ?_;(case hd => rfl);(case hg => rfl);(case hr => first | (go_simp;done) | (go_simp;rfl));intro gb124 hg w21 hbox hb;replace HO105 := Aside0.mk (Kd.V_below (Kd.V_elderB (by exact HO105.out) gb124 (Nat.le_of_eq hg.symm)) hb);replace HO110 := Aside0.mk (Kd.V_below (Kd.V_elderB (by exact HO110.out) gb124 (Nat.le_of_eq hg.symm)) hb);replace HO117 := Aside0.mk (Kd.V_below (Kd.V_elderB (by exact HO117.out) gb124 (Nat.le_of_eq hg.symm)) hb);replace HO122 := Aside0.mk (Kd.V_below (Kd.V_elderB (by exact HO122.out) gb124 (Nat.le_of_eq hg.symm)) hb);have BK124 := Aside0.mk (hbox);have GW124 := Aside0.mk ((by rw [hg];exact (below_size (by repeat (first | (with_reducible first | exact HB.out | apply below_alloc | apply pw_below_drewN | apply below_drew1 | refine below_set ?_ GE111.out | refine below_set ?_ GE112.out | refine below_set ?_ GE123.out) | exact HB.out))) : w.heap.size ≤ gb124));have GE124 := Aside0.mk ((by rw [hg];exact (below_size (by repeat (first | (with_reducible first | exact HB.out | apply below_alloc | apply pw_below_drewN | apply below_drew1 | refine below_set ?_ GE111.out | refine below_set ?_ GE112.out | refine below_set ?_ GE123.out) | exact HB.out))) : w.heap.size ≤ gb124));replace HB := Aside0.mk (below_step (by repeat (first | (with_reducible first | exact HB.out | apply below_alloc | apply pw_below_drewN | apply below_drew1 | refine below_set ?_ GE111.out | refine below_set ?_ GE112.out | refine below_set ?_ GE123.out) | exact HB.out)) hb);have NB111_124 := Aside0.mk ((by rw [hg];exact Nat.ne_of_lt (blk_lt BK111.out) : gb111 ≠ gb124));have NB124_111 := Aside0.mk ((by rw [hg];exact Nat.ne_of_gt (blk_lt BK111.out) : gb124 ≠ gb111));replace BK111 := Aside0.mk (blk_below BK111.out hb);have NB112_124 := Aside0.mk ((by rw [hg];exact Nat.ne_of_lt (blk_lt BK112.out) : gb112 ≠ gb124));have NB124_112 := Aside0.mk ((by rw [hg];exact Nat.ne_of_gt (blk_lt BK112.out) : gb124 ≠ gb112));replace BK112 := Aside0.mk (blk_below BK112.out hb);have NB123_124 := Aside0.mk ((by rw [hg];exact Nat.ne_of_lt (blk_lt BK123.out) : gb123 ≠ gb124));have NB124_123 := Aside0.mk ((by rw [hg];exact Nat.ne_of_gt (blk_lt BK123.out) : gb124 ≠ gb123));replace BK123 := Aside0.mk (blk_below BK123.out hb);clear hb hbox hg;have hnb22 := NB123_111.out;have hnc22 := NB111_123.out;have hnb23 := NB123_112.out;have hnc23 := NB112_123.out;have hnb24 := NB123_124.out;have hnc24 := NB124_123.out;obtain ⟨hcz25_0, hcz25_1, hcz25_2, hfz25_0, hfz25_1, hfz25_2⟩ := bx3 BK123.out;obtain ⟨Ao26, co26, eo26⟩ := Kd.V_slice HO117.out;subst eo26;have hnb27 := NB124_111.out;have hnc27 := NB111_124.out;have hnb28 := NB124_112.out;have hnc28 := NB112_124.out;obtain ⟨hcz29_0, hcz29_1, hcz29_2, hfz29_0, hfz29_1, hfz29_2⟩ := bx3 BK124.out;obtain ⟨Ao30, co30, eo30⟩ := Kd.V_slice HO122.out;subst eo30))
     have n0_ : Aside0 (Kd.V (Kd.int .i64) 3 ((((((w21.setCell ⟨gb123, 0, none⟩ (.int .i64 t113)).setCell ⟨gb123, 1, none⟩ (.int .i64 t114)).setCell ⟨gb123, 2, none⟩ (.slice Ao26 t115.length co26)).setCell ⟨gb124, 0, none⟩ (.int .i64 t118)).setCell ⟨gb124, 1, none⟩ (.int .i64 t119)).setCell ⟨gb124, 2, none⟩ (.slice Ao30 t120.length co30)) w.heap.size (fun k_ => k_ ≠ gb111 ∧ k_ ≠ gb112 ∧ k_ ≠ gb123 ∧ k_ ≠ gb124) (.slice Ao16 t103.length co16) t103) := ⟨by (with_reducible repeat (first | apply Kd.V_alloc | apply Kd.V_drewN | apply Kd.V_drew));exact Kd.V_mono (Kd.V_far (p := ⟨gb124, 2, none⟩) (Kd.V_far (p := ⟨gb124, 1, none⟩) (Kd.V_far (p := ⟨gb124, 0, none⟩) (Kd.V_far (p := ⟨gb123, 2, none⟩) (Kd.V_far (p := ⟨gb123, 1, none⟩) (Kd.V_far (p := ⟨gb123, 0, none⟩) (Kd.V_mono (Kd.V_mono HO105.out (fun k_ hk => (⟨hk, hk.1.2⟩ : _ ∧ k_ ≠ gb123))) (fun k_ hk => (⟨hk, hk.1.2⟩ : _ ∧ k_ ≠ gb124))) (fun _ hk => hk.1.2) (.int .i64 t113)) (fun _ hk => hk.1.2) (.int .i64 t114)) (fun _ hk => hk.1.2) (.slice Ao26 t115.length co26)) (fun _ hk => hk.2) (.int .i64 t118)) (fun _ hk => hk.2) (.int .i64 t119)) (fun _ hk => hk.2) (.slice Ao30 t120.length co30)) (fun _ hk => ⟨hk.1.1.1.1.1.2, ⟨hk.1.1.1.1.2, ⟨hk.1.1.1.2, hk.1.1.2⟩⟩⟩)⟩
     have n1_ : Aside0 (Kd.V (Kd.int .i64) 3 ((((((w21.setCell ⟨gb123, 0, none⟩ (.int .i64 t113)).setCell ⟨gb123, 1, none⟩ (.int .i64 t114)).setCell ⟨gb123, 2, none⟩ (.slice Ao26 t115.length co26)).setCell ⟨gb124, 0, none⟩ (.int .i64 t118)).setCell ⟨gb124, 1, none⟩ (.int .i64 t119)).setCell ⟨gb124, 2, none⟩ (.slice Ao30 t120.length co30)) w.heap.size (fun k_ => k_ ≠ gb111 ∧ k_ ≠ gb112 ∧ k_ ≠ gb123 ∧ k_ ≠ gb124) (.slice Ao18 t108.length co18) t108) := ⟨by (with_reducible repeat (first | apply Kd.V_alloc | apply Kd.V_drewN | apply Kd.V_drew));exact Kd.V_mono (Kd.V_far (p := ⟨gb124, 2, none⟩) (Kd.V_far (p := ⟨gb124, 1, none⟩) (Kd.V_far (p := ⟨gb124, 0, none⟩) (Kd.V_far (p := ⟨gb123, 2, none⟩) (Kd.V_far (p := ⟨gb123, 1, none⟩) (Kd.V_far (p := ⟨gb123, 0, none⟩) (Kd.V_mono (Kd.V_mono HO110.out (fun k_ hk => (⟨hk, hk.1.2⟩ : _ ∧ k_ ≠ gb123))) (fun k_ hk => (⟨hk, hk.1.2⟩ : _ ∧ k_ ≠ gb124))) (fun _ hk => hk.1.2) (.int .i64 t113)) (fun _ hk => hk.1.2) (.int .i64 t114)) (fun _ hk => hk.1.2) (.slice Ao26 t115.length co26)) (fun _ hk => hk.2) (.int .i64 t118)) (fun _ hk => hk.2) (.int .i64 t119)) (fun _ hk => hk.2) (.slice Ao30 t120.length co30)) (fun _ hk => ⟨hk.1.1.1.1.1.2, ⟨hk.1.1.1.1.2, ⟨hk.1.1.1.2, hk.1.1.2⟩⟩⟩)⟩
     have n2_ : Aside0 (Kd.V (Kd.int .i64) 3 ((((((w21.setCell ⟨gb123, 0, none⟩ (.int .i64 t113)).setCell ⟨gb123, 1, none⟩ (.int .i64 t114)).setCell ⟨gb123, 2, none⟩ (.slice Ao26 t115.length co26)).setCell ⟨gb124, 0, none⟩ (.int .i64 t118)).setCell ⟨gb124, 1, none⟩ (.int .i64 t119)).setCell ⟨gb124, 2, none⟩ (.slice Ao30 t120.length co30)) w.heap.size (fun k_ => k_ ≠ gb111 ∧ k_ ≠ gb112 ∧ k_ ≠ gb123 ∧ k_ ≠ gb124) (.slice Ao26 t115.length co26) t115) := ⟨by (with_reducible repeat (first | apply Kd.V_alloc | apply Kd.V_drewN | apply Kd.V_drew));exact Kd.V_mono (Kd.V_far (p := ⟨gb124, 2, none⟩) (Kd.V_far (p := ⟨gb124, 1, none⟩) (Kd.V_far (p := ⟨gb124, 0, none⟩) (Kd.V_far (p := ⟨gb123, 2, none⟩) (Kd.V_far (p := ⟨gb123, 1, none⟩) (Kd.V_far (p := ⟨gb123, 0, none⟩) (Kd.V_mono (Kd.V_mono HO117.out (fun k_ hk => (⟨hk, hk.1.2⟩ : _ ∧ k_ ≠ gb123))) (fun k_ hk => (⟨hk, hk.1.2⟩ : _ ∧ k_ ≠ gb124))) (fun _ hk => hk.1.2) (.int .i64 t113)) (fun _ hk => hk.1.2) (.int .i64 t114)) (fun _ hk => hk.1.2) (.slice Ao26 t115.length co26)) (fun _ hk => hk.2) (.int .i64 t118)) (fun _ hk => hk.2) (.int .i64 t119)) (fun _ hk => hk.2) (.slice Ao30 t120.length co30)) (fun _ hk => ⟨hk.1.1.1.1.1, ⟨hk.1.1.1.1.2, ⟨hk.1.1.1.2, hk.1.1.2⟩⟩⟩)⟩
     have n3_ : Aside0 (Kd.V (Kd.int .i64) 3 ((((((w21.setCell ⟨gb123, 0, none⟩ (.int .i64 t113)).setCell ⟨gb123, 1, none⟩ (.int .i64 t114)).setCell ⟨gb123, 2, none⟩ (.slice Ao26 t115.length co26)).setCell ⟨gb124, 0, none⟩ (.int .i64 t118)).setCell ⟨gb124, 1, none⟩ (.int .i64 t119)).setCell ⟨gb124, 2, none⟩ (.slice Ao30 t120.length co30)) w.heap.size (fun k_ => k_ ≠ gb111 ∧ k_ ≠ gb112 ∧ k_ ≠ gb123 ∧ k_ ≠ gb124) (.slice Ao30 t120.length co30) t120) := ⟨by (with_reducible repeat (first | apply Kd.V_alloc | apply Kd.V_drewN | apply Kd.V_drew));exact Kd.V_mono (Kd.V_far (p := ⟨gb124, 2, none⟩) (Kd.V_far (p := ⟨gb124, 1, none⟩) (Kd.V_far (p := ⟨gb124, 0, none⟩) (Kd.V_far (p := ⟨gb123, 2, none⟩) (Kd.V_far (p := ⟨gb123, 1, none⟩) (Kd.V_far (p := ⟨gb123, 0, none⟩) (Kd.V_mono (Kd.V_mono HO122.out (fun k_ hk => (⟨hk, hk.1.2⟩ : _ ∧ k_ ≠ gb123))) (fun k_ hk => (⟨hk, hk.1.2⟩ : _ ∧ k_ ≠ gb124))) (fun _ hk => hk.1.2) (.int .i64 t113)) (fun _ hk => hk.1.2) (.int .i64 t114)) (fun _ hk => hk.1.2) (.slice Ao26 t115.length co26)) (fun _ hk => hk.2) (.int .i64 t118)) (fun _ hk => hk.2) (.int .i64 t119)) (fun _ hk => hk.2) (.slice Ao30 t120.length co30)) (fun _ hk => ⟨hk.1.1.1.1.1, ⟨hk.1.1.1.1.2, ⟨hk.1.1.1.2, hk.1.1.2⟩⟩⟩)⟩
     have n4_ : Aside0 (((((((w21.setCell ⟨gb123, 0, none⟩ (.int .i64 t113)).setCell ⟨gb123, 1, none⟩ (.int .i64 t114)).setCell ⟨gb123, 2, none⟩ (.slice Ao26 t115.length co26)).setCell ⟨gb124, 0, none⟩ (.int .i64 t118)).setCell ⟨gb124, 1, none⟩ (.int .i64 t119)).setCell ⟨gb124, 2, none⟩ (.slice Ao30 t120.length co30)).heap[gb111]? = some (.cells #[.int .i64 t101, .int .i64 t102, .slice Ao16 t103.length co16] 27 (0, 0))) := ⟨by (with_reducible repeat (first | refine blk_drewN ?_ _ | refine blk_drew ?_ | refine blk_alloc ?_ _));refine blk_far ?_ NB111_124.out _;(with_reducible repeat (first | refine blk_drewN ?_ _ | refine blk_drew ?_ | refine blk_alloc ?_ _));refine blk_far ?_ NB111_124.out _;(with_reducible repeat (first | refine blk_drewN ?_ _ | refine blk_drew ?_ | refine blk_alloc ?_ _));refine blk_far ?_ NB111_124.out _;(with_reducible repeat (first | refine blk_drewN ?_ _ | refine blk_drew ?_ | refine blk_alloc ?_ _));refine blk_far ?_ NB111_123.out _;(with_reducible repeat (first | refine blk_drewN ?_ _ | refine blk_drew ?_ | refine blk_alloc ?_ _));refine blk_far ?_ NB111_123.out _;(with_reducible repeat (first | refine blk_drewN ?_ _ | refine blk_drew ?_ | refine blk_alloc ?_ _));refine blk_far ?_ NB111_123.out _;(with_reducible repeat (first | refine blk_drewN ?_ _ | refine blk_drew ?_ | refine blk_alloc ?_ _));exact BK111.out⟩
     have n5_ : Aside0 (((((((w21.setCell ⟨gb123, 0, none⟩ (.int .i64 t113)).setCell ⟨gb123, 1, none⟩ (.int .i64 t114)).setCell ⟨gb123, 2, none⟩ (.slice Ao26 t115.length co26)).setCell ⟨gb124, 0, none⟩ (.int .i64 t118)).setCell ⟨gb124, 1, none⟩ (.int .i64 t119)).setCell ⟨gb124, 2, none⟩ (.slice Ao30 t120.length co30)).heap[gb112]? = some (.cells #[.int .i64 t106, .int .i64 t107, .slice Ao18 t108.length co18] 27 (0, 0))) := ⟨by (with_reducible repeat (first | refine blk_drewN ?_ _ | refine blk_drew ?_ | refine blk_alloc ?_ _));refine blk_far ?_ NB112_124.out _;(with_reducible repeat (first | refine blk_drewN ?_ _ | refine blk_drew ?_ | refine blk_alloc ?_ _));refine blk_far ?_ NB112_124.out _;(with_reducible repeat (first | refine blk_drewN ?_ _ | refine blk_drew ?_ | refine blk_alloc ?_ _));refine blk_far ?_ NB112_124.out _;(with_reducible repeat (first | refine blk_drewN ?_ _ | refine blk_drew ?_ | refine blk_alloc ?_ _));refine blk_far ?_ NB112_123.out _;(with_reducible repeat (first | refine blk_drewN ?_ _ | refine blk_drew ?_ | refine blk_alloc ?_ _));refine blk_far ?_ NB112_123.out _;(with_reducible repeat (first | refine blk_drewN ?_ _ | refine blk_drew ?_ | refine blk_alloc ?_ _));refine blk_far ?_ NB112_123.out _;(with_reducible repeat (first | refine blk_drewN ?_ _ | refine blk_drew ?_ | refine blk_alloc ?_ _));exact BK112.out⟩
     have n6_ : Aside0 (((((((w21.setCell ⟨gb123, 0, none⟩ (.int .i64 t113)).setCell ⟨gb123, 1, none⟩ (.int .i64 t114)).setCell ⟨gb123, 2, none⟩ (.slice Ao26 t115.length co26)).setCell ⟨gb124, 0, none⟩ (.int .i64 t118)).setCell ⟨gb124, 1, none⟩ (.int .i64 t119)).setCell ⟨gb124, 2, none⟩ (.slice Ao30 t120.length co30)).heap[gb123]? = some (.cells #[.int .i64 t113, .int .i64 t114, .slice Ao26 t115.length co26] 27 (0, 0))) := ⟨by (with_reducible repeat (first | refine blk_drewN ?_ _ | refine blk_drew ?_ | refine blk_alloc ?_ _));refine blk_far ?_ NB123_124.out _;(with_reducible repeat (first | refine blk_drewN ?_ _ | refine blk_drew ?_ | refine blk_alloc ?_ _));refine blk_far ?_ NB123_124.out _;(with_reducible repeat (first | refine blk_drewN ?_ _ | refine blk_drew ?_ | refine blk_alloc ?_ _));refine blk_far ?_ NB123_124.out _;(with_reducible repeat (first | refine blk_drewN ?_ _ | refine blk_drew ?_ | refine blk_alloc ?_ _));refine blk_put (cs := #[.int .i64 t113, .int .i64 t114, .slice none 0 0]) ?_ 2 _ rfl;(with_reducible repeat (first | refine blk_drewN ?_ _ | refine blk_drew ?_ | refine blk_alloc ?_ _));refine blk_put (cs := #[.int .i64 t113, .int .i64 0, .slice none 0 0]) ?_ 1 _ rfl;(with_reducible repeat (first | refine blk_drewN ?_ _ | refine blk_drew ?_ | refine blk_alloc ?_ _));refine blk_put (cs := #[.int .i64 0, .int .i64 0, .slice none 0 0]) ?_ 0 _ rfl;(with_reducible repeat (first | refine blk_drewN ?_ _ | refine blk_drew ?_ | refine blk_alloc ?_ _));exact BK123.out⟩
     have n7_ : Aside0 (((((((w21.setCell ⟨gb123, 0, none⟩ (.int .i64 t113)).setCell ⟨gb123, 1, none⟩ (.int .i64 t114)).setCell ⟨gb123, 2, none⟩ (.slice Ao26 t115.length co26)).setCell ⟨gb124, 0, none⟩ (.int .i64 t118)).setCell ⟨gb124, 1, none⟩ (.int .i64 t119)).setCell ⟨gb124, 2, none⟩ (.slice Ao30 t120.length co30)).heap[gb124]? = some (.cells #[.int .i64 t118, .int .i64 t119, .slice Ao30 t120.length co30] 27 (0, 0))) := ⟨by (with_reducible repeat (first | refine blk_drewN ?_ _ | refine blk_drew ?_ | refine blk_alloc ?_ _));refine blk_put (cs := #[.int .i64 t118, .int .i64 t119, .slice none 0 0]) ?_ 2 _ rfl;(with_reducible repeat (first | refine blk_drewN ?_ _ | refine blk_drew ?_ | refine blk_alloc ?_ _));refine blk_put (cs := #[.int .i64 t118, .int .i64 0, .slice none 0 0]) ?_ 1 _ rfl;(with_reducible repeat (first | refine blk_drewN ?_ _ | refine blk_drew ?_ | refine blk_alloc ?_ _));refine blk_put (cs := #[.int .i64 0, .int .i64 0, .slice none 0 0]) ?_ 0 _ rfl;(with_reducible repeat (first | refine blk_drewN ?_ _ | refine blk_drew ?_ | refine blk_alloc ?_ _));refine blk_far ?_ NB124_123.out _;(with_reducible repeat (first | refine blk_drewN ?_ _ | refine blk_drew ?_ | refine blk_alloc ?_ _));refine blk_far ?_ NB124_123.out _;(with_reducible repeat (first | refine blk_drewN ?_ _ | refine blk_drew ?_ | refine blk_alloc ?_ _));refine blk_far ?_ NB124_123.out _;(with_reducible repeat (first | refine blk_drewN ?_ _ | refine blk_drew ?_ | refine blk_alloc ?_ _));exact BK124.out⟩
     have n8_ : Aside0 (Below w.heap.size w ((((((w21.setCell ⟨gb123, 0, none⟩ (.int .i64 t113)).setCell ⟨gb123, 1, none⟩ (.int .i64 t114)).setCell ⟨gb123, 2, none⟩ (.slice Ao26 t115.length co26)).setCell ⟨gb124, 0, none⟩ (.int .i64 t118)).setCell ⟨gb124, 1, none⟩ (.int .i64 t119)).setCell ⟨gb124, 2, none⟩ (.slice Ao30 t120.length co30))) := ⟨by repeat (first | (with_reducible first | exact HB.out | apply below_alloc | apply pw_below_drewN | apply below_drew1 | refine below_set ?_ GE111.out | refine below_set ?_ GE112.out | refine below_set ?_ GE123.out | refine below_set ?_ GE124.out) | exact HB.out)⟩
     (try clear HO105)
     (try clear HO110)
     (try clear HO117)
     (try clear HO122)
     (try clear BK111)
     (try clear BK112)
     (try clear BK123)
     (try clear BK124)
     (try clear HB)
     generalize ((((((w21.setCell ⟨gb123, 0, none⟩ (.int .i64 t113)).setCell ⟨gb123, 1, none⟩ (.int .i64 t114)).setCell ⟨gb123, 2, none⟩ (.slice Ao26 t115.length co26)).setCell ⟨gb124, 0, none⟩ (.int .i64 t118)).setCell ⟨gb124, 1, none⟩ (.int .i64 t119)).setCell ⟨gb124, 2, none⟩ (.slice Ao30 t120.length co30)) = w31 at n0_ n1_ n2_ n3_ n4_ n5_ n6_ n7_ n8_ ⊢
     have HO105 := n0_
     have HO110 := n1_
     have HO117 := n2_
     have HO122 := n3_
     have BK111 := n4_
     have BK112 := n5_
     have BK123 := n6_
     have BK124 := n7_
     have HB := n8_
     clear n0_ n1_ n2_ n3_ n4_ n5_ n6_ n7_ n8_
     replace HO105 := Aside0.mk (Kd.V_drew HO105.out)
     replace HO110 := Aside0.mk (Kd.V_drew HO110.out)
     replace HO117 := Aside0.mk (Kd.V_drew HO117.out)
     replace HO122 := Aside0.mk (Kd.V_drew HO122.out)
     replace BK111 := Aside0.mk (blk_drew BK111.out)
     replace BK112 := Aside0.mk (blk_drew BK112.out)
     replace BK123 := Aside0.mk (blk_drew BK123.out)
     replace BK124 := Aside0.mk (blk_drew BK124.out)
     replace HB := Aside0.mk (below_drew1 HB.out)
     refine start_ (n := 7) (S := fun w' => w'.cell? ⟨gb111, 0, none⟩ = some (.int .i64 t101) ∧ w'.cell? ⟨gb111, 1, none⟩ = some (.int .i64 t102) ∧ w'.cell? ⟨gb111, 2, none⟩ = some (.slice Ao16 t103.length co16) ∧ w'.cell? ⟨gb112, 0, none⟩ = some (.int .i64 t106) ∧ w'.cell? ⟨gb112, 1, none⟩ = some (.int .i64 t107) ∧ w'.cell? ⟨gb112, 2, none⟩ = some (.slice Ao18 t108.length co18)) (ds := []) #[false, false, false, false, false, false, false] (by kernel_rfl) rfl rfl ⟨(blk_cell BK111.out 0).trans rfl, (blk_cell BK111.out 1).trans rfl, (blk_cell BK111.out 2).trans rfl, (blk_cell BK112.out 0).trans rfl, (blk_cell BK112.out 1).trans rfl, (blk_cell BK112.out 2).trans rfl⟩ (fun hHeld => ?_)
     generalize w31.drew = w32 at HO105 HO110 HO117 HO122 BK111 BK112 BK123 BK124 HB hHeld ⊢
     refine take_ (i := 0) (N := some 31) (v := ?_) (a' := ?_) #[true, false, false, false, false, false, false] rfl rfl (by kernel_rfl) (fun _ _ _ h => h) (Or.inl ⟨by rfl, ?_⟩) hHeld ?_ ?_
     rotate_left
     ·rintro w' ⟨s0, s1, s2, s3, s4, s5⟩
      go_simp
      with_reducible rfl
     rotate_left
     ·simp only [Act.put, List.setIfInBounds_toArray, List.set_cons_zero, List.set_cons_succ, i64_w, i32_w]
      rfl
     refine take_ (i := 1) (N := some 32) (v := ?_) (a' := ?_) #[true, true, false, false, false, false, false] rfl rfl (by kernel_rfl) (fun _ _ _ h => h) (Or.inl ⟨by rfl, ?_⟩) hHeld ?_ ?_
     rotate_left
     ·rintro w' ⟨s0, s1, s2, s3, s4, s5⟩
      go_simp
      with_reducible rfl
     rotate_left
     ·simp only [Act.put, List.setIfInBounds_toArray, List.set_cons_zero, List.set_cons_succ, i64_w, i32_w]
      rfl
     refine take_ (i := 3) (N := some 34) (v := ?_) (a' := ?_) #[true, true, false, true, false, false, false] rfl rfl (by kernel_rfl) (fun _ _ _ h => h) (Or.inl ⟨by rfl, ?_⟩) hHeld ?_ ?_
     rotate_left
     ·rintro w' ⟨s0, s1, s2, s3, s4, s5⟩
      go_simp
      with_reducible rfl
     rotate_left
     ·simp only [Act.put, List.setIfInBounds_toArray, List.set_cons_zero, List.set_cons_succ, i64_w, i32_w]
      rfl
     refine take_ (i := 4) (N := some 35) (v := ?_) (a' := ?_) #[true, true, false, true, true, false, false] rfl rfl (by kernel_rfl) (fun _ _ _ h => h) (Or.inl ⟨by rfl, ?_⟩) hHeld ?_ ?_
     rotate_left
     ·rintro w' ⟨s0, s1, s2, s3, s4, s5⟩
      go_simp
      with_reducible rfl
     rotate_left
     ·simp only [Act.put, List.setIfInBounds_toArray, List.set_cons_zero, List.set_cons_succ, i64_w, i32_w]
      rfl
     refine one_ (i := 2) (N := some 33) #[true, true, true, true, true, false, false] rfl rfl (by kernel_rfl) (by decide) (fun K hK => ?_)
     refine goes_ Try.func45 (by kernel_rfl) rfl #[.agg #[.int .i64 t101, .int .i64 t102, .slice Ao16 t103.length co16], .agg #[.int .i64 t106, .int .i64 t107, .slice Ao18 t108.length co18]] (by rfl) rfl rfl (by (try simp only [List.map_toArray, List.map_cons, List.map_nil]);first | done | rfl | (simp only [List.length_drop, List.length_take];rfl)) ?_
     with_reducible refine (impl_OccLess.calls kj2 t101 t102 _ _ t103 t106 t107 _ _ t108 t125 _ ?side1 ?side2 ?side3 ?side4 A8.out).mono ?_
     (case side1 => repeat (first | exact (Kd.V_reads' HO105.out).2.2 | (with_reducible refine Kd.C_alloc ?_ _) | (with_reducible refine Kd.C_drewN ?_ _) | (with_reducible refine Kd.C_drew ?_)))
     (case side2 => exact (Kd.V_reads' HO105.out).2.1)
     (case side3 => repeat (first | exact (Kd.V_reads' HO110.out).2.2 | (with_reducible refine Kd.C_alloc ?_ _) | (with_reducible refine Kd.C_drewN ?_ _) | (with_reducible refine Kd.C_drew ?_)))
     (case side4 => exact (Kd.V_reads' HO110.out).2.1)
     rintro e w33 ⟨rfl, hb⟩
     refine ⟨_, rfl, ?_⟩
     replace HO105 := Aside0.mk (Kd.V_below (by exact HO105.out) hb)
     replace HO110 := Aside0.mk (Kd.V_below (by exact HO110.out) hb)
     replace HO117 := Aside0.mk (Kd.V_below (by exact HO117.out) hb)
     replace HO122 := Aside0.mk (Kd.V_below (by exact HO122.out) hb)
     replace BK111 := Aside0.mk (blk_below BK111.out hb)
     replace BK112 := Aside0.mk (blk_below BK112.out hb)
     replace BK123 := Aside0.mk (blk_below BK123.out hb)
     replace BK124 := Aside0.mk (blk_below BK124.out hb)
     replace HB := Aside0.mk (below_step (by exact HB.out) hb)
     (try clear hb)
     (try clear hb2)
     (try clear hk)
     (try clear hi)
     refine hK.out _ _ ⟨(blk_cell BK111.out 0).trans rfl, (blk_cell BK111.out 1).trans rfl, (blk_cell BK111.out 2).trans rfl, (blk_cell BK112.out 0).trans rfl, (blk_cell BK112.out 1).trans rfl, (blk_cell BK112.out 2).trans rfl⟩ (fun hHeld => ?_)
     clear hK K
     refine norm_ (a' := ?_) ?_ ?_
     rotate_left
     ·show Act.put _ (some 33) _ = _
      simp only [Act.put, List.setIfInBounds_toArray, List.set_cons_zero, List.set_cons_succ, i64_w, i32_w]
      rfl
     refine one_ (i := 5) (N := some 36) #[true, true, true, true, true, true, false] rfl rfl (by kernel_rfl) (by decide) (fun K hK => ?_)
     refine goes_ Try.func46 (by kernel_rfl) rfl #[.agg #[.int .i64 t101, .int .i64 t102, .slice Ao16 t103.length co16], .agg #[.int .i64 t106, .int .i64 t107, .slice Ao18 t108.length co18]] (by rfl) rfl rfl (by (try simp only [List.map_toArray, List.map_cons, List.map_nil]);first | done | rfl | (simp only [List.length_drop, List.length_take];rfl)) ?_
     with_reducible refine (spec_OccLess.calls kj2 t101 t102 _ _ t103 t106 t107 _ _ t108 t126 _ ?side1 ?side2 ?side3 ?side4 A9.out).mono ?_
     (case side1 => repeat (first | exact (Kd.V_reads' HO105.out).2.2 | (with_reducible refine Kd.C_alloc ?_ _) | (with_reducible refine Kd.C_drewN ?_ _) | (with_reducible refine Kd.C_drew ?_)))
     (case side2 => exact (Kd.V_reads' HO105.out).2.1)
     (case side3 => repeat (first | exact (Kd.V_reads' HO110.out).2.2 | (with_reducible refine Kd.C_alloc ?_ _) | (with_reducible refine Kd.C_drewN ?_ _) | (with_reducible refine Kd.C_drew ?_)))
     (case side4 => exact (Kd.V_reads' HO110.out).2.1)
     rintro e w34 ⟨rfl, hb⟩
     refine ⟨_, rfl, ?_⟩
     replace HO105 := Aside0.mk (Kd.V_below (by exact HO105.out) hb)
     replace HO110 := Aside0.mk (Kd.V_below (by exact HO110.out) hb)
     replace HO117 := Aside0.mk (Kd.V_below (by exact HO117.out) hb)
     replace HO122 := Aside0.mk (Kd.V_below (by exact HO122.out) hb)
     replace BK111 := Aside0.mk (blk_below BK111.out hb)
     replace BK112 := Aside0.mk (blk_below BK112.out hb)
     replace BK123 := Aside0.mk (blk_below BK123.out hb)
     replace BK124 := Aside0.mk (blk_below BK124.out hb)
     replace HB := Aside0.mk (below_step (by exact HB.out) hb)
     (try clear hb)
     (try clear hb2)
     (try clear hk)
     (try clear hi)
     refine hK.out _ _ ⟨(blk_cell BK111.out 0).trans rfl, (blk_cell BK111.out 1).trans rfl, (blk_cell BK111.out 2).trans rfl, (blk_cell BK112.out 0).trans rfl, (blk_cell BK112.out 1).trans rfl, (blk_cell BK112.out 2).trans rfl⟩ (fun hHeld => ?_)
     clear hK K
     refine norm_ (a' := ?_) ?_ ?_
     rotate_left
     ·show Act.put _ (some 36) _ = _
      simp only [Act.put, List.setIfInBounds_toArray, List.set_cons_zero, List.set_cons_succ, i64_w, i32_w]
      rfl
     refine pv_ 6 37 #[true, true, true, true, true, true, true] (by kernel_rfl) ?_
     refine done_ (by kernel_rfl) ?_
     try go_wp2
     go_loopg [9] kj2 (fun kq v9 w' => ∃ (x9_2 : Int) (x124000_2 : Int) (x124001_2 : Int) (x124002_2 : List Int) (u124002 : Value), v9 = .int .i64 x9_2 ∧ Aside0 (laws_FnOccOrder.l0 kq l0 x9_2 t101 t102 t103 t106 t107 t108 x124000_2 x124001_2 x124002_2 t118 t119 t120 = some r) ∧ Aside0 (kq ≤ kj2) ∧ Aside0 (Kd.V (Kd.int .i64) 3 w' w.heap.size (fun k_ => k_ ≠ gb111 ∧ k_ ≠ gb112 ∧ k_ ≠ gb123 ∧ k_ ≠ gb124) (.slice Ao16 t103.length co16) t103) ∧ Aside0 (Kd.V (Kd.int .i64) 3 w' w.heap.size (fun k_ => k_ ≠ gb111 ∧ k_ ≠ gb112 ∧ k_ ≠ gb123 ∧ k_ ≠ gb124) (.slice Ao18 t108.length co18) t108) ∧ Aside0 (Kd.V (Kd.int .i64) 3 w' w.heap.size (fun k_ => k_ ≠ gb111 ∧ k_ ≠ gb112 ∧ k_ ≠ gb123 ∧ k_ ≠ gb124) u124002 x124002_2) ∧ Aside0 (Kd.V (Kd.int .i64) 3 w' w.heap.size (fun k_ => k_ ≠ gb111 ∧ k_ ≠ gb112 ∧ k_ ≠ gb123 ∧ k_ ≠ gb124) (.slice Ao30 t120.length co30) t120) ∧ Aside0 (w'.heap[gb111]? = some (.cells #[.int .i64 t101, .int .i64 t102, (.slice Ao16 t103.length co16)] 27 (0, 0))) ∧ Aside0 (w'.heap[gb112]? = some (.cells #[.int .i64 t106, .int .i64 t107, (.slice Ao18 t108.length co18)] 27 (0, 0))) ∧ Aside0 (w'.heap[gb123]? = some (.cells #[.int .i64 x124000_2, .int .i64 x124001_2, u124002] 27 (0, 0))) ∧ Aside0 (w'.heap[gb124]? = some (.cells #[.int .i64 t118, .int .i64 t119, (.slice Ao30 t120.length co30)] 27 (0, 0))) ∧ Aside0 (Below w.heap.size w w'))
     case atStart => exact ⟨(0), (t113), (t114), (t115), (.slice Ao26 t115.length co26), (by first | rfl | (simp;done) | (simp [*];done)), H', ⟨Nat.le_refl _⟩, ⟨by (with_reducible repeat (first | apply Kd.V_alloc | apply Kd.V_drewN | apply Kd.V_drew));exact HO105.out⟩, ⟨by (with_reducible repeat (first | apply Kd.V_alloc | apply Kd.V_drewN | apply Kd.V_drew));exact HO110.out⟩, ⟨by (with_reducible repeat (first | apply Kd.V_alloc | apply Kd.V_drewN | apply Kd.V_drew));exact HO117.out⟩, ⟨by (with_reducible repeat (first | apply Kd.V_alloc | apply Kd.V_drewN | apply Kd.V_drew));exact HO122.out⟩, ⟨by (with_reducible repeat (first | refine blk_drewN ?_ _ | refine blk_drew ?_ | refine blk_alloc ?_ _));exact BK111.out⟩, ⟨by (with_reducible repeat (first | refine blk_drewN ?_ _ | refine blk_drew ?_ | refine blk_alloc ?_ _));exact BK112.out⟩, ⟨by (with_reducible repeat (first | refine blk_drewN ?_ _ | refine blk_drew ?_ | refine blk_alloc ?_ _));exact BK123.out⟩, ⟨by (with_reducible repeat (first | refine blk_drewN ?_ _ | refine blk_drew ?_ | refine blk_alloc ?_ _));exact BK124.out⟩, ⟨by repeat (first | (with_reducible first | exact HB.out | apply below_alloc | apply pw_below_drewN | apply below_drew1 | refine below_set ?_ GE111.out | refine below_set ?_ GE112.out | refine below_set ?_ GE123.out | refine below_set ?_ GE124.out) | exact HB.out)⟩⟩
     case round =>
      clear H'
      try clear c1
      try clear c2
      try clear p2
      try clear c4
      try clear c4b0
      try clear c4b1
      try clear c5
      try clear c10
      try clear c10b0
      try clear c10b1
      try clear c10b2
      try clear c14
      try clear c22
      try clear c23
      try clear c24
      try clear c27
      try clear c28
      try clear hcz15_0
      try clear hcz15_1
      try clear hcz15_2
      try clear hcz17_0
      try clear hcz17_1
      try clear hcz17_2
      try clear hcz25_0
      try clear hcz25_1
      try clear hcz25_2
      try clear hcz29_0
      try clear hcz29_1
      try clear hcz29_2
      try clear hfz15_0
      try clear hfz15_1
      try clear hfz15_2
      try clear hfz17_0
      try clear hfz17_1
      try clear hfz17_2
      try clear hfz25_0
      try clear hfz25_1
      try clear hfz25_2
      try clear hfz29_0
      try clear hfz29_1
      try clear hfz29_2
      try clear p2
      obtain ⟨x9_2, x124000_2, x124001_2, x124002_2, u124002, rfl, HA, HK2, HO_112002, HO_113002, HO_124002, HO_125002, BK111, BK112, BK123, BK124, HB⟩ := hrel
      cases gk with
      | zero => exact absurd HA.out (by simp [laws_FnOccOrder.l0])
      | succ k2 =>
       have H := HA.out
       clear HA
       simp only [laws_FnOccOrder.l0] at H
       by_cases c35 : x9_2 < 2
       ·rw [if_pos c35] at H
        have c35b0 : decide (x9_2 < 2) = true := decide_eq_true c35
        clear c35
        replace H := Option.bind_eq_some_iff.mp H
        obtain ⟨t127, A360, H⟩ := H
        replace H : (if t127 = true then ((impl_OccLess.f k2 t106 t107 t108 x124000_2 x124001_2 x124002_2).bind fun t128 => (if t128 = true then ((impl_OccLess.f k2 t101 t102 t103 x124000_2 x124001_2 x124002_2).bind fun t129 => (if t129 = true then ((impl_OccLess.f k2 t101 t102 t103 t101 t102 t103).bind fun t130 => (if t130 = true then (some false) else (laws_FnOccOrder.l0 k2 l0 (wrap64 (x9_2 + 1)) t101 t102 t103 t106 t107 t108 t118 t119 t120 t118 t119 t120))) else (some false))) else ((impl_OccLess.f k2 t101 t102 t103 t101 t102 t103).bind fun t131 => (if t131 = true then (some false) else (laws_FnOccOrder.l0 k2 l0 (wrap64 (x9_2 + 1)) t101 t102 t103 t106 t107 t108 t118 t119 t120 t118 t119 t120))))) else ((impl_OccLess.f k2 t101 t102 t103 t101 t102 t103).bind fun t132 => (if t132 = true then (some false) else (laws_FnOccOrder.l0 k2 l0 (wrap64 (x9_2 + 1)) t101 t102 t103 t106 t107 t108 t118 t119 t120 t118 t119 t120)))) = some r := H
        have A36 := Aside0.mk A360
        clear A360
        by_cases c37 : t127 = true
        ·subst c37
         have H1 : ((impl_OccLess.f k2 t106 t107 t108 x124000_2 x124001_2 x124002_2).bind fun t128 => (if t128 = true then ((impl_OccLess.f k2 t101 t102 t103 x124000_2 x124001_2 x124002_2).bind fun t129 => (if t129 = true then ((impl_OccLess.f k2 t101 t102 t103 t101 t102 t103).bind fun t130 => (if t130 = true then (some false) else (laws_FnOccOrder.l0 k2 l0 (wrap64 (x9_2 + 1)) t101 t102 t103 t106 t107 t108 t118 t119 t120 t118 t119 t120))) else (some false))) else ((impl_OccLess.f k2 t101 t102 t103 t101 t102 t103).bind fun t131 => (if t131 = true then (some false) else (laws_FnOccOrder.l0 k2 l0 (wrap64 (x9_2 + 1)) t101 t102 t103 t106 t107 t108 t118 t119 t120 t118 t119 t120))))) = some r := by rw [if_pos rfl] at H;exact H
         clear H
         have H := H1
         clear H1
         replace H := Option.bind_eq_some_iff.mp H
         obtain ⟨t128, A380, H⟩ := H
         replace H : (if t128 = true then ((impl_OccLess.f k2 t101 t102 t103 x124000_2 x124001_2 x124002_2).bind fun t129 => (if t129 = true then ((impl_OccLess.f k2 t101 t102 t103 t101 t102 t103).bind fun t130 => (if t130 = true then (some false) else (laws_FnOccOrder.l0 k2 l0 (wrap64 (x9_2 + 1)) t101 t102 t103 t106 t107 t108 t118 t119 t120 t118 t119 t120))) else (some false))) else ((impl_OccLess.f k2 t101 t102 t103 t101 t102 t103).bind fun t131 => (if t131 = true then (some false) else (laws_FnOccOrder.l0 k2 l0 (wrap64 (x9_2 + 1)) t101 t102 t103 t106 t107 t108 t118 t119 t120 t118 t119 t120)))) = some r := H
         have A38 := Aside0.mk A380
         clear A380
         by_cases c39 : t128 = true
         ·subst c39
          have H1 : ((impl_OccLess.f k2 t101 t102 t103 x124000_2 x124001_2 x124002_2).bind fun t129 => (if t129 = true then ((impl_OccLess.f k2 t101 t102 t103 t101 t102 t103).bind fun t130 => (if t130 = true then (some false) else (laws_FnOccOrder.l0 k2 l0 (wrap64 (x9_2 + 1)) t101 t102 t103 t106 t107 t108 t118 t119 t120 t118 t119 t120))) else (some false))) = some r := by rw [if_pos rfl] at H;exact H
          clear H
          have H := H1
          clear H1
          replace H := Option.bind_eq_some_iff.mp H
          obtain ⟨t129, A400, H⟩ := H
          replace H : (if t129 = true then ((impl_OccLess.f k2 t101 t102 t103 t101 t102 t103).bind fun t130 => (if t130 = true then (some false) else (laws_FnOccOrder.l0 k2 l0 (wrap64 (x9_2 + 1)) t101 t102 t103 t106 t107 t108 t118 t119 t120 t118 t119 t120))) else (some false)) = some r := H
          have A40 := Aside0.mk A400
          clear A400
          by_cases c41 : t129 = true
          ·subst c41
           have H1 : ((impl_OccLess.f k2 t101 t102 t103 t101 t102 t103).bind fun t130 => (if t130 = true then (some false) else (laws_FnOccOrder.l0 k2 l0 (wrap64 (x9_2 + 1)) t101 t102 t103 t106 t107 t108 t118 t119 t120 t118 t119 t120))) = some r := by rw [if_pos rfl] at H;exact H
           clear H
           have H := H1
           clear H1
           replace H := Option.bind_eq_some_iff.mp H
           obtain ⟨t130, A420, H⟩ := H
           replace H : (if t130 = true then (some false) else (laws_FnOccOrder.l0 k2 l0 (wrap64 (x9_2 + 1)) t101 t102 t103 t106 t107 t108 t118 t119 t120 t118 t119 t120)) = some r := H
           have A42 := Aside0.mk A420
           clear A420
           by_cases c43 : t130 = true
           ·subst c43
            have H1 : (some false) = some r := by rw [if_pos rfl] at H;exact H
            clear H
            have H := H1
            clear H1
            exact absurd (Option.some.inj H) (by rw [hT_.out];decide)
           ·replace c43 := Bool.eq_false_iff.mpr c43
            subst c43
            have H1 : (laws_FnOccOrder.l0 k2 l0 (wrap64 (x9_2 + 1)) t101 t102 t103 t106 t107 t108 t118 t119 t120 t118 t119 t120) = some r := by rw [if_neg (show ¬ (false = true) by decide)] at H;exact H
            clear H
            have H := H1
            clear H1
            have H' := Aside0.mk H
            clear H
            have hnb44 := NB111_112.out
            have hnc44 := NB112_111.out
            have hnb45 := NB111_123.out
            have hnc45 := NB123_111.out
            have hnb46 := NB111_124.out
            have hnc46 := NB124_111.out
            obtain ⟨hcz47_0, hcz47_1, hcz47_2, hfz47_0, hfz47_1, hfz47_2⟩ := bx3 BK111.out
            have hnb48 := NB112_123.out
            have hnc48 := NB123_112.out
            have hnb49 := NB112_124.out
            have hnc49 := NB124_112.out
            obtain ⟨hcz50_0, hcz50_1, hcz50_2, hfz50_0, hfz50_1, hfz50_2⟩ := bx3 BK112.out
            go_wp2_with (first | ((with_reducible refine gate_callee (f := 45) rfl ?_);refine goesL_ (some 44) rfl rfl Try.func45 (by kernel_rfl) rfl #[.agg #[.int .i64 t101, .int .i64 t102, .slice Ao16 t103.length co16], .agg #[.int .i64 t106, .int .i64 t107, .slice Ao18 t108.length co18]] rfl (by (try simp only [List.map_toArray, List.map_cons, List.map_nil]);first | done | rfl | (simp only [List.length_drop, List.length_take];rfl)) ?_;(with_reducible refine (impl_OccLess.calls k2 t101 t102 _ _ t103 t106 t107 _ _ t108 true _ ?side1 ?side2 ?side3 ?side4 A36.out).mono ?_);(case side1 => repeat (first | exact (Kd.V_reads' HO_112002.out).2.2 | (with_reducible refine Kd.C_alloc ?_ _) | (with_reducible refine Kd.C_drewN ?_ _) | (with_reducible refine Kd.C_drew ?_)));(case side2 => exact (Kd.V_reads' HO_112002.out).2.1);(case side3 => repeat (first | exact (Kd.V_reads' HO_113002.out).2.2 | (with_reducible refine Kd.C_alloc ?_ _) | (with_reducible refine Kd.C_drewN ?_ _) | (with_reducible refine Kd.C_drew ?_)));(case side4 => exact (Kd.V_reads' HO_113002.out).2.1);rintro e w51 ⟨rfl, hb⟩;refine ⟨_, rfl, ?_⟩;replace HO_112002 := Aside0.mk (Kd.V_below (by exact HO_112002.out) hb);replace HO_113002 := Aside0.mk (Kd.V_below (by exact HO_113002.out) hb);replace HO_124002 := Aside0.mk (Kd.V_below (by exact HO_124002.out) hb);replace HO_125002 := Aside0.mk (Kd.V_below (by exact HO_125002.out) hb);replace BK111 := Aside0.mk (blk_below BK111.out hb);replace BK112 := Aside0.mk (blk_below BK112.out hb);replace BK123 := Aside0.mk (blk_below BK123.out hb);replace BK124 := Aside0.mk (blk_below BK124.out hb);replace HB := Aside0.mk (below_step (by exact HB.out) hb);(try clear hb);(try clear hb2);(try clear hk);(try clear hi);obtain ⟨hcz52_0, hcz52_1, hcz52_2, hfz52_0, hfz52_1, hfz52_2⟩ := bx3 BK112.out;have hnb53 := NB123_124.out;have hnc53 := NB124_123.out;obtain ⟨hcz54_0, hcz54_1, hcz54_2, hfz54_0, hfz54_1, hfz54_2⟩ := bx3 BK123.out;obtain ⟨Ao55, co55, eo55⟩ := Kd.V_slice HO_124002.out;subst eo55) | (go_at_call 45;(with_reducible refine (impl_OccLess.calls k2 t106 t107 _ _ t108 x124000_2 x124001_2 _ _ x124002_2 true _ ?side1 ?side2 ?side3 ?side4 A38.out).mono ?_);(case side1 => repeat (first | exact (Kd.V_reads' HO_113002.out).2.2 | (with_reducible refine Kd.C_alloc ?_ _) | (with_reducible refine Kd.C_drewN ?_ _) | (with_reducible refine Kd.C_drew ?_)));(case side2 => exact (Kd.V_reads' HO_113002.out).2.1);(case side3 => repeat (first | exact (Kd.V_reads' HO_124002.out).2.2 | (with_reducible refine Kd.C_alloc ?_ _) | (with_reducible refine Kd.C_drewN ?_ _) | (with_reducible refine Kd.C_drew ?_)));(case side4 => exact (Kd.V_reads' HO_124002.out).2.1);rintro e w56 ⟨rfl, hb⟩;replace HO_112002 := Aside0.mk (Kd.V_below (by exact HO_112002.out) hb);replace HO_113002 := Aside0.mk (Kd.V_below (by exact HO_113002.out) hb);replace HO_124002 := Aside0.mk (Kd.V_below (by exact HO_124002.out) hb);replace HO_125002 := Aside0.mk (Kd.V_below (by exact HO_125002.out) hb);replace BK111 := Aside0.mk (blk_below BK111.out hb);replace BK112 := Aside0.mk (blk_below BK112.out hb);replace BK123 := Aside0.mk (blk_below BK123.out hb);replace BK124 := Aside0.mk (blk_below BK124.out hb);replace HB := Aside0.mk (below_step (by exact HB.out) hb);(try clear hb);(try clear hb2);(try clear hk);(try clear hi);obtain ⟨hcz57_0, hcz57_1, hcz57_2, hfz57_0, hfz57_1, hfz57_2⟩ := bx3 BK111.out;obtain ⟨hcz58_0, hcz58_1, hcz58_2, hfz58_0, hfz58_1, hfz58_2⟩ := bx3 BK123.out) | (go_at_call 45;(with_reducible refine (impl_OccLess.calls k2 t101 t102 _ _ t103 x124000_2 x124001_2 _ _ x124002_2 true _ ?side1 ?side2 ?side3 ?side4 A40.out).mono ?_);(case side1 => repeat (first | exact (Kd.V_reads' HO_112002.out).2.2 | (with_reducible refine Kd.C_alloc ?_ _) | (with_reducible refine Kd.C_drewN ?_ _) | (with_reducible refine Kd.C_drew ?_)));(case side2 => exact (Kd.V_reads' HO_112002.out).2.1);(case side3 => repeat (first | exact (Kd.V_reads' HO_124002.out).2.2 | (with_reducible refine Kd.C_alloc ?_ _) | (with_reducible refine Kd.C_drewN ?_ _) | (with_reducible refine Kd.C_drew ?_)));(case side4 => exact (Kd.V_reads' HO_124002.out).2.1);rintro e w59 ⟨rfl, hb⟩;replace HO_112002 := Aside0.mk (Kd.V_below (by exact HO_112002.out) hb);replace HO_113002 := Aside0.mk (Kd.V_below (by exact HO_113002.out) hb);replace HO_124002 := Aside0.mk (Kd.V_below (by exact HO_124002.out) hb);replace HO_125002 := Aside0.mk (Kd.V_below (by exact HO_125002.out) hb);replace BK111 := Aside0.mk (blk_below BK111.out hb);replace BK112 := Aside0.mk (blk_below BK112.out hb);replace BK123 := Aside0.mk (blk_below BK123.out hb);replace BK124 := Aside0.mk (blk_below BK124.out hb);replace HB := Aside0.mk (below_step (by exact HB.out) hb);(try clear hb);(try clear hb2);(try clear hk);(try clear hi);obtain ⟨hcz60_0, hcz60_1, hcz60_2, hfz60_0, hfz60_1, hfz60_2⟩ := bx3 BK111.out) | (go_at_call 45;(with_reducible refine (impl_OccLess.calls k2 t101 t102 _ _ t103 t101 t102 _ _ t103 false _ ?side1 ?side2 ?side3 ?side4 A42.out).mono ?_);(case side1 => repeat (first | exact (Kd.V_reads' HO_112002.out).2.2 | (with_reducible refine Kd.C_alloc ?_ _) | (with_reducible refine Kd.C_drewN ?_ _) | (with_reducible refine Kd.C_drew ?_)));(case side2 => exact (Kd.V_reads' HO_112002.out).2.1);(case side3 => repeat (first | exact (Kd.V_reads' HO_112002.out).2.2 | (with_reducible refine Kd.C_alloc ?_ _) | (with_reducible refine Kd.C_drewN ?_ _) | (with_reducible refine Kd.C_drew ?_)));(case side4 => exact (Kd.V_reads' HO_112002.out).2.1);rintro e w61 ⟨rfl, hb⟩;replace HO_112002 := Aside0.mk (Kd.V_below (by exact HO_112002.out) hb);replace HO_113002 := Aside0.mk (Kd.V_below (by exact HO_113002.out) hb);replace HO_124002 := Aside0.mk (Kd.V_below (by exact HO_124002.out) hb);replace HO_125002 := Aside0.mk (Kd.V_below (by exact HO_125002.out) hb);replace BK111 := Aside0.mk (blk_below BK111.out hb);replace BK112 := Aside0.mk (blk_below BK112.out hb);replace BK123 := Aside0.mk (blk_below BK123.out hb);replace BK124 := Aside0.mk (blk_below BK124.out hb);replace HB := Aside0.mk (below_step (by exact HB.out) hb);(try clear hb);(try clear hb2);(try clear hk);(try clear hi);obtain ⟨hcz62_0, hcz62_1, hcz62_2, hfz62_0, hfz62_1, hfz62_2⟩ := bx3 BK124.out;obtain ⟨hcz63_0, hcz63_1, hcz63_2, hfz63_0, hfz63_1, hfz63_2⟩ := bx3 BK123.out))
            go_roundg k2
            case measure => have := HJ2.out;have := HK2.out;omega
            case rel => exact ⟨(wrap64 (x9_2 + 1)), (t118), (t119), (t120), (.slice Ao30 t120.length co30), (by first | rfl | (simp;done) | (simp [*];done)), H', ⟨by have := HJ2.out;have := HK2.out;omega⟩, ⟨by (with_reducible repeat (first | apply Kd.V_alloc | apply Kd.V_drewN | apply Kd.V_drew));exact Kd.V_mono (Kd.V_far (p := ⟨gb123, 2, none⟩) (Kd.V_far (p := ⟨gb123, 1, none⟩) (Kd.V_far (p := ⟨gb123, 0, none⟩) (Kd.V_mono HO_112002.out (fun k_ hk => (⟨hk, hk.2.2.1⟩ : _ ∧ k_ ≠ gb123))) (fun _ hk => hk.2) (.int .i64 t118)) (fun _ hk => hk.2) (.int .i64 t119)) (fun _ hk => hk.2) (.slice Ao30 t120.length co30)) (fun _ hk => ⟨hk.1.1, ⟨hk.1.2.1, ⟨hk.1.2.2.1, hk.1.2.2.2⟩⟩⟩)⟩, ⟨by (with_reducible repeat (first | apply Kd.V_alloc | apply Kd.V_drewN | apply Kd.V_drew));exact Kd.V_mono (Kd.V_far (p := ⟨gb123, 2, none⟩) (Kd.V_far (p := ⟨gb123, 1, none⟩) (Kd.V_far (p := ⟨gb123, 0, none⟩) (Kd.V_mono HO_113002.out (fun k_ hk => (⟨hk, hk.2.2.1⟩ : _ ∧ k_ ≠ gb123))) (fun _ hk => hk.2) (.int .i64 t118)) (fun _ hk => hk.2) (.int .i64 t119)) (fun _ hk => hk.2) (.slice Ao30 t120.length co30)) (fun _ hk => ⟨hk.1.1, ⟨hk.1.2.1, ⟨hk.1.2.2.1, hk.1.2.2.2⟩⟩⟩)⟩, ⟨by (with_reducible repeat (first | apply Kd.V_alloc | apply Kd.V_drewN | apply Kd.V_drew));exact Kd.V_mono (Kd.V_far (p := ⟨gb123, 2, none⟩) (Kd.V_far (p := ⟨gb123, 1, none⟩) (Kd.V_far (p := ⟨gb123, 0, none⟩) (Kd.V_mono HO_125002.out (fun k_ hk => (⟨hk, hk.2.2.1⟩ : _ ∧ k_ ≠ gb123))) (fun _ hk => hk.2) (.int .i64 t118)) (fun _ hk => hk.2) (.int .i64 t119)) (fun _ hk => hk.2) (.slice Ao30 t120.length co30)) (fun _ hk => ⟨hk.1.1, ⟨hk.1.2.1, ⟨hk.1.2.2.1, hk.1.2.2.2⟩⟩⟩)⟩, ⟨by (with_reducible repeat (first | apply Kd.V_alloc | apply Kd.V_drewN | apply Kd.V_drew));exact Kd.V_mono (Kd.V_far (p := ⟨gb123, 2, none⟩) (Kd.V_far (p := ⟨gb123, 1, none⟩) (Kd.V_far (p := ⟨gb123, 0, none⟩) (Kd.V_mono HO_125002.out (fun k_ hk => (⟨hk, hk.2.2.1⟩ : _ ∧ k_ ≠ gb123))) (fun _ hk => hk.2) (.int .i64 t118)) (fun _ hk => hk.2) (.int .i64 t119)) (fun _ hk => hk.2) (.slice Ao30 t120.length co30)) (fun _ hk => ⟨hk.1.1, ⟨hk.1.2.1, ⟨hk.1.2.2.1, hk.1.2.2.2⟩⟩⟩)⟩, ⟨by (with_reducible repeat (first | refine blk_drewN ?_ _ | refine blk_drew ?_ | refine blk_alloc ?_ _));refine blk_far ?_ NB111_123.out _;(with_reducible repeat (first | refine blk_drewN ?_ _ | refine blk_drew ?_ | refine blk_alloc ?_ _));refine blk_far ?_ NB111_123.out _;(with_reducible repeat (first | refine blk_drewN ?_ _ | refine blk_drew ?_ | refine blk_alloc ?_ _));refine blk_far ?_ NB111_123.out _;(with_reducible repeat (first | refine blk_drewN ?_ _ | refine blk_drew ?_ | refine blk_alloc ?_ _));exact BK111.out⟩, ⟨by (with_reducible repeat (first | refine blk_drewN ?_ _ | refine blk_drew ?_ | refine blk_alloc ?_ _));refine blk_far ?_ NB112_123.out _;(with_reducible repeat (first | refine blk_drewN ?_ _ | refine blk_drew ?_ | refine blk_alloc ?_ _));refine blk_far ?_ NB112_123.out _;(with_reducible repeat (first | refine blk_drewN ?_ _ | refine blk_drew ?_ | refine blk_alloc ?_ _));refine blk_far ?_ NB112_123.out _;(with_reducible repeat (first | refine blk_drewN ?_ _ | refine blk_drew ?_ | refine blk_alloc ?_ _));exact BK112.out⟩, ⟨by (with_reducible repeat (first | refine blk_drewN ?_ _ | refine blk_drew ?_ | refine blk_alloc ?_ _));refine blk_put (cs := #[.int .i64 t118, .int .i64 t119, .slice Ao55 x124002_2.length co55]) ?_ 2 _ rfl;(with_reducible repeat (first | refine blk_drewN ?_ _ | refine blk_drew ?_ | refine blk_alloc ?_ _));refine blk_put (cs := #[.int .i64 t118, .int .i64 x124001_2, .slice Ao55 x124002_2.length co55]) ?_ 1 _ rfl;(with_reducible repeat (first | refine blk_drewN ?_ _ | refine blk_drew ?_ | refine blk_alloc ?_ _));refine blk_put (cs := #[.int .i64 x124000_2, .int .i64 x124001_2, .slice Ao55 x124002_2.length co55]) ?_ 0 _ rfl;(with_reducible repeat (first | refine blk_drewN ?_ _ | refine blk_drew ?_ | refine blk_alloc ?_ _));exact BK123.out⟩, ⟨by (with_reducible repeat (first | refine blk_drewN ?_ _ | refine blk_drew ?_ | refine blk_alloc ?_ _));refine blk_far ?_ NB124_123.out _;(with_reducible repeat (first | refine blk_drewN ?_ _ | refine blk_drew ?_ | refine blk_alloc ?_ _));refine blk_far ?_ NB124_123.out _;(with_reducible repeat (first | refine blk_drewN ?_ _ | refine blk_drew ?_ | refine blk_alloc ?_ _));refine blk_far ?_ NB124_123.out _;(with_reducible repeat (first | refine blk_drewN ?_ _ | refine blk_drew ?_ | refine blk_alloc ?_ _));exact BK124.out⟩, ⟨by repeat (first | (with_reducible first | exact HB.out | apply below_alloc | apply pw_below_drewN | apply below_drew1 | refine below_set ?_ GE111.out | refine below_set ?_ GE112.out | refine below_set ?_ GE123.out | refine below_set ?_ GE124.out) | exact HB.out)⟩⟩
          ·replace c41 := Bool.eq_false_iff.mpr c41
           subst c41
           have H1 : (some false) = some r := by rw [if_neg (show ¬ (false = true) by decide)] at H;exact H
           clear H
           have H := H1
           clear H1
           exact absurd (Option.some.inj H) (by rw [hT_.out];decide)
         ·replace c39 := Bool.eq_false_iff.mpr c39
          subst c39
          have H1 : ((impl_OccLess.f k2 t101 t102 t103 t101 t102 t103).bind fun t131 => (if t131 = true then (some false) else (laws_FnOccOrder.l0 k2 l0 (wrap64 (x9_2 + 1)) t101 t102 t103 t106 t107 t108 t118 t119 t120 t118 t119 t120))) = some r := by rw [if_neg (show ¬ (false = true) by decide)] at H;exact H
          clear H
          have H := H1
          clear H1
          replace H := Option.bind_eq_some_iff.mp H
          obtain ⟨t131, A640, H⟩ := H
          replace H : (if t131 = true then (some false) else (laws_FnOccOrder.l0 k2 l0 (wrap64 (x9_2 + 1)) t101 t102 t103 t106 t107 t108 t118 t119 t120 t118 t119 t120)) = some r := H
          have A64 := Aside0.mk A640
          clear A640
          by_cases c65 : t131 = true
          ·subst c65
           have H1 : (some false) = some r := by rw [if_pos rfl] at H;exact H
           clear H
           have H := H1
           clear H1
           exact absurd (Option.some.inj H) (by rw [hT_.out];decide)
          ·replace c65 := Bool.eq_false_iff.mpr c65
           subst c65
           have H1 : (laws_FnOccOrder.l0 k2 l0 (wrap64 (x9_2 + 1)) t101 t102 t103 t106 t107 t108 t118 t119 t120 t118 t119 t120) = some r := by rw [if_neg (show ¬ (false = true) by decide)] at H;exact H
           clear H
           have H := H1
           clear H1
           have H' := Aside0.mk H
           clear H
           have hnb66 := NB111_112.out
           have hnc66 := NB112_111.out
           have hnb67 := NB111_123.out
           have hnc67 := NB123_111.out
           have hnb68 := NB111_124.out
           have hnc68 := NB124_111.out
           obtain ⟨hcz69_0, hcz69_1, hcz69_2, hfz69_0, hfz69_1, hfz69_2⟩ := bx3 BK111.out
           have hnb70 := NB112_123.out
           have hnc70 := NB123_112.out
           have hnb71 := NB112_124.out
           have hnc71 := NB124_112.out
           obtain ⟨hcz72_0, hcz72_1, hcz72_2, hfz72_0, hfz72_1, hfz72_2⟩ := bx3 BK112.out
           go_wp2_with (first | ((with_reducible refine gate_callee (f := 45) rfl ?_);refine goesL_ (some 44) rfl rfl Try.func45 (by kernel_rfl) rfl #[.agg #[.int .i64 t101, .int .i64 t102, .slice Ao16 t103.length co16], .agg #[.int .i64 t106, .int .i64 t107, .slice Ao18 t108.length co18]] rfl (by (try simp only [List.map_toArray, List.map_cons, List.map_nil]);first | done | rfl | (simp only [List.length_drop, List.length_take];rfl)) ?_;(with_reducible refine (impl_OccLess.calls k2 t101 t102 _ _ t103 t106 t107 _ _ t108 true _ ?side1 ?side2 ?side3 ?side4 A36.out).mono ?_);(case side1 => repeat (first | exact (Kd.V_reads' HO_112002.out).2.2 | (with_reducible refine Kd.C_alloc ?_ _) | (with_reducible refine Kd.C_drewN ?_ _) | (with_reducible refine Kd.C_drew ?_)));(case side2 => exact (Kd.V_reads' HO_112002.out).2.1);(case side3 => repeat (first | exact (Kd.V_reads' HO_113002.out).2.2 | (with_reducible refine Kd.C_alloc ?_ _) | (with_reducible refine Kd.C_drewN ?_ _) | (with_reducible refine Kd.C_drew ?_)));(case side4 => exact (Kd.V_reads' HO_113002.out).2.1);rintro e w73 ⟨rfl, hb⟩;refine ⟨_, rfl, ?_⟩;replace HO_112002 := Aside0.mk (Kd.V_below (by exact HO_112002.out) hb);replace HO_113002 := Aside0.mk (Kd.V_below (by exact HO_113002.out) hb);replace HO_124002 := Aside0.mk (Kd.V_below (by exact HO_124002.out) hb);replace HO_125002 := Aside0.mk (Kd.V_below (by exact HO_125002.out) hb);replace BK111 := Aside0.mk (blk_below BK111.out hb);replace BK112 := Aside0.mk (blk_below BK112.out hb);replace BK123 := Aside0.mk (blk_below BK123.out hb);replace BK124 := Aside0.mk (blk_below BK124.out hb);replace HB := Aside0.mk (below_step (by exact HB.out) hb);(try clear hb);(try clear hb2);(try clear hk);(try clear hi);obtain ⟨hcz74_0, hcz74_1, hcz74_2, hfz74_0, hfz74_1, hfz74_2⟩ := bx3 BK112.out;have hnb75 := NB123_124.out;have hnc75 := NB124_123.out;obtain ⟨hcz76_0, hcz76_1, hcz76_2, hfz76_0, hfz76_1, hfz76_2⟩ := bx3 BK123.out;obtain ⟨Ao77, co77, eo77⟩ := Kd.V_slice HO_124002.out;subst eo77) | (go_at_call 45;(with_reducible refine (impl_OccLess.calls k2 t106 t107 _ _ t108 x124000_2 x124001_2 _ _ x124002_2 false _ ?side1 ?side2 ?side3 ?side4 A38.out).mono ?_);(case side1 => repeat (first | exact (Kd.V_reads' HO_113002.out).2.2 | (with_reducible refine Kd.C_alloc ?_ _) | (with_reducible refine Kd.C_drewN ?_ _) | (with_reducible refine Kd.C_drew ?_)));(case side2 => exact (Kd.V_reads' HO_113002.out).2.1);(case side3 => repeat (first | exact (Kd.V_reads' HO_124002.out).2.2 | (with_reducible refine Kd.C_alloc ?_ _) | (with_reducible refine Kd.C_drewN ?_ _) | (with_reducible refine Kd.C_drew ?_)));(case side4 => exact (Kd.V_reads' HO_124002.out).2.1);rintro e w78 ⟨rfl, hb⟩;replace HO_112002 := Aside0.mk (Kd.V_below (by exact HO_112002.out) hb);replace HO_113002 := Aside0.mk (Kd.V_below (by exact HO_113002.out) hb);replace HO_124002 := Aside0.mk (Kd.V_below (by exact HO_124002.out) hb);replace HO_125002 := Aside0.mk (Kd.V_below (by exact HO_125002.out) hb);replace BK111 := Aside0.mk (blk_below BK111.out hb);replace BK112 := Aside0.mk (blk_below BK112.out hb);replace BK123 := Aside0.mk (blk_below BK123.out hb);replace BK124 := Aside0.mk (blk_below BK124.out hb);replace HB := Aside0.mk (below_step (by exact HB.out) hb);(try clear hb);(try clear hb2);(try clear hk);(try clear hi);obtain ⟨hcz79_0, hcz79_1, hcz79_2, hfz79_0, hfz79_1, hfz79_2⟩ := bx3 BK111.out) | (go_at_call 45;(with_reducible refine (impl_OccLess.calls k2 t101 t102 _ _ t103 t101 t102 _ _ t103 false _ ?side1 ?side2 ?side3 ?side4 A64.out).mono ?_);(case side1 => repeat (first | exact (Kd.V_reads' HO_112002.out).2.2 | (with_reducible refine Kd.C_alloc ?_ _) | (with_reducible refine Kd.C_drewN ?_ _) | (with_reducible refine Kd.C_drew ?_)));(case side2 => exact (Kd.V_reads' HO_112002.out).2.1);(case side3 => repeat (first | exact (Kd.V_reads' HO_112002.out).2.2 | (with_reducible refine Kd.C_alloc ?_ _) | (with_reducible refine Kd.C_drewN ?_ _) | (with_reducible refine Kd.C_drew ?_)));(case side4 => exact (Kd.V_reads' HO_112002.out).2.1);rintro e w80 ⟨rfl, hb⟩;replace HO_112002 := Aside0.mk (Kd.V_below (by exact HO_112002.out) hb);replace HO_113002 := Aside0.mk (Kd.V_below (by exact HO_113002.out) hb);replace HO_124002 := Aside0.mk (Kd.V_below (by exact HO_124002.out) hb);replace HO_125002 := Aside0.mk (Kd.V_below (by exact HO_125002.out) hb);replace BK111 := Aside0.mk (blk_below BK111.out hb);replace BK112 := Aside0.mk (blk_below BK112.out hb);replace BK123 := Aside0.mk (blk_below BK123.out hb);replace BK124 := Aside0.mk (blk_below BK124.out hb);replace HB := Aside0.mk (below_step (by exact HB.out) hb);(try clear hb);(try clear hb2);(try clear hk);(try clear hi);obtain ⟨hcz81_0, hcz81_1, hcz81_2, hfz81_0, hfz81_1, hfz81_2⟩ := bx3 BK124.out;obtain ⟨hcz82_0, hcz82_1, hcz82_2, hfz82_0, hfz82_1, hfz82_2⟩ := bx3 BK123.out))
           go_roundg k2
           case measure => have := HJ2.out;have := HK2.out;omega
           case rel => exact ⟨(wrap64 (x9_2 + 1)), (t118), (t119), (t120), (.slice Ao30 t120.length co30), (by first | rfl | (simp;done) | (simp [*];done)), H', ⟨by have := HJ2.out;have := HK2.out;omega⟩, ⟨by (with_reducible repeat (first | apply Kd.V_alloc | apply Kd.V_drewN | apply Kd.V_drew));exact Kd.V_mono (Kd.V_far (p := ⟨gb123, 2, none⟩) (Kd.V_far (p := ⟨gb123, 1, none⟩) (Kd.V_far (p := ⟨gb123, 0, none⟩) (Kd.V_mono HO_112002.out (fun k_ hk => (⟨hk, hk.2.2.1⟩ : _ ∧ k_ ≠ gb123))) (fun _ hk => hk.2) (.int .i64 t118)) (fun _ hk => hk.2) (.int .i64 t119)) (fun _ hk => hk.2) (.slice Ao30 t120.length co30)) (fun _ hk => ⟨hk.1.1, ⟨hk.1.2.1, ⟨hk.1.2.2.1, hk.1.2.2.2⟩⟩⟩)⟩, ⟨by (with_reducible repeat (first | apply Kd.V_alloc | apply Kd.V_drewN | apply Kd.V_drew));exact Kd.V_mono (Kd.V_far (p := ⟨gb123, 2, none⟩) (Kd.V_far (p := ⟨gb123, 1, none⟩) (Kd.V_far (p := ⟨gb123, 0, none⟩) (Kd.V_mono HO_113002.out (fun k_ hk => (⟨hk, hk.2.2.1⟩ : _ ∧ k_ ≠ gb123))) (fun _ hk => hk.2) (.int .i64 t118)) (fun _ hk => hk.2) (.int .i64 t119)) (fun _ hk => hk.2) (.slice Ao30 t120.length co30)) (fun _ hk => ⟨hk.1.1, ⟨hk.1.2.1, ⟨hk.1.2.2.1, hk.1.2.2.2⟩⟩⟩)⟩, ⟨by (with_reducible repeat (first | apply Kd.V_alloc | apply Kd.V_drewN | apply Kd.V_drew));exact Kd.V_mono (Kd.V_far (p := ⟨gb123, 2, none⟩) (Kd.V_far (p := ⟨gb123, 1, none⟩) (Kd.V_far (p := ⟨gb123, 0, none⟩) (Kd.V_mono HO_125002.out (fun k_ hk => (⟨hk, hk.2.2.1⟩ : _ ∧ k_ ≠ gb123))) (fun _ hk => hk.2) (.int .i64 t118)) (fun _ hk => hk.2) (.int .i64 t119)) (fun _ hk => hk.2) (.slice Ao30 t120.length co30)) (fun _ hk => ⟨hk.1.1, ⟨hk.1.2.1, ⟨hk.1.2.2.1, hk.1.2.2.2⟩⟩⟩)⟩, ⟨by (with_reducible repeat (first | apply Kd.V_alloc | apply Kd.V_drewN | apply Kd.V_drew));exact Kd.V_mono (Kd.V_far (p := ⟨gb123, 2, none⟩) (Kd.V_far (p := ⟨gb123, 1, none⟩) (Kd.V_far (p := ⟨gb123, 0, none⟩) (Kd.V_mono HO_125002.out (fun k_ hk => (⟨hk, hk.2.2.1⟩ : _ ∧ k_ ≠ gb123))) (fun _ hk => hk.2) (.int .i64 t118)) (fun _ hk => hk.2) (.int .i64 t119)) (fun _ hk => hk.2) (.slice Ao30 t120.length co30)) (fun _ hk => ⟨hk.1.1, ⟨hk.1.2.1, ⟨hk.1.2.2.1, hk.1.2.2.2⟩⟩⟩)⟩, ⟨by (with_reducible repeat (first | refine blk_drewN ?_ _ | refine blk_drew ?_ | refine blk_alloc ?_ _));refine blk_far ?_ NB111_123.out _;(with_reducible repeat (first | refine blk_drewN ?_ _ | refine blk_drew ?_ | refine blk_alloc ?_ _));refine blk_far ?_ NB111_123.out _;(with_reducible repeat (first | refine blk_drewN ?_ _ | refine blk_drew ?_ | refine blk_alloc ?_ _));refine blk_far ?_ NB111_123.out _;(with_reducible repeat (first | refine blk_drewN ?_ _ | refine blk_drew ?_ | refine blk_alloc ?_ _));exact BK111.out⟩, ⟨by (with_reducible repeat (first | refine blk_drewN ?_ _ | refine blk_drew ?_ | refine blk_alloc ?_ _));refine blk_far ?_ NB112_123.out _;(with_reducible repeat (first | refine blk_drewN ?_ _ | refine blk_drew ?_ | refine blk_alloc ?_ _));refine blk_far ?_ NB112_123.out _;(with_reducible repeat (first | refine blk_drewN ?_ _ | refine blk_drew ?_ | refine blk_alloc ?_ _));refine blk_far ?_ NB112_123.out _;(with_reducible repeat (first | refine blk_drewN ?_ _ | refine blk_drew ?_ | refine blk_alloc ?_ _));exact BK112.out⟩, ⟨by (with_reducible repeat (first | refine blk_drewN ?_ _ | refine blk_drew ?_ | refine blk_alloc ?_ _));refine blk_put (cs := #[.int .i64 t118, .int .i64 t119, .slice Ao77 x124002_2.length co77]) ?_ 2 _ rfl;(with_reducible repeat (first | refine blk_drewN ?_ _ | refine blk_drew ?_ | refine blk_alloc ?_ _));refine blk_put (cs := #[.int .i64 t118, .int .i64 x124001_2, .slice Ao77 x124002_2.length co77]) ?_ 1 _ rfl;(with_reducible repeat (first | refine blk_drewN ?_ _ | refine blk_drew ?_ | refine blk_alloc ?_ _));refine blk_put (cs := #[.int .i64 x124000_2, .int .i64 x124001_2, .slice Ao77 x124002_2.length co77]) ?_ 0 _ rfl;(with_reducible repeat (first | refine blk_drewN ?_ _ | refine blk_drew ?_ | refine blk_alloc ?_ _));exact BK123.out⟩, ⟨by (with_reducible repeat (first | refine blk_drewN ?_ _ | refine blk_drew ?_ | refine blk_alloc ?_ _));refine blk_far ?_ NB124_123.out _;(with_reducible repeat (first | refine blk_drewN ?_ _ | refine blk_drew ?_ | refine blk_alloc ?_ _));refine blk_far ?_ NB124_123.out _;(with_reducible repeat (first | refine blk_drewN ?_ _ | refine blk_drew ?_ | refine blk_alloc ?_ _));refine blk_far ?_ NB124_123.out _;(with_reducible repeat (first | refine blk_drewN ?_ _ | refine blk_drew ?_ | refine blk_alloc ?_ _));exact BK124.out⟩, ⟨by repeat (first | (with_reducible first | exact HB.out | apply below_alloc | apply pw_below_drewN | apply below_drew1 | refine below_set ?_ GE111.out | refine below_set ?_ GE112.out | refine below_set ?_ GE123.out | refine below_set ?_ GE124.out) | exact HB.out)⟩⟩
        ·replace c37 := Bool.eq_false_iff.mpr c37
         subst c37
         have H1 : ((impl_OccLess.f k2 t101 t102 t103 t101 t102 t103).bind fun t132 => (if t132 = true then (some false) else (laws_FnOccOrder.l0 k2 l0 (wrap64 (x9_2 + 1)) t101 t102 t103 t106 t107 t108 t118 t119 t120 t118 t119 t120))) = some r := by rw [if_neg (show ¬ (false = true) by decide)] at H;exact H
         clear H
         have H := H1
         clear H1
         replace H := Option.bind_eq_some_iff.mp H
         obtain ⟨t132, A830, H⟩ := H
         replace H : (if t132 = true then (some false) else (laws_FnOccOrder.l0 k2 l0 (wrap64 (x9_2 + 1)) t101 t102 t103 t106 t107 t108 t118 t119 t120 t118 t119 t120)) = some r := H
         have A83 := Aside0.mk A830
         clear A830
         by_cases c84 : t132 = true
         ·subst c84
          have H1 : (some false) = some r := by rw [if_pos rfl] at H;exact H
          clear H
          have H := H1
          clear H1
          exact absurd (Option.some.inj H) (by rw [hT_.out];decide)
         ·replace c84 := Bool.eq_false_iff.mpr c84
          subst c84
          have H1 : (laws_FnOccOrder.l0 k2 l0 (wrap64 (x9_2 + 1)) t101 t102 t103 t106 t107 t108 t118 t119 t120 t118 t119 t120) = some r := by rw [if_neg (show ¬ (false = true) by decide)] at H;exact H
          clear H
          have H := H1
          clear H1
          have H' := Aside0.mk H
          clear H
          have hnb85 := NB111_112.out
          have hnc85 := NB112_111.out
          have hnb86 := NB111_123.out
          have hnc86 := NB123_111.out
          have hnb87 := NB111_124.out
          have hnc87 := NB124_111.out
          obtain ⟨hcz88_0, hcz88_1, hcz88_2, hfz88_0, hfz88_1, hfz88_2⟩ := bx3 BK111.out
          have hnb89 := NB112_123.out
          have hnc89 := NB123_112.out
          have hnb90 := NB112_124.out
          have hnc90 := NB124_112.out
          obtain ⟨hcz91_0, hcz91_1, hcz91_2, hfz91_0, hfz91_1, hfz91_2⟩ := bx3 BK112.out
          go_wp2_with (first | ((with_reducible refine gate_callee (f := 45) rfl ?_);refine goesL_ (some 44) rfl rfl Try.func45 (by kernel_rfl) rfl #[.agg #[.int .i64 t101, .int .i64 t102, .slice Ao16 t103.length co16], .agg #[.int .i64 t106, .int .i64 t107, .slice Ao18 t108.length co18]] rfl (by (try simp only [List.map_toArray, List.map_cons, List.map_nil]);first | done | rfl | (simp only [List.length_drop, List.length_take];rfl)) ?_;(with_reducible refine (impl_OccLess.calls k2 t101 t102 _ _ t103 t106 t107 _ _ t108 false _ ?side1 ?side2 ?side3 ?side4 A36.out).mono ?_);(case side1 => repeat (first | exact (Kd.V_reads' HO_112002.out).2.2 | (with_reducible refine Kd.C_alloc ?_ _) | (with_reducible refine Kd.C_drewN ?_ _) | (with_reducible refine Kd.C_drew ?_)));(case side2 => exact (Kd.V_reads' HO_112002.out).2.1);(case side3 => repeat (first | exact (Kd.V_reads' HO_113002.out).2.2 | (with_reducible refine Kd.C_alloc ?_ _) | (with_reducible refine Kd.C_drewN ?_ _) | (with_reducible refine Kd.C_drew ?_)));(case side4 => exact (Kd.V_reads' HO_113002.out).2.1);rintro e w92 ⟨rfl, hb⟩;refine ⟨_, rfl, ?_⟩;replace HO_112002 := Aside0.mk (Kd.V_below (by exact HO_112002.out) hb);replace HO_113002 := Aside0.mk (Kd.V_below (by exact HO_113002.out) hb);replace HO_124002 := Aside0.mk (Kd.V_below (by exact HO_124002.out) hb);replace HO_125002 := Aside0.mk (Kd.V_below (by exact HO_125002.out) hb);replace BK111 := Aside0.mk (blk_below BK111.out hb);replace BK112 := Aside0.mk (blk_below BK112.out hb);replace BK123 := Aside0.mk (blk_below BK123.out hb);replace BK124 := Aside0.mk (blk_below BK124.out hb);replace HB := Aside0.mk (below_step (by exact HB.out) hb);(try clear hb);(try clear hb2);(try clear hk);(try clear hi);obtain ⟨hcz93_0, hcz93_1, hcz93_2, hfz93_0, hfz93_1, hfz93_2⟩ := bx3 BK111.out) | (go_at_call 45;(with_reducible refine (impl_OccLess.calls k2 t101 t102 _ _ t103 t101 t102 _ _ t103 false _ ?side1 ?side2 ?side3 ?side4 A83.out).mono ?_);(case side1 => repeat (first | exact (Kd.V_reads' HO_112002.out).2.2 | (with_reducible refine Kd.C_alloc ?_ _) | (with_reducible refine Kd.C_drewN ?_ _) | (with_reducible refine Kd.C_drew ?_)));(case side2 => exact (Kd.V_reads' HO_112002.out).2.1);(case side3 => repeat (first | exact (Kd.V_reads' HO_112002.out).2.2 | (with_reducible refine Kd.C_alloc ?_ _) | (with_reducible refine Kd.C_drewN ?_ _) | (with_reducible refine Kd.C_drew ?_)));(case side4 => exact (Kd.V_reads' HO_112002.out).2.1);rintro e w94 ⟨rfl, hb⟩;replace HO_112002 := Aside0.mk (Kd.V_below (by exact HO_112002.out) hb);replace HO_113002 := Aside0.mk (Kd.V_below (by exact HO_113002.out) hb);replace HO_124002 := Aside0.mk (Kd.V_below (by exact HO_124002.out) hb);replace HO_125002 := Aside0.mk (Kd.V_below (by exact HO_125002.out) hb);replace BK111 := Aside0.mk (blk_below BK111.out hb);replace BK112 := Aside0.mk (blk_below BK112.out hb);replace BK123 := Aside0.mk (blk_below BK123.out hb);replace BK124 := Aside0.mk (blk_below BK124.out hb);replace HB := Aside0.mk (below_step (by exact HB.out) hb);(try clear hb);(try clear hb2);(try clear hk);(try clear hi);have hnb95 := NB124_123.out;have hnc95 := NB123_124.out;obtain ⟨hcz96_0, hcz96_1, hcz96_2, hfz96_0, hfz96_1, hfz96_2⟩ := bx3 BK124.out;obtain ⟨hcz97_0, hcz97_1, hcz97_2, hfz97_0, hfz97_1, hfz97_2⟩ := bx3 BK123.out))
          go_roundg k2
          case measure => have := HJ2.out;have := HK2.out;omega
          case rel => exact ⟨(wrap64 (x9_2 + 1)), (t118), (t119), (t120), (.slice Ao30 t120.length co30), (by first | rfl | (simp;done) | (simp [*];done)), H', ⟨by have := HJ2.out;have := HK2.out;omega⟩, ⟨by (with_reducible repeat (first | apply Kd.V_alloc | apply Kd.V_drewN | apply Kd.V_drew));exact Kd.V_mono (Kd.V_far (p := ⟨gb123, 2, none⟩) (Kd.V_far (p := ⟨gb123, 1, none⟩) (Kd.V_far (p := ⟨gb123, 0, none⟩) (Kd.V_mono HO_112002.out (fun k_ hk => (⟨hk, hk.2.2.1⟩ : _ ∧ k_ ≠ gb123))) (fun _ hk => hk.2) (.int .i64 t118)) (fun _ hk => hk.2) (.int .i64 t119)) (fun _ hk => hk.2) (.slice Ao30 t120.length co30)) (fun _ hk => ⟨hk.1.1, ⟨hk.1.2.1, ⟨hk.1.2.2.1, hk.1.2.2.2⟩⟩⟩)⟩, ⟨by (with_reducible repeat (first | apply Kd.V_alloc | apply Kd.V_drewN | apply Kd.V_drew));exact Kd.V_mono (Kd.V_far (p := ⟨gb123, 2, none⟩) (Kd.V_far (p := ⟨gb123, 1, none⟩) (Kd.V_far (p := ⟨gb123, 0, none⟩) (Kd.V_mono HO_113002.out (fun k_ hk => (⟨hk, hk.2.2.1⟩ : _ ∧ k_ ≠ gb123))) (fun _ hk => hk.2) (.int .i64 t118)) (fun _ hk => hk.2) (.int .i64 t119)) (fun _ hk => hk.2) (.slice Ao30 t120.length co30)) (fun _ hk => ⟨hk.1.1, ⟨hk.1.2.1, ⟨hk.1.2.2.1, hk.1.2.2.2⟩⟩⟩)⟩, ⟨by (with_reducible repeat (first | apply Kd.V_alloc | apply Kd.V_drewN | apply Kd.V_drew));exact Kd.V_mono (Kd.V_far (p := ⟨gb123, 2, none⟩) (Kd.V_far (p := ⟨gb123, 1, none⟩) (Kd.V_far (p := ⟨gb123, 0, none⟩) (Kd.V_mono HO_125002.out (fun k_ hk => (⟨hk, hk.2.2.1⟩ : _ ∧ k_ ≠ gb123))) (fun _ hk => hk.2) (.int .i64 t118)) (fun _ hk => hk.2) (.int .i64 t119)) (fun _ hk => hk.2) (.slice Ao30 t120.length co30)) (fun _ hk => ⟨hk.1.1, ⟨hk.1.2.1, ⟨hk.1.2.2.1, hk.1.2.2.2⟩⟩⟩)⟩, ⟨by (with_reducible repeat (first | apply Kd.V_alloc | apply Kd.V_drewN | apply Kd.V_drew));exact Kd.V_mono (Kd.V_far (p := ⟨gb123, 2, none⟩) (Kd.V_far (p := ⟨gb123, 1, none⟩) (Kd.V_far (p := ⟨gb123, 0, none⟩) (Kd.V_mono HO_125002.out (fun k_ hk => (⟨hk, hk.2.2.1⟩ : _ ∧ k_ ≠ gb123))) (fun _ hk => hk.2) (.int .i64 t118)) (fun _ hk => hk.2) (.int .i64 t119)) (fun _ hk => hk.2) (.slice Ao30 t120.length co30)) (fun _ hk => ⟨hk.1.1, ⟨hk.1.2.1, ⟨hk.1.2.2.1, hk.1.2.2.2⟩⟩⟩)⟩, ⟨by (with_reducible repeat (first | refine blk_drewN ?_ _ | refine blk_drew ?_ | refine blk_alloc ?_ _));refine blk_far ?_ NB111_123.out _;(with_reducible repeat (first | refine blk_drewN ?_ _ | refine blk_drew ?_ | refine blk_alloc ?_ _));refine blk_far ?_ NB111_123.out _;(with_reducible repeat (first | refine blk_drewN ?_ _ | refine blk_drew ?_ | refine blk_alloc ?_ _));refine blk_far ?_ NB111_123.out _;(with_reducible repeat (first | refine blk_drewN ?_ _ | refine blk_drew ?_ | refine blk_alloc ?_ _));exact BK111.out⟩, ⟨by (with_reducible repeat (first | refine blk_drewN ?_ _ | refine blk_drew ?_ | refine blk_alloc ?_ _));refine blk_far ?_ NB112_123.out _;(with_reducible repeat (first | refine blk_drewN ?_ _ | refine blk_drew ?_ | refine blk_alloc ?_ _));refine blk_far ?_ NB112_123.out _;(with_reducible repeat (first | refine blk_drewN ?_ _ | refine blk_drew ?_ | refine blk_alloc ?_ _));refine blk_far ?_ NB112_123.out _;(with_reducible repeat (first | refine blk_drewN ?_ _ | refine blk_drew ?_ | refine blk_alloc ?_ _));exact BK112.out⟩, ⟨by (with_reducible repeat (first | refine blk_drewN ?_ _ | refine blk_drew ?_ | refine blk_alloc ?_ _));refine blk_put (cs := #[.int .i64 t118, .int .i64 t119, u124002]) ?_ 2 _ rfl;(with_reducible repeat (first | refine blk_drewN ?_ _ | refine blk_drew ?_ | refine blk_alloc ?_ _));refine blk_put (cs := #[.int .i64 t118, .int .i64 x124001_2, u124002]) ?_ 1 _ rfl;(with_reducible repeat (first | refine blk_drewN ?_ _ | refine blk_drew ?_ | refine blk_alloc ?_ _));refine blk_put (cs := #[.int .i64 x124000_2, .int .i64 x124001_2, u124002]) ?_ 0 _ rfl;(with_reducible repeat (first | refine blk_drewN ?_ _ | refine blk_drew ?_ | refine blk_alloc ?_ _));exact BK123.out⟩, ⟨by (with_reducible repeat (first | refine blk_drewN ?_ _ | refine blk_drew ?_ | refine blk_alloc ?_ _));refine blk_far ?_ NB124_123.out _;(with_reducible repeat (first | refine blk_drewN ?_ _ | refine blk_drew ?_ | refine blk_alloc ?_ _));refine blk_far ?_ NB124_123.out _;(with_reducible repeat (first | refine blk_drewN ?_ _ | refine blk_drew ?_ | refine blk_alloc ?_ _));refine blk_far ?_ NB124_123.out _;(with_reducible repeat (first | refine blk_drewN ?_ _ | refine blk_drew ?_ | refine blk_alloc ?_ _));exact BK124.out⟩, ⟨by repeat (first | (with_reducible first | exact HB.out | apply below_alloc | apply pw_below_drewN | apply below_drew1 | refine below_set ?_ GE111.out | refine below_set ?_ GE112.out | refine below_set ?_ GE123.out | refine below_set ?_ GE124.out) | exact HB.out)⟩⟩
       ·rw [if_neg c35] at H
        have c35b0 : decide (x9_2 < 2) = false := decide_eq_false c35
        clear c35
        replace H := Option.bind_eq_some_iff.mp H
        obtain ⟨⟨t133, t136⟩, A980, H⟩ := H
        replace H : ((impl_OccsSame.f k2 t133 t136).bind fun t139 => ((spec_OccsSame.f k2 t133 t136).bind fun t140 => (if (t139 != t140) = true then (laws_FnOccOrder.j2 k2 t133 true) else ((impl_OccsOk.f k2 t133).bind fun t141 => ((spec_OccsOk.f k2 t133).bind fun t142 => (laws_FnOccOrder.j2 k2 t133 (t141 != t142))))))) = some r := H
        have A98 := Aside0.mk A980
        clear A980
        have HC99 := Aside0.mk H
        clear H
        go_upto_region 14 with (first | ((with_reducible refine gate_callee (f := 47) rfl ?_);refine goesL_ (some 64) rfl rfl Try.func47 (by kernel_rfl) rfl #[.slice A0 l0.length c0] rfl (by (try simp only [List.map_toArray, List.map_cons, List.map_nil]);first | done | rfl | (simp only [List.length_drop, List.length_take];rfl)) ?_;(with_reducible refine (spec_DrawOccsSame.calls k2 _ _ l0 t133 t136 _ ?side1 ?side2 A98.out).mono ?_);(case side1 => repeat (first | exact (Kd.C_below HR0.out HB.out) | (with_reducible refine Kd.C_alloc ?_ _) | (with_reducible refine Kd.C_drewN ?_ _) | (with_reducible refine Kd.C_drew ?_)));(case side2 => exact HC0.out);rintro e w100 ⟨v134, v137, rfl, ho0, ho1, hb⟩;refine ⟨_, rfl, ?_⟩;replace HO_112002 := Aside0.mk (Kd.V_mono (Kd.V_told (Kd.V_told (Kd.V_old (by exact HO_112002.out) hb) (Kd.N_base ho0)) (Kd.N_base ho1)) (fun _ h_ => h_.1));replace HO_113002 := Aside0.mk (Kd.V_mono (Kd.V_told (Kd.V_told (Kd.V_old (by exact HO_113002.out) hb) (Kd.N_base ho0)) (Kd.N_base ho1)) (fun _ h_ => h_.1));replace HO_124002 := Aside0.mk (Kd.V_mono (Kd.V_told (Kd.V_told (Kd.V_old (by exact HO_124002.out) hb) (Kd.N_base ho0)) (Kd.N_base ho1)) (fun _ h_ => h_.1));replace HO_125002 := Aside0.mk (Kd.V_mono (Kd.V_told (Kd.V_told (Kd.V_old (by exact HO_125002.out) hb) (Kd.N_base ho0)) (Kd.N_base ho1)) (fun _ h_ => h_.1));have HO135 := Aside0.mk (Kd.N_lower (Kd.N_mono (ok' := fun k_ => some k_ ≠ (v137 : Value).ownBlock ∧ k_ ≠ gb111 ∧ k_ ≠ gb112 ∧ k_ ≠ gb123 ∧ k_ ≠ gb124) ho0 (fun k_ hk_ => ⟨hk_.2, (Kd.freshB BK111.out k_ hk_.1), (Kd.freshB BK112.out k_ hk_.1), (Kd.freshB BK123.out k_ hk_.1), (Kd.freshB BK124.out k_ hk_.1)⟩)) (below_size (by exact HB.out)));have HO138 := Aside0.mk (Kd.N_lower (Kd.N_mono (ok' := fun k_ => some k_ ≠ (v134 : Value).ownBlock ∧ k_ ≠ gb111 ∧ k_ ≠ gb112 ∧ k_ ≠ gb123 ∧ k_ ≠ gb124) ho1 (fun k_ hk_ => ⟨hk_.2, (Kd.freshB BK111.out k_ hk_.1), (Kd.freshB BK112.out k_ hk_.1), (Kd.freshB BK123.out k_ hk_.1), (Kd.freshB BK124.out k_ hk_.1)⟩)) (below_size (by exact HB.out)));replace BK111 := Aside0.mk (blk_below BK111.out hb);replace BK112 := Aside0.mk (blk_below BK112.out hb);replace BK123 := Aside0.mk (blk_below BK123.out hb);replace BK124 := Aside0.mk (blk_below BK124.out hb);replace HB := Aside0.mk (below_step (by exact HB.out) hb);(try clear hb);(try clear hb2);(try clear hk);(try clear hi);(try clear ho0);(try clear ho1)))
        (try simp only [Act.put, List.setIfInBounds_toArray, List.set_cons_zero, List.set_cons_succ])
        go_cut [80] (fun v80 wc => ∃ (kq : Nat) (x80_98 : Bool), v80 = .bool x80_98 ∧ Aside0 (laws_FnOccOrder.j2 kq t133 x80_98 = some r) ∧ Aside0 (kq ≤ k2) ∧ Aside0 (Kd.N k27 27 wc w.heap.size (fun k_ => k_ ≠ gb111 ∧ k_ ≠ gb112 ∧ k_ ≠ gb123 ∧ k_ ≠ gb124) v134 t133) ∧ Aside0 (Kd.V (Kd.int .i64) 3 wc w.heap.size (fun k_ => some k_ ≠ (v134 : Value).ownBlock ∧ k_ ≠ gb111 ∧ k_ ≠ gb112 ∧ k_ ≠ gb123 ∧ k_ ≠ gb124) (.slice Ao16 t103.length co16) t103) ∧ Aside0 (Kd.V (Kd.int .i64) 3 wc w.heap.size (fun k_ => some k_ ≠ (v134 : Value).ownBlock ∧ k_ ≠ gb111 ∧ k_ ≠ gb112 ∧ k_ ≠ gb123 ∧ k_ ≠ gb124) (.slice Ao18 t108.length co18) t108) ∧ Aside0 (Kd.V (Kd.int .i64) 3 wc w.heap.size (fun k_ => some k_ ≠ (v134 : Value).ownBlock ∧ k_ ≠ gb111 ∧ k_ ≠ gb112 ∧ k_ ≠ gb123 ∧ k_ ≠ gb124) u124002 x124002_2) ∧ Aside0 (Kd.V (Kd.int .i64) 3 wc w.heap.size (fun k_ => some k_ ≠ (v134 : Value).ownBlock ∧ k_ ≠ gb111 ∧ k_ ≠ gb112 ∧ k_ ≠ gb123 ∧ k_ ≠ gb124) (.slice Ao30 t120.length co30) t120) ∧ Aside0 (wc.heap[gb111]? = some (.cells #[.int .i64 t101, .int .i64 t102, (.slice Ao16 t103.length co16)] 27 (0, 0))) ∧ Aside0 (wc.heap[gb112]? = some (.cells #[.int .i64 t106, .int .i64 t107, (.slice Ao18 t108.length co18)] 27 (0, 0))) ∧ Aside0 (wc.heap[gb123]? = some (.cells #[.int .i64 x124000_2, .int .i64 x124001_2, u124002] 27 (0, 0))) ∧ Aside0 (wc.heap[gb124]? = some (.cells #[.int .i64 t118, .int .i64 t119, (.slice Ao30 t120.length co30)] 27 (0, 0))) ∧ Aside0 (Below w.heap.size w wc))
        case first =>
         have H := HC99.out
         clear HC99
         replace H := Option.bind_eq_some_iff.mp H
         obtain ⟨t139, A1010, H⟩ := H
         replace H : ((spec_OccsSame.f k2 t133 t136).bind fun t140 => (if (t139 != t140) = true then (laws_FnOccOrder.j2 k2 t133 true) else ((impl_OccsOk.f k2 t133).bind fun t141 => ((spec_OccsOk.f k2 t133).bind fun t142 => (laws_FnOccOrder.j2 k2 t133 (t141 != t142)))))) = some r := H
         have A101 := Aside0.mk A1010
         clear A1010
         replace H := Option.bind_eq_some_iff.mp H
         obtain ⟨t140, A1020, H⟩ := H
         replace H : (if (t139 != t140) = true then (laws_FnOccOrder.j2 k2 t133 true) else ((impl_OccsOk.f k2 t133).bind fun t141 => ((spec_OccsOk.f k2 t133).bind fun t142 => (laws_FnOccOrder.j2 k2 t133 (t141 != t142))))) = some r := H
         have A102 := Aside0.mk A1020
         clear A1020
         by_cases c103 : (t139 != t140) = true
         ·rw [if_pos c103] at H
          have c103b0 : (t139 != t140) = true := c103
          (try (have c103b1 : decide (t139 = t140) = false := by simpa using c103))
          (try (have c103b2 : (t139 == t140) = false := by simpa using c103))
          (try (have c103b3 : ¬ (t139 = t140) := by simpa using c103))
          clear c103
          (first | rw [c103b0] | (simp only [i64_w, i32_w];rw [c103b0]) | skip)
          have H' := Aside0.mk H
          clear H
          obtain ⟨Ao104, co104, eo104⟩ := Kd.N_slice HO135.out
          subst eo104
          obtain ⟨Ao105, co105, eo105⟩ := Kd.N_slice HO138.out
          subst eo105
          go_wp2_with (first | ((with_reducible refine gate_callee (f := 26) rfl ?_);refine goesL_ (some 69) rfl rfl Try.func26 (by kernel_rfl) rfl #[.slice Ao104 t133.length co104, .slice Ao105 t136.length co105] rfl (by (try simp only [List.map_toArray, List.map_cons, List.map_nil]);first | done | rfl | (simp only [List.length_drop, List.length_take];rfl)) ?_;(with_reducible refine (impl_OccsSame.calls k2 _ _ t133 _ _ t136 t139 _ ?side1 ?side2 ?side3 ?side4 A101.out).mono ?_);(case side1 => repeat (first | exact (Kd.N_reads' HO135.out).2.2 | (with_reducible refine Kd.C_alloc ?_ _) | (with_reducible refine Kd.C_drewN ?_ _) | (with_reducible refine Kd.C_drew ?_)));(case side2 => exact (Kd.N_reads' HO135.out).2.1);(case side3 => repeat (first | exact (Kd.N_reads' HO138.out).2.2 | (with_reducible refine Kd.C_alloc ?_ _) | (with_reducible refine Kd.C_drewN ?_ _) | (with_reducible refine Kd.C_drew ?_)));(case side4 => exact (Kd.N_reads' HO138.out).2.1);rintro e w106 ⟨rfl, hb⟩;refine ⟨_, rfl, ?_⟩;replace HO_112002 := Aside0.mk (Kd.V_below (by exact HO_112002.out) hb);replace HO_113002 := Aside0.mk (Kd.V_below (by exact HO_113002.out) hb);replace HO_124002 := Aside0.mk (Kd.V_below (by exact HO_124002.out) hb);replace HO_125002 := Aside0.mk (Kd.V_below (by exact HO_125002.out) hb);replace HO135 := Aside0.mk (Kd.N_below (by exact HO135.out) hb);replace HO138 := Aside0.mk (Kd.N_below (by exact HO138.out) hb);replace BK111 := Aside0.mk (blk_below BK111.out hb);replace BK112 := Aside0.mk (blk_below BK112.out hb);replace BK123 := Aside0.mk (blk_below BK123.out hb);replace BK124 := Aside0.mk (blk_below BK124.out hb);replace HB := Aside0.mk (below_step (by exact HB.out) hb);(try clear hb);(try clear hb2);(try clear hk);(try clear hi)) | ((with_reducible refine gate_callee (f := 24) rfl ?_);refine goesL_ (some 72) rfl rfl Try.func24 (by kernel_rfl) rfl #[.slice Ao104 t133.length co104, .slice Ao105 t136.length co105] rfl (by (try simp only [List.map_toArray, List.map_cons, List.map_nil]);first | done | rfl | (simp only [List.length_drop, List.length_take];rfl)) ?_;(with_reducible refine (spec_OccsSame.calls k2 _ _ t133 _ _ t136 t140 _ ?side1 ?side2 ?side3 ?side4 A102.out).mono ?_);(case side1 => repeat (first | exact (Kd.N_reads' HO135.out).2.2 | (with_reducible refine Kd.C_alloc ?_ _) | (with_reducible refine Kd.C_drewN ?_ _) | (with_reducible refine Kd.C_drew ?_)));(case side2 => exact (Kd.N_reads' HO135.out).2.1);(case side3 => repeat (first | exact (Kd.N_reads' HO138.out).2.2 | (with_reducible refine Kd.C_alloc ?_ _) | (with_reducible refine Kd.C_drewN ?_ _) | (with_reducible refine Kd.C_drew ?_)));(case side4 => exact (Kd.N_reads' HO138.out).2.1);rintro e w107 ⟨rfl, hb⟩;refine ⟨_, rfl, ?_⟩;replace HO_112002 := Aside0.mk (Kd.V_below (by exact HO_112002.out) hb);replace HO_113002 := Aside0.mk (Kd.V_below (by exact HO_113002.out) hb);replace HO_124002 := Aside0.mk (Kd.V_below (by exact HO_124002.out) hb);replace HO_125002 := Aside0.mk (Kd.V_below (by exact HO_125002.out) hb);replace HO135 := Aside0.mk (Kd.N_below (by exact HO135.out) hb);replace HO138 := Aside0.mk (Kd.N_below (by exact HO138.out) hb);replace BK111 := Aside0.mk (blk_below BK111.out hb);replace BK112 := Aside0.mk (blk_below BK112.out hb);replace BK123 := Aside0.mk (blk_below BK123.out hb);replace BK124 := Aside0.mk (blk_below BK124.out hb);replace HB := Aside0.mk (below_step (by exact HB.out) hb);(try clear hb);(try clear hb2);(try clear hk);(try clear hi)))
          go_meet
          case rel => exact ⟨_, (true), (by first | rfl | (simp;done) | (simp [*];done)), H', ⟨by have := HJ2.out;have := HK2.out;first | omega | exact Nat.le_refl _⟩, ⟨by (with_reducible repeat (first | apply Kd.N_alloc | apply Kd.N_drewN | apply Kd.N_drew));exact Kd.N_mono HO135.out (fun _ hk => ⟨hk.2.1, ⟨hk.2.2.1, ⟨hk.2.2.2.1, hk.2.2.2.2⟩⟩⟩)⟩, ⟨by (with_reducible repeat (first | apply Kd.V_alloc | apply Kd.V_drewN | apply Kd.V_drew));exact Kd.V_mono HO_112002.out (fun _ hk => ⟨hk.1.2, ⟨hk.1.1.1, ⟨hk.1.1.2.1, ⟨hk.1.1.2.2.1, hk.1.1.2.2.2⟩⟩⟩⟩)⟩, ⟨by (with_reducible repeat (first | apply Kd.V_alloc | apply Kd.V_drewN | apply Kd.V_drew));exact Kd.V_mono HO_113002.out (fun _ hk => ⟨hk.1.2, ⟨hk.1.1.1, ⟨hk.1.1.2.1, ⟨hk.1.1.2.2.1, hk.1.1.2.2.2⟩⟩⟩⟩)⟩, ⟨by (with_reducible repeat (first | apply Kd.V_alloc | apply Kd.V_drewN | apply Kd.V_drew));exact Kd.V_mono HO_124002.out (fun _ hk => ⟨hk.1.2, ⟨hk.1.1.1, ⟨hk.1.1.2.1, ⟨hk.1.1.2.2.1, hk.1.1.2.2.2⟩⟩⟩⟩)⟩, ⟨by (with_reducible repeat (first | apply Kd.V_alloc | apply Kd.V_drewN | apply Kd.V_drew));exact Kd.V_mono HO_125002.out (fun _ hk => ⟨hk.1.2, ⟨hk.1.1.1, ⟨hk.1.1.2.1, ⟨hk.1.1.2.2.1, hk.1.1.2.2.2⟩⟩⟩⟩)⟩, ⟨by (with_reducible repeat (first | refine blk_drewN ?_ _ | refine blk_drew ?_ | refine blk_alloc ?_ _));exact BK111.out⟩, ⟨by (with_reducible repeat (first | refine blk_drewN ?_ _ | refine blk_drew ?_ | refine blk_alloc ?_ _));exact BK112.out⟩, ⟨by (with_reducible repeat (first | refine blk_drewN ?_ _ | refine blk_drew ?_ | refine blk_alloc ?_ _));exact BK123.out⟩, ⟨by (with_reducible repeat (first | refine blk_drewN ?_ _ | refine blk_drew ?_ | refine blk_alloc ?_ _));exact BK124.out⟩, ⟨by repeat (first | (with_reducible first | exact HB.out | apply below_alloc | apply pw_below_drewN | apply below_drew1 | refine below_set ?_ GE111.out | refine below_set ?_ GE112.out | refine below_set ?_ GE123.out | refine below_set ?_ GE124.out) | exact HB.out)⟩⟩
         ·rw [if_neg c103] at H
          have c103b0 : (t139 != t140) = false := by simpa using c103
          (try (have c103b1 : decide (t139 = t140) = true := by simpa using c103))
          (try (have c103b2 : (t139 == t140) = true := by simpa using c103))
          clear c103
          (first | rw [c103b0] | (simp only [i64_w, i32_w];rw [c103b0]) | skip)
          replace H := Option.bind_eq_some_iff.mp H
          obtain ⟨t141, A1080, H⟩ := H
          replace H : ((spec_OccsOk.f k2 t133).bind fun t142 => (laws_FnOccOrder.j2 k2 t133 (t141 != t142))) = some r := H
          have A108 := Aside0.mk A1080
          clear A1080
          replace H := Option.bind_eq_some_iff.mp H
          obtain ⟨t142, A1090, H⟩ := H
          replace H : (laws_FnOccOrder.j2 k2 t133 (t141 != t142)) = some r := H
          have A109 := Aside0.mk A1090
          clear A1090
          have H' := Aside0.mk H
          clear H
          obtain ⟨Ao110, co110, eo110⟩ := Kd.N_slice HO135.out
          subst eo110
          obtain ⟨Ao111, co111, eo111⟩ := Kd.N_slice HO138.out
          subst eo111
          go_wp2_with (first | ((with_reducible refine gate_callee (f := 26) rfl ?_);refine goesL_ (some 69) rfl rfl Try.func26 (by kernel_rfl) rfl #[.slice Ao110 t133.length co110, .slice Ao111 t136.length co111] rfl (by (try simp only [List.map_toArray, List.map_cons, List.map_nil]);first | done | rfl | (simp only [List.length_drop, List.length_take];rfl)) ?_;(with_reducible refine (impl_OccsSame.calls k2 _ _ t133 _ _ t136 t139 _ ?side1 ?side2 ?side3 ?side4 A101.out).mono ?_);(case side1 => repeat (first | exact (Kd.N_reads' HO135.out).2.2 | (with_reducible refine Kd.C_alloc ?_ _) | (with_reducible refine Kd.C_drewN ?_ _) | (with_reducible refine Kd.C_drew ?_)));(case side2 => exact (Kd.N_reads' HO135.out).2.1);(case side3 => repeat (first | exact (Kd.N_reads' HO138.out).2.2 | (with_reducible refine Kd.C_alloc ?_ _) | (with_reducible refine Kd.C_drewN ?_ _) | (with_reducible refine Kd.C_drew ?_)));(case side4 => exact (Kd.N_reads' HO138.out).2.1);rintro e w112 ⟨rfl, hb⟩;refine ⟨_, rfl, ?_⟩;replace HO_112002 := Aside0.mk (Kd.V_below (by exact HO_112002.out) hb);replace HO_113002 := Aside0.mk (Kd.V_below (by exact HO_113002.out) hb);replace HO_124002 := Aside0.mk (Kd.V_below (by exact HO_124002.out) hb);replace HO_125002 := Aside0.mk (Kd.V_below (by exact HO_125002.out) hb);replace HO135 := Aside0.mk (Kd.N_below (by exact HO135.out) hb);replace HO138 := Aside0.mk (Kd.N_below (by exact HO138.out) hb);replace BK111 := Aside0.mk (blk_below BK111.out hb);replace BK112 := Aside0.mk (blk_below BK112.out hb);replace BK123 := Aside0.mk (blk_below BK123.out hb);replace BK124 := Aside0.mk (blk_below BK124.out hb);replace HB := Aside0.mk (below_step (by exact HB.out) hb);(try clear hb);(try clear hb2);(try clear hk);(try clear hi)) | ((with_reducible refine gate_callee (f := 24) rfl ?_);refine goesL_ (some 72) rfl rfl Try.func24 (by kernel_rfl) rfl #[.slice Ao110 t133.length co110, .slice Ao111 t136.length co111] rfl (by (try simp only [List.map_toArray, List.map_cons, List.map_nil]);first | done | rfl | (simp only [List.length_drop, List.length_take];rfl)) ?_;(with_reducible refine (spec_OccsSame.calls k2 _ _ t133 _ _ t136 t140 _ ?side1 ?side2 ?side3 ?side4 A102.out).mono ?_);(case side1 => repeat (first | exact (Kd.N_reads' HO135.out).2.2 | (with_reducible refine Kd.C_alloc ?_ _) | (with_reducible refine Kd.C_drewN ?_ _) | (with_reducible refine Kd.C_drew ?_)));(case side2 => exact (Kd.N_reads' HO135.out).2.1);(case side3 => repeat (first | exact (Kd.N_reads' HO138.out).2.2 | (with_reducible refine Kd.C_alloc ?_ _) | (with_reducible refine Kd.C_drewN ?_ _) | (with_reducible refine Kd.C_drew ?_)));(case side4 => exact (Kd.N_reads' HO138.out).2.1);rintro e w113 ⟨rfl, hb⟩;refine ⟨_, rfl, ?_⟩;replace HO_112002 := Aside0.mk (Kd.V_below (by exact HO_112002.out) hb);replace HO_113002 := Aside0.mk (Kd.V_below (by exact HO_113002.out) hb);replace HO_124002 := Aside0.mk (Kd.V_below (by exact HO_124002.out) hb);replace HO_125002 := Aside0.mk (Kd.V_below (by exact HO_125002.out) hb);replace HO135 := Aside0.mk (Kd.N_below (by exact HO135.out) hb);replace HO138 := Aside0.mk (Kd.N_below (by exact HO138.out) hb);replace BK111 := Aside0.mk (blk_below BK111.out hb);replace BK112 := Aside0.mk (blk_below BK112.out hb);replace BK123 := Aside0.mk (blk_below BK123.out hb);replace BK124 := Aside0.mk (blk_below BK124.out hb);replace HB := Aside0.mk (below_step (by exact HB.out) hb);(try clear hb);(try clear hb2);(try clear hk);(try clear hi)) | (go_at_call 29;(with_reducible refine (impl_OccsOk.calls k2 _ _ t133 t141 _ ?side1 ?side2 A108.out).mono ?_);(case side1 => repeat (first | exact (Kd.N_reads' HO135.out).2.2 | (with_reducible refine Kd.C_alloc ?_ _) | (with_reducible refine Kd.C_drewN ?_ _) | (with_reducible refine Kd.C_drew ?_)));(case side2 => exact (Kd.N_reads' HO135.out).2.1);rintro e w114 ⟨rfl, hb⟩;replace HO_112002 := Aside0.mk (Kd.V_below (by exact HO_112002.out) hb);replace HO_113002 := Aside0.mk (Kd.V_below (by exact HO_113002.out) hb);replace HO_124002 := Aside0.mk (Kd.V_below (by exact HO_124002.out) hb);replace HO_125002 := Aside0.mk (Kd.V_below (by exact HO_125002.out) hb);replace HO135 := Aside0.mk (Kd.N_below (by exact HO135.out) hb);replace HO138 := Aside0.mk (Kd.N_below (by exact HO138.out) hb);replace BK111 := Aside0.mk (blk_below BK111.out hb);replace BK112 := Aside0.mk (blk_below BK112.out hb);replace BK123 := Aside0.mk (blk_below BK123.out hb);replace BK124 := Aside0.mk (blk_below BK124.out hb);replace HB := Aside0.mk (below_step (by exact HB.out) hb);(try clear hb);(try clear hb2);(try clear hk);(try clear hi)) | (go_at_call 28;(with_reducible refine (spec_OccsOk.calls k2 _ _ t133 t142 _ ?side1 ?side2 A109.out).mono ?_);(case side1 => repeat (first | exact (Kd.N_reads' HO135.out).2.2 | (with_reducible refine Kd.C_alloc ?_ _) | (with_reducible refine Kd.C_drewN ?_ _) | (with_reducible refine Kd.C_drew ?_)));(case side2 => exact (Kd.N_reads' HO135.out).2.1);rintro e w115 ⟨rfl, hb⟩;replace HO_112002 := Aside0.mk (Kd.V_below (by exact HO_112002.out) hb);replace HO_113002 := Aside0.mk (Kd.V_below (by exact HO_113002.out) hb);replace HO_124002 := Aside0.mk (Kd.V_below (by exact HO_124002.out) hb);replace HO_125002 := Aside0.mk (Kd.V_below (by exact HO_125002.out) hb);replace HO135 := Aside0.mk (Kd.N_below (by exact HO135.out) hb);replace HO138 := Aside0.mk (Kd.N_below (by exact HO138.out) hb);replace BK111 := Aside0.mk (blk_below BK111.out hb);replace BK112 := Aside0.mk (blk_below BK112.out hb);replace BK123 := Aside0.mk (blk_below BK123.out hb);replace BK124 := Aside0.mk (blk_below BK124.out hb);replace HB := Aside0.mk (below_step (by exact HB.out) hb);(try clear hb);(try clear hb2);(try clear hk);(try clear hi)))
          go_meet
          case rel => exact ⟨_, ((t141 != t142)), (by first | rfl | (simp;done) | (simp [*];done)), H', ⟨by have := HJ2.out;have := HK2.out;first | omega | exact Nat.le_refl _⟩, ⟨by (with_reducible repeat (first | apply Kd.N_alloc | apply Kd.N_drewN | apply Kd.N_drew));exact Kd.N_mono HO135.out (fun _ hk => ⟨hk.2.1, ⟨hk.2.2.1, ⟨hk.2.2.2.1, hk.2.2.2.2⟩⟩⟩)⟩, ⟨by (with_reducible repeat (first | apply Kd.V_alloc | apply Kd.V_drewN | apply Kd.V_drew));exact Kd.V_mono HO_112002.out (fun _ hk => ⟨hk.1.2, ⟨hk.1.1.1, ⟨hk.1.1.2.1, ⟨hk.1.1.2.2.1, hk.1.1.2.2.2⟩⟩⟩⟩)⟩, ⟨by (with_reducible repeat (first | apply Kd.V_alloc | apply Kd.V_drewN | apply Kd.V_drew));exact Kd.V_mono HO_113002.out (fun _ hk => ⟨hk.1.2, ⟨hk.1.1.1, ⟨hk.1.1.2.1, ⟨hk.1.1.2.2.1, hk.1.1.2.2.2⟩⟩⟩⟩)⟩, ⟨by (with_reducible repeat (first | apply Kd.V_alloc | apply Kd.V_drewN | apply Kd.V_drew));exact Kd.V_mono HO_124002.out (fun _ hk => ⟨hk.1.2, ⟨hk.1.1.1, ⟨hk.1.1.2.1, ⟨hk.1.1.2.2.1, hk.1.1.2.2.2⟩⟩⟩⟩)⟩, ⟨by (with_reducible repeat (first | apply Kd.V_alloc | apply Kd.V_drewN | apply Kd.V_drew));exact Kd.V_mono HO_125002.out (fun _ hk => ⟨hk.1.2, ⟨hk.1.1.1, ⟨hk.1.1.2.1, ⟨hk.1.1.2.2.1, hk.1.1.2.2.2⟩⟩⟩⟩)⟩, ⟨by (with_reducible repeat (first | refine blk_drewN ?_ _ | refine blk_drew ?_ | refine blk_alloc ?_ _));exact BK111.out⟩, ⟨by (with_reducible repeat (first | refine blk_drewN ?_ _ | refine blk_drew ?_ | refine blk_alloc ?_ _));exact BK112.out⟩, ⟨by (with_reducible repeat (first | refine blk_drewN ?_ _ | refine blk_drew ?_ | refine blk_alloc ?_ _));exact BK123.out⟩, ⟨by (with_reducible repeat (first | refine blk_drewN ?_ _ | refine blk_drew ?_ | refine blk_alloc ?_ _));exact BK124.out⟩, ⟨by repeat (first | (with_reducible first | exact HB.out | apply below_alloc | apply pw_below_drewN | apply below_drew1 | refine below_set ?_ GE111.out | refine below_set ?_ GE112.out | refine below_set ?_ GE123.out | refine below_set ?_ GE124.out) | exact HB.out)⟩⟩
        case rest =>
         clear HC99
         try clear c1
         try clear c2
         try clear p2
         try clear c3
         try clear c4
         try clear c4b0
         try clear c4b1
         try clear c5
         try clear c6
         try clear p6
         try clear c7
         try clear c8
         try clear c9
         try clear c10
         try clear c10b0
         try clear c10b1
         try clear c10b2
         try clear c14
         try clear c22
         try clear c23
         try clear c24
         try clear c26
         try clear c27
         try clear c28
         try clear c35
         try clear c35b0
         try clear c37
         try clear c39
         try clear c41
         try clear c43
         try clear c44
         try clear c45
         try clear c46
         try clear c47
         try clear c48
         try clear c49
         try clear c53
         try clear p64
         try clear c65
         try clear c66
         try clear c67
         try clear c68
         try clear c70
         try clear c71
         try clear c75
         try clear c84
         try clear c85
         try clear c86
         try clear c87
         try clear c89
         try clear c90
         try clear c95
         try clear c103
         try clear c103b0
         try clear c103b1
         try clear c103b2
         try clear hcz15_0
         try clear hcz15_1
         try clear hcz15_2
         try clear hcz17_0
         try clear hcz17_1
         try clear hcz17_2
         try clear hcz25_0
         try clear hcz25_1
         try clear hcz25_2
         try clear hcz29_0
         try clear hcz29_1
         try clear hcz29_2
         try clear hcz47_0
         try clear hcz47_1
         try clear hcz47_2
         try clear hcz50_0
         try clear hcz50_1
         try clear hcz50_2
         try clear hcz52_0
         try clear hcz52_1
         try clear hcz52_2
         try clear hcz54_0
         try clear hcz54_1
         try clear hcz54_2
         try clear hcz57_0
         try clear hcz57_1
         try clear hcz57_2
         try clear hcz58_0
         try clear hcz58_1
         try clear hcz58_2
         try clear hcz60_0
         try clear hcz60_1
         try clear hcz60_2
         try clear hcz62_0
         try clear hcz62_1
         try clear hcz62_2
         try clear hcz63_0
         try clear hcz63_1
         try clear hcz63_2
         try clear hcz69_0
         try clear hcz69_1
         try clear hcz69_2
         try clear hcz72_0
         try clear hcz72_1
         try clear hcz72_2
         try clear hcz74_0
         try clear hcz74_1
         try clear hcz74_2
         try clear hcz76_0
         try clear hcz76_1
         try clear hcz76_2
         try clear hcz79_0
         try clear hcz79_1
         try clear hcz79_2
         try clear hcz81_0
         try clear hcz81_1
         try clear hcz81_2
         try clear hcz82_0
         try clear hcz82_1
         try clear hcz82_2
         try clear hcz88_0
         try clear hcz88_1
         try clear hcz88_2
         try clear hcz91_0
         try clear hcz91_1
         try clear hcz91_2
         try clear hcz93_0
         try clear hcz93_1
         try clear hcz93_2
         try clear hcz96_0
         try clear hcz96_1
         try clear hcz96_2
         try clear hcz97_0
         try clear hcz97_1
         try clear hcz97_2
         try clear hfz15_0
         try clear hfz15_1
         try clear hfz15_2
         try clear hfz17_0
         try clear hfz17_1
         try clear hfz17_2
         try clear hfz25_0
         try clear hfz25_1
         try clear hfz25_2
         try clear hfz29_0
         try clear hfz29_1
         try clear hfz29_2
         try clear hfz47_0
         try clear hfz47_1
         try clear hfz47_2
         try clear hfz50_0
         try clear hfz50_1
         try clear hfz50_2
         try clear hfz52_0
         try clear hfz52_1
         try clear hfz52_2
         try clear hfz54_0
         try clear hfz54_1
         try clear hfz54_2
         try clear hfz57_0
         try clear hfz57_1
         try clear hfz57_2
         try clear hfz58_0
         try clear hfz58_1
         try clear hfz58_2
         try clear hfz60_0
         try clear hfz60_1
         try clear hfz60_2
         try clear hfz62_0
         try clear hfz62_1
         try clear hfz62_2
         try clear hfz63_0
         try clear hfz63_1
         try clear hfz63_2
         try clear hfz69_0
         try clear hfz69_1
         try clear hfz69_2
         try clear hfz72_0
         try clear hfz72_1
         try clear hfz72_2
         try clear hfz74_0
         try clear hfz74_1
         try clear hfz74_2
         try clear hfz76_0
         try clear hfz76_1
         try clear hfz76_2
         try clear hfz79_0
         try clear hfz79_1
         try clear hfz79_2
         try clear hfz81_0
         try clear hfz81_1
         try clear hfz81_2
         try clear hfz82_0
         try clear hfz82_1
         try clear hfz82_2
         try clear hfz88_0
         try clear hfz88_1
         try clear hfz88_2
         try clear hfz91_0
         try clear hfz91_1
         try clear hfz91_2
         try clear hfz93_0
         try clear hfz93_1
         try clear hfz93_2
         try clear hfz96_0
         try clear hfz96_1
         try clear hfz96_2
         try clear hfz97_0
         try clear hfz97_1
         try clear hfz97_2
         try clear p2
         obtain ⟨kq, x80_98, rfl, HA, HJ98, HO_10, HO_112002, HO_113002, HO_124002, HO_125002, BK111, BK112, BK123, BK124, HB⟩ := hcut
         cases kq with
         | zero => exact absurd HA.out (by simp [laws_FnOccOrder.j2])
         | succ kj98 =>
          have H := HA.out
          clear HA
          simp only [laws_FnOccOrder.j2] at H
          by_cases c116 : x80_98 = true
          ·subst c116
           have H1 : (some false) = some r := by rw [if_pos rfl] at H;exact H
           clear H
           have H := H1
           clear H1
           exact absurd (Option.some.inj H) (by rw [hT_.out];decide)
          ·replace c116 := Bool.eq_false_iff.mpr c116
           subst c116
           have H1 : (laws_FnOccOrder.l1 kj98 t133 1) = some r := by rw [if_neg (show ¬ (false = true) by decide)] at H;exact H
           clear H
           have H := H1
           clear H1
           have H' := Aside0.mk H
           clear H
           go_wp2
           go_loopg [12] kj98 (fun kq v12 w' => ∃ (x12_4 : Int), v12 = .int .i64 x12_4 ∧ Aside0 (laws_FnOccOrder.l1 kq t133 x12_4 = some r) ∧ Aside0 (kq ≤ kj98) ∧ Aside0 (Kd.N k27 27 w' w.heap.size (fun k_ => k_ ≠ gb111 ∧ k_ ≠ gb112 ∧ k_ ≠ gb123 ∧ k_ ≠ gb124) v134 t133) ∧ Aside0 (Kd.V (Kd.int .i64) 3 w' w.heap.size (fun k_ => some k_ ≠ (v134 : Value).ownBlock ∧ k_ ≠ gb111 ∧ k_ ≠ gb112 ∧ k_ ≠ gb123 ∧ k_ ≠ gb124) (.slice Ao16 t103.length co16) t103) ∧ Aside0 (Kd.V (Kd.int .i64) 3 w' w.heap.size (fun k_ => some k_ ≠ (v134 : Value).ownBlock ∧ k_ ≠ gb111 ∧ k_ ≠ gb112 ∧ k_ ≠ gb123 ∧ k_ ≠ gb124) (.slice Ao18 t108.length co18) t108) ∧ Aside0 (Kd.V (Kd.int .i64) 3 w' w.heap.size (fun k_ => some k_ ≠ (v134 : Value).ownBlock ∧ k_ ≠ gb111 ∧ k_ ≠ gb112 ∧ k_ ≠ gb123 ∧ k_ ≠ gb124) u124002 x124002_2) ∧ Aside0 (Kd.V (Kd.int .i64) 3 w' w.heap.size (fun k_ => some k_ ≠ (v134 : Value).ownBlock ∧ k_ ≠ gb111 ∧ k_ ≠ gb112 ∧ k_ ≠ gb123 ∧ k_ ≠ gb124) (.slice Ao30 t120.length co30) t120) ∧ Aside0 (w'.heap[gb111]? = some (.cells #[.int .i64 t101, .int .i64 t102, (.slice Ao16 t103.length co16)] 27 (0, 0))) ∧ Aside0 (w'.heap[gb112]? = some (.cells #[.int .i64 t106, .int .i64 t107, (.slice Ao18 t108.length co18)] 27 (0, 0))) ∧ Aside0 (w'.heap[gb123]? = some (.cells #[.int .i64 x124000_2, .int .i64 x124001_2, u124002] 27 (0, 0))) ∧ Aside0 (w'.heap[gb124]? = some (.cells #[.int .i64 t118, .int .i64 t119, (.slice Ao30 t120.length co30)] 27 (0, 0))) ∧ Aside0 (Below w.heap.size w w'))
           case atStart => exact ⟨(1), (by first | rfl | (simp;done) | (simp [*];done)), H', ⟨Nat.le_refl _⟩, ⟨by (with_reducible repeat (first | apply Kd.N_alloc | apply Kd.N_drewN | apply Kd.N_drew));exact HO_10.out⟩, ⟨by (with_reducible repeat (first | apply Kd.V_alloc | apply Kd.V_drewN | apply Kd.V_drew));exact HO_112002.out⟩, ⟨by (with_reducible repeat (first | apply Kd.V_alloc | apply Kd.V_drewN | apply Kd.V_drew));exact HO_113002.out⟩, ⟨by (with_reducible repeat (first | apply Kd.V_alloc | apply Kd.V_drewN | apply Kd.V_drew));exact HO_124002.out⟩, ⟨by (with_reducible repeat (first | apply Kd.V_alloc | apply Kd.V_drewN | apply Kd.V_drew));exact HO_125002.out⟩, ⟨by (with_reducible repeat (first | refine blk_drewN ?_ _ | refine blk_drew ?_ | refine blk_alloc ?_ _));exact BK111.out⟩, ⟨by (with_reducible repeat (first | refine blk_drewN ?_ _ | refine blk_drew ?_ | refine blk_alloc ?_ _));exact BK112.out⟩, ⟨by (with_reducible repeat (first | refine blk_drewN ?_ _ | refine blk_drew ?_ | refine blk_alloc ?_ _));exact BK123.out⟩, ⟨by (with_reducible repeat (first | refine blk_drewN ?_ _ | refine blk_drew ?_ | refine blk_alloc ?_ _));exact BK124.out⟩, ⟨by repeat (first | (with_reducible first | exact HB.out | apply below_alloc | apply pw_below_drewN | apply below_drew1 | refine below_set ?_ GE111.out | refine below_set ?_ GE112.out | refine below_set ?_ GE123.out | refine below_set ?_ GE124.out) | exact HB.out)⟩⟩
           case round =>
            clear H'
            try clear c1
            try clear c2
            try clear p2
            try clear c3
            try clear c4
            try clear c4b0
            try clear c4b1
            try clear c5
            try clear c6
            try clear p6
            try clear c7
            try clear c8
            try clear c9
            try clear c10
            try clear c10b0
            try clear c10b1
            try clear c10b2
            try clear c11
            try clear c14
            try clear c22
            try clear c23
            try clear c24
            try clear c26
            try clear c27
            try clear c28
            try clear c35
            try clear c35b0
            try clear c37
            try clear c39
            try clear c41
            try clear c43
            try clear c44
            try clear c45
            try clear c46
            try clear c47
            try clear c48
            try clear c49
            try clear c53
            try clear p64
            try clear c65
            try clear c66
            try clear c67
            try clear c68
            try clear c70
            try clear c71
            try clear c75
            try clear c84
            try clear c85
            try clear c86
            try clear c87
            try clear c89
            try clear c90
            try clear c95
            try clear c103
            try clear c103b0
            try clear c103b1
            try clear c103b2
            try clear c116
            try clear hcz15_0
            try clear hcz15_1
            try clear hcz15_2
            try clear hcz17_0
            try clear hcz17_1
            try clear hcz17_2
            try clear hcz25_0
            try clear hcz25_1
            try clear hcz25_2
            try clear hcz29_0
            try clear hcz29_1
            try clear hcz29_2
            try clear hcz47_0
            try clear hcz47_1
            try clear hcz47_2
            try clear hcz50_0
            try clear hcz50_1
            try clear hcz50_2
            try clear hcz52_0
            try clear hcz52_1
            try clear hcz52_2
            try clear hcz54_0
            try clear hcz54_1
            try clear hcz54_2
            try clear hcz57_0
            try clear hcz57_1
            try clear hcz57_2
            try clear hcz58_0
            try clear hcz58_1
            try clear hcz58_2
            try clear hcz60_0
            try clear hcz60_1
            try clear hcz60_2
            try clear hcz62_0
            try clear hcz62_1
            try clear hcz62_2
            try clear hcz63_0
            try clear hcz63_1
            try clear hcz63_2
            try clear hcz69_0
            try clear hcz69_1
            try clear hcz69_2
            try clear hcz72_0
            try clear hcz72_1
            try clear hcz72_2
            try clear hcz74_0
            try clear hcz74_1
            try clear hcz74_2
            try clear hcz76_0
            try clear hcz76_1
            try clear hcz76_2
            try clear hcz79_0
            try clear hcz79_1
            try clear hcz79_2
            try clear hcz81_0
            try clear hcz81_1
            try clear hcz81_2
            try clear hcz82_0
            try clear hcz82_1
            try clear hcz82_2
            try clear hcz88_0
            try clear hcz88_1
            try clear hcz88_2
            try clear hcz91_0
            try clear hcz91_1
            try clear hcz91_2
            try clear hcz93_0
            try clear hcz93_1
            try clear hcz93_2
            try clear hcz96_0
            try clear hcz96_1
            try clear hcz96_2
            try clear hcz97_0
            try clear hcz97_1
            try clear hcz97_2
            try clear hfz15_0
            try clear hfz15_1
            try clear hfz15_2
            try clear hfz17_0
            try clear hfz17_1
            try clear hfz17_2
            try clear hfz25_0
            try clear hfz25_1
            try clear hfz25_2
            try clear hfz29_0
            try clear hfz29_1
            try clear hfz29_2
            try clear hfz47_0
            try clear hfz47_1
            try clear hfz47_2
            try clear hfz50_0
            try clear hfz50_1
            try clear hfz50_2
            try clear hfz52_0
            try clear hfz52_1
            try clear hfz52_2
            try clear hfz54_0
            try clear hfz54_1
            try clear hfz54_2
            try clear hfz57_0
            try clear hfz57_1
            try clear hfz57_2
            try clear hfz58_0
            try clear hfz58_1
            try clear hfz58_2
            try clear hfz60_0
            try clear hfz60_1
            try clear hfz60_2
            try clear hfz62_0
            try clear hfz62_1
            try clear hfz62_2
            try clear hfz63_0
            try clear hfz63_1
            try clear hfz63_2
            try clear hfz69_0
            try clear hfz69_1
            try clear hfz69_2
            try clear hfz72_0
            try clear hfz72_1
            try clear hfz72_2
            try clear hfz74_0
            try clear hfz74_1
            try clear hfz74_2
            try clear hfz76_0
            try clear hfz76_1
            try clear hfz76_2
            try clear hfz79_0
            try clear hfz79_1
            try clear hfz79_2
            try clear hfz81_0
            try clear hfz81_1
            try clear hfz81_2
            try clear hfz82_0
            try clear hfz82_1
            try clear hfz82_2
            try clear hfz88_0
            try clear hfz88_1
            try clear hfz88_2
            try clear hfz91_0
            try clear hfz91_1
            try clear hfz91_2
            try clear hfz93_0
            try clear hfz93_1
            try clear hfz93_2
            try clear hfz96_0
            try clear hfz96_1
            try clear hfz96_2
            try clear hfz97_0
            try clear hfz97_1
            try clear hfz97_2
            try clear p2
            try clear p6
            try clear p64
            obtain ⟨x12_4, rfl, HA, HK4, HO_10, HO_112002, HO_113002, HO_124002, HO_125002, BK111, BK112, BK123, BK124, HB⟩ := hrel
            cases gk with
            | zero => exact absurd HA.out (by simp [laws_FnOccOrder.l1])
            | succ k4 =>
             have H := HA.out
             clear HA
             simp only [laws_FnOccOrder.l1] at H
             have HC117 := Aside0.mk H
             clear H
             go_upto_region 17 with (fail)
             go_cut [88] (fun v88 wc => ∃ (kq : Nat) (x88_116 : Bool), v88 = .bool x88_116 ∧ Aside0 (laws_FnOccOrder.j4 kq t133 x12_4 x88_116 = some r) ∧ Aside0 (kq ≤ k4) ∧ Aside0 (Kd.N k27 27 wc w.heap.size (fun k_ => k_ ≠ gb111 ∧ k_ ≠ gb112 ∧ k_ ≠ gb123 ∧ k_ ≠ gb124) v134 t133) ∧ Aside0 (Kd.V (Kd.int .i64) 3 wc w.heap.size (fun k_ => some k_ ≠ (v134 : Value).ownBlock ∧ k_ ≠ gb111 ∧ k_ ≠ gb112 ∧ k_ ≠ gb123 ∧ k_ ≠ gb124) (.slice Ao16 t103.length co16) t103) ∧ Aside0 (Kd.V (Kd.int .i64) 3 wc w.heap.size (fun k_ => some k_ ≠ (v134 : Value).ownBlock ∧ k_ ≠ gb111 ∧ k_ ≠ gb112 ∧ k_ ≠ gb123 ∧ k_ ≠ gb124) (.slice Ao18 t108.length co18) t108) ∧ Aside0 (Kd.V (Kd.int .i64) 3 wc w.heap.size (fun k_ => some k_ ≠ (v134 : Value).ownBlock ∧ k_ ≠ gb111 ∧ k_ ≠ gb112 ∧ k_ ≠ gb123 ∧ k_ ≠ gb124) u124002 x124002_2) ∧ Aside0 (Kd.V (Kd.int .i64) 3 wc w.heap.size (fun k_ => some k_ ≠ (v134 : Value).ownBlock ∧ k_ ≠ gb111 ∧ k_ ≠ gb112 ∧ k_ ≠ gb123 ∧ k_ ≠ gb124) (.slice Ao30 t120.length co30) t120) ∧ Aside0 (wc.heap[gb111]? = some (.cells #[.int .i64 t101, .int .i64 t102, (.slice Ao16 t103.length co16)] 27 (0, 0))) ∧ Aside0 (wc.heap[gb112]? = some (.cells #[.int .i64 t106, .int .i64 t107, (.slice Ao18 t108.length co18)] 27 (0, 0))) ∧ Aside0 (wc.heap[gb123]? = some (.cells #[.int .i64 x124000_2, .int .i64 x124001_2, u124002] 27 (0, 0))) ∧ Aside0 (wc.heap[gb124]? = some (.cells #[.int .i64 t118, .int .i64 t119, (.slice Ao30 t120.length co30)] 27 (0, 0))) ∧ Aside0 (Below w.heap.size w wc))
             case first =>
              have H := HC117.out
              clear HC117
              by_cases c118 : x12_4 < (t133.length : Int)
              ·rw [if_pos c118] at H
               have c118b0 : decide (x12_4 < (t133.length : Int)) = true := decide_eq_true c118
               clear c118
               (first | rw [c118b0] | (simp only [i64_w, i32_w];rw [c118b0]) | skip)
               replace H := Option.bind_eq_some_iff.mp H
               obtain ⟨t143, A1190, H⟩ := H
               replace H : (laws_FnOccOrder.j4 k4 t133 x12_4 t143) = some r := H
               have A119 := Aside0.mk A1190
               clear A1190
               have H' := Aside0.mk H
               clear H
               obtain ⟨Ao120, co120, eo120⟩ := Kd.N_slice HO_10.out
               subst eo120
               go_wp2_with (first | (go_at_call 28;(with_reducible refine (spec_OccsOk.calls k4 _ _ t133 t143 _ ?side1 ?side2 A119.out).mono ?_);(case side1 => repeat (first | exact (Kd.N_reads' HO_10.out).2.2 | (with_reducible refine Kd.C_alloc ?_ _) | (with_reducible refine Kd.C_drewN ?_ _) | (with_reducible refine Kd.C_drew ?_)));(case side2 => exact (Kd.N_reads' HO_10.out).2.1);rintro e w121 ⟨rfl, hb⟩;replace HO_10 := Aside0.mk (Kd.N_below (by exact HO_10.out) hb);replace HO_112002 := Aside0.mk (Kd.V_below (by exact HO_112002.out) hb);replace HO_113002 := Aside0.mk (Kd.V_below (by exact HO_113002.out) hb);replace HO_124002 := Aside0.mk (Kd.V_below (by exact HO_124002.out) hb);replace HO_125002 := Aside0.mk (Kd.V_below (by exact HO_125002.out) hb);replace BK111 := Aside0.mk (blk_below BK111.out hb);replace BK112 := Aside0.mk (blk_below BK112.out hb);replace BK123 := Aside0.mk (blk_below BK123.out hb);replace BK124 := Aside0.mk (blk_below BK124.out hb);replace HB := Aside0.mk (below_step (by exact HB.out) hb);(try clear hb);(try clear hb2);(try clear hk);(try clear hi)))
               go_meet
               case rel => exact ⟨_, (t143), (by first | rfl | (simp;done) | (simp [*];done)), H', ⟨by have := HJ2.out;have := HK2.out;have := HJ98.out;have := HK4.out;first | omega | exact Nat.le_refl _⟩, ⟨by (with_reducible repeat (first | apply Kd.N_alloc | apply Kd.N_drewN | apply Kd.N_drew));exact HO_10.out⟩, ⟨by (with_reducible repeat (first | apply Kd.V_alloc | apply Kd.V_drewN | apply Kd.V_drew));exact HO_112002.out⟩, ⟨by (with_reducible repeat (first | apply Kd.V_alloc | apply Kd.V_drewN | apply Kd.V_drew));exact HO_113002.out⟩, ⟨by (with_reducible repeat (first | apply Kd.V_alloc | apply Kd.V_drewN | apply Kd.V_drew));exact HO_124002.out⟩, ⟨by (with_reducible repeat (first | apply Kd.V_alloc | apply Kd.V_drewN | apply Kd.V_drew));exact HO_125002.out⟩, ⟨by (with_reducible repeat (first | refine blk_drewN ?_ _ | refine blk_drew ?_ | refine blk_alloc ?_ _));exact BK111.out⟩, ⟨by (with_reducible repeat (first | refine blk_drewN ?_ _ | refine blk_drew ?_ | refine blk_alloc ?_ _));exact BK112.out⟩, ⟨by (with_reducible repeat (first | refine blk_drewN ?_ _ | refine blk_drew ?_ | refine blk_alloc ?_ _));exact BK123.out⟩, ⟨by (with_reducible repeat (first | refine blk_drewN ?_ _ | refine blk_drew ?_ | refine blk_alloc ?_ _));exact BK124.out⟩, ⟨by repeat (first | (with_reducible first | exact HB.out | apply below_alloc | apply pw_below_drewN | apply below_drew1 | refine below_set ?_ GE111.out | refine below_set ?_ GE112.out | refine below_set ?_ GE123.out | refine below_set ?_ GE124.out) | exact HB.out)⟩⟩
              ·rw [if_neg c118] at H
               have c118b0 : decide (x12_4 < (t133.length : Int)) = false := decide_eq_false c118
               clear c118
               (first | rw [c118b0] | (simp only [i64_w, i32_w];rw [c118b0]) | skip)
               have H' := Aside0.mk H
               clear H
               obtain ⟨Ao122, co122, eo122⟩ := Kd.N_slice HO_10.out
               subst eo122
               go_wp2
               go_meet
               case rel => exact ⟨_, (false), (by first | rfl | (simp;done) | (simp [*];done)), H', ⟨by have := HJ2.out;have := HK2.out;have := HJ98.out;have := HK4.out;first | omega | exact Nat.le_refl _⟩, ⟨by (with_reducible repeat (first | apply Kd.N_alloc | apply Kd.N_drewN | apply Kd.N_drew));exact HO_10.out⟩, ⟨by (with_reducible repeat (first | apply Kd.V_alloc | apply Kd.V_drewN | apply Kd.V_drew));exact HO_112002.out⟩, ⟨by (with_reducible repeat (first | apply Kd.V_alloc | apply Kd.V_drewN | apply Kd.V_drew));exact HO_113002.out⟩, ⟨by (with_reducible repeat (first | apply Kd.V_alloc | apply Kd.V_drewN | apply Kd.V_drew));exact HO_124002.out⟩, ⟨by (with_reducible repeat (first | apply Kd.V_alloc | apply Kd.V_drewN | apply Kd.V_drew));exact HO_125002.out⟩, ⟨by (with_reducible repeat (first | refine blk_drewN ?_ _ | refine blk_drew ?_ | refine blk_alloc ?_ _));exact BK111.out⟩, ⟨by (with_reducible repeat (first | refine blk_drewN ?_ _ | refine blk_drew ?_ | refine blk_alloc ?_ _));exact BK112.out⟩, ⟨by (with_reducible repeat (first | refine blk_drewN ?_ _ | refine blk_drew ?_ | refine blk_alloc ?_ _));exact BK123.out⟩, ⟨by (with_reducible repeat (first | refine blk_drewN ?_ _ | refine blk_drew ?_ | refine blk_alloc ?_ _));exact BK124.out⟩, ⟨by repeat (first | (with_reducible first | exact HB.out | apply below_alloc | apply pw_below_drewN | apply below_drew1 | refine below_set ?_ GE111.out | refine below_set ?_ GE112.out | refine below_set ?_ GE123.out | refine below_set ?_ GE124.out) | exact HB.out)⟩⟩
             case rest =>
              clear HC117
              try clear c1
              try clear c2
              try clear p2
              try clear c3
              try clear c4
              try clear c4b0
              try clear c4b1
              try clear c5
              try clear c6
              try clear p6
              try clear c7
              try clear c8
              try clear c9
              try clear c10
              try clear c10b0
              try clear c10b1
              try clear c10b2
              try clear c11
              try clear c14
              try clear c22
              try clear c23
              try clear c24
              try clear c26
              try clear c27
              try clear c28
              try clear c35
              try clear c35b0
              try clear c37
              try clear c39
              try clear c41
              try clear c43
              try clear c44
              try clear c45
              try clear c46
              try clear c47
              try clear c48
              try clear c49
              try clear c53
              try clear p64
              try clear c65
              try clear c66
              try clear c67
              try clear c68
              try clear c70
              try clear c71
              try clear c75
              try clear c84
              try clear c85
              try clear c86
              try clear c87
              try clear c89
              try clear c90
              try clear c95
              try clear c103
              try clear c103b0
              try clear c103b1
              try clear c103b2
              try clear c116
              try clear c118
              try clear c118b0
              try clear hcz15_0
              try clear hcz15_1
              try clear hcz15_2
              try clear hcz17_0
              try clear hcz17_1
              try clear hcz17_2
              try clear hcz25_0
              try clear hcz25_1
              try clear hcz25_2
              try clear hcz29_0
              try clear hcz29_1
              try clear hcz29_2
              try clear hcz47_0
              try clear hcz47_1
              try clear hcz47_2
              try clear hcz50_0
              try clear hcz50_1
              try clear hcz50_2
              try clear hcz52_0
              try clear hcz52_1
              try clear hcz52_2
              try clear hcz54_0
              try clear hcz54_1
              try clear hcz54_2
              try clear hcz57_0
              try clear hcz57_1
              try clear hcz57_2
              try clear hcz58_0
              try clear hcz58_1
              try clear hcz58_2
              try clear hcz60_0
              try clear hcz60_1
              try clear hcz60_2
              try clear hcz62_0
              try clear hcz62_1
              try clear hcz62_2
              try clear hcz63_0
              try clear hcz63_1
              try clear hcz63_2
              try clear hcz69_0
              try clear hcz69_1
              try clear hcz69_2
              try clear hcz72_0
              try clear hcz72_1
              try clear hcz72_2
              try clear hcz74_0
              try clear hcz74_1
              try clear hcz74_2
              try clear hcz76_0
              try clear hcz76_1
              try clear hcz76_2
              try clear hcz79_0
              try clear hcz79_1
              try clear hcz79_2
              try clear hcz81_0
              try clear hcz81_1
              try clear hcz81_2
              try clear hcz82_0
              try clear hcz82_1
              try clear hcz82_2
              try clear hcz88_0
              try clear hcz88_1
              try clear hcz88_2
              try clear hcz91_0
              try clear hcz91_1
              try clear hcz91_2
              try clear hcz93_0
              try clear hcz93_1
              try clear hcz93_2
              try clear hcz96_0
              try clear hcz96_1
              try clear hcz96_2
              try clear hcz97_0
              try clear hcz97_1
              try clear hcz97_2
              try clear hfz15_0
              try clear hfz15_1
              try clear hfz15_2
              try clear hfz17_0
              try clear hfz17_1
              try clear hfz17_2
              try clear hfz25_0
              try clear hfz25_1
              try clear hfz25_2
              try clear hfz29_0
              try clear hfz29_1
              try clear hfz29_2
              try clear hfz47_0
              try clear hfz47_1
              try clear hfz47_2
              try clear hfz50_0
              try clear hfz50_1
              try clear hfz50_2
              try clear hfz52_0
              try clear hfz52_1
              try clear hfz52_2
              try clear hfz54_0
              try clear hfz54_1
              try clear hfz54_2
              try clear hfz57_0
              try clear hfz57_1
              try clear hfz57_2
              try clear hfz58_0
              try clear hfz58_1
              try clear hfz58_2
              try clear hfz60_0
              try clear hfz60_1
              try clear hfz60_2
              try clear hfz62_0
              try clear hfz62_1
              try clear hfz62_2
              try clear hfz63_0
              try clear hfz63_1
              try clear hfz63_2
              try clear hfz69_0
              try clear hfz69_1
              try clear hfz69_2
              try clear hfz72_0
              try clear hfz72_1
              try clear hfz72_2
              try clear hfz74_0
              try clear hfz74_1
              try clear hfz74_2
              try clear hfz76_0
              try clear hfz76_1
              try clear hfz76_2
              try clear hfz79_0
              try clear hfz79_1
              try clear hfz79_2
              try clear hfz81_0
              try clear hfz81_1
              try clear hfz81_2
              try clear hfz82_0
              try clear hfz82_1
              try clear hfz82_2
              try clear hfz88_0
              try clear hfz88_1
              try clear hfz88_2
              try clear hfz91_0
              try clear hfz91_1
              try clear hfz91_2
              try clear hfz93_0
              try clear hfz93_1
              try clear hfz93_2
              try clear hfz96_0
              try clear hfz96_1
              try clear hfz96_2
              try clear hfz97_0
              try clear hfz97_1
              try clear hfz97_2
              try clear p2
              try clear p6
              try clear p64
              obtain ⟨kq, x88_116, rfl, HA, HJ116, HO_10, HO_112002, HO_113002, HO_124002, HO_125002, BK111, BK112, BK123, BK124, HB⟩ := hcut
              cases kq with
              | zero => exact absurd HA.out (by simp [laws_FnOccOrder.j4])
              | succ kj116 =>
               have H := HA.out
               clear HA
               simp only [laws_FnOccOrder.j4] at H
               by_cases c123 : x88_116 = true
               ·subst c123
                have H1 : (if 0 < (t133.length : Int) then (if 0 ≤ x12_4 then (if x12_4 < (t133.length : Int) then ((impl_OccLess.f kj116 ((rd_T27 t133 0).f0) ((rd_T27 t133 0).f1) ((rd_T27 t133 0).f2) ((rd_T27 t133 x12_4).f0) ((rd_T27 t133 x12_4).f1) ((rd_T27 t133 x12_4).f2)).bind fun t146 => (if t146 = true then (laws_FnOccOrder.l1 kj116 t133 (wrap64 (x12_4 + 1))) else (some false))) else (none)) else (none)) else (none)) = some r := by rw [if_pos rfl] at H;exact H
                clear H
                have H := H1
                clear H1
                by_cases c124 : 0 < (t133.length : Int)
                ·rw [if_pos c124] at H
                 have c124b0 : decide (0 < (t133.length : Int)) = true := decide_eq_true c124
                 have c124b1 : decide (0 < t133.length) = true := decide_eq_true (by omega)
                 clear c124
                 by_cases c125 : 0 ≤ x12_4
                 ·rw [if_pos c125] at H
                  have c125b0 : decide (0 ≤ x12_4) = true := decide_eq_true c125
                  clear c125
                  by_cases c126 : x12_4 < (t133.length : Int)
                  ·rw [if_pos c126] at H
                   have c126b0 : decide (x12_4 < (t133.length : Int)) = true := decide_eq_true c126
                   clear c126
                   replace H := Option.bind_eq_some_iff.mp H
                   obtain ⟨t146, A1270, H⟩ := H
                   replace H : (if t146 = true then (laws_FnOccOrder.l1 kj116 t133 (wrap64 (x12_4 + 1))) else (some false)) = some r := H
                   have A127 := Aside0.mk A1270
                   clear A1270
                   by_cases c128 : t146 = true
                   ·subst c128
                    have H1 : (laws_FnOccOrder.l1 kj116 t133 (wrap64 (x12_4 + 1))) = some r := by rw [if_pos rfl] at H;exact H
                    clear H
                    have H := H1
                    clear H1
                    have H' := Aside0.mk H
                    clear H
                    try go_wp2
                    replace HO_10 := Aside0.mk (Kd.N_drew HO_10.out)
                    replace HO_112002 := Aside0.mk (Kd.V_drew HO_112002.out)
                    replace HO_113002 := Aside0.mk (Kd.V_drew HO_113002.out)
                    replace HO_124002 := Aside0.mk (Kd.V_drew HO_124002.out)
                    replace HO_125002 := Aside0.mk (Kd.V_drew HO_125002.out)
                    replace BK111 := Aside0.mk (blk_drew BK111.out)
                    replace BK112 := Aside0.mk (blk_drew BK112.out)
                    replace BK123 := Aside0.mk (blk_drew BK123.out)
                    replace BK124 := Aside0.mk (blk_drew BK124.out)
                    replace HB := Aside0.mk (below_drew1 HB.out)
                    obtain ⟨Ao130, co130, eo130⟩ := Kd.N_slice HO_10.out
                    (first | subst eo130 | (injection eo130 with f1_ f2_ f3_;have f4_ := f1_.symm;have f5_ := f3_.symm;clear f1_ f2_ f3_;subst f4_;subst f5_))
                    have p144 : 0 ≤ (0 : Int) := (by omega)
                    have q144 : 0 < (t133.length : Int) := of_decide_eq_true (by first | (with_reducible assumption) | assumption)
                    obtain ⟨ad144, A144_2, c144_2, e144, hx144_0, hx144_1, hx144_2, hl144_2, hi144_2⟩ := at_T27 (Kd.N_reads' HO_10.out).2.2 0 p144 q144
                    cases e144
                    obtain ⟨ce144, hce144, hMe144, hcc144⟩ := Kd.N_get HO_10.out z27 0 p144 (by first | exact q144 | exact of_decide_eq_true (by first | (with_reducible assumption) | assumption) | (have e_ := (Kd.N_reads' HO_10.out).1;omega))
                    obtain ⟨ua144_2, uc144_2, rfl, ul144_2, ge144_2⟩ := k27_openF hMe144
                    have hv144_2 := hcc144 2 _ rfl
                    rw [add_field _ _ 2 (by omega)] at hv144_2
                    replace hv144_2 := Option.some.inj (hv144_2.symm.trans hx144_2)
                    injection hv144_2 with hva_ hvn_ hvc_
                    rw [hva_] at ge144_2
                    rw [hvc_] at ul144_2
                    have HL144_2 := Aside0.mk (show Kd.V (Kd.int .i64) 3 _ w.heap.size _ _ ((rd_T27 t133 0).f2) from Kd.V_mk ul144_2 ge144_2)
                    clear hva_ hvn_ hvc_ ge144_2 ul144_2
                    clear hcc144 hce144
                    have qi144 : (0 < t133.length) = True := eq_true (by omega)
                    (try rw [show ((0 : Int)).toNat = 0 from rfl] at hx144_0)
                    (try rw [show 0 * 3 = 0 from rfl] at hx144_0)
                    (try rw [Addr.add_zero'] at hx144_0)
                    (try rw [show ((0 : Int)).toNat = 0 from rfl] at hx144_1)
                    (try rw [show 0 * 3 = 0 from rfl] at hx144_1)
                    (try rw [Addr.add_zero'] at hx144_1)
                    (try rw [show ((0 : Int)).toNat = 0 from rfl] at hx144_2)
                    (try rw [show 0 * 3 = 0 from rfl] at hx144_2)
                    (try rw [Addr.add_zero'] at hx144_2)
                    have HR144_2 := Aside0.mk hi144_2
                    have HC144_2 := Aside0.mk hl144_2
                    clear hi144_2 hl144_2
                    replace p144 := eq_true p144
                    replace q144 := eq_true q144
                    have p145 : 0 ≤ (x12_4 : Int) := of_decide_eq_true (by first | (with_reducible assumption) | assumption)
                    have q145 : x12_4 < (t133.length : Int) := of_decide_eq_true (by first | (with_reducible assumption) | assumption)
                    obtain ⟨ad145, A145_2, c145_2, e145, hx145_0, hx145_1, hx145_2, hl145_2, hi145_2⟩ := at_T27 (Kd.N_reads' HO_10.out).2.2 x12_4 p145 q145
                    obtain rfl : ad144 = ad145 := (by injection e145)
                    obtain ⟨ce145, hce145, hMe145, hcc145⟩ := Kd.N_get HO_10.out z27 x12_4 p145 (by first | exact q145 | exact of_decide_eq_true (by first | (with_reducible assumption) | assumption) | (have e_ := (Kd.N_reads' HO_10.out).1;omega))
                    obtain ⟨ua145_2, uc145_2, rfl, ul145_2, ge145_2⟩ := k27_openF hMe145
                    have hv145_2 := hcc145 2 _ rfl
                    rw [add_field _ _ 2 (by omega)] at hv145_2
                    replace hv145_2 := Option.some.inj (hv145_2.symm.trans hx145_2)
                    injection hv145_2 with hva_ hvn_ hvc_
                    rw [hva_] at ge145_2
                    rw [hvc_] at ul145_2
                    have HL145_2 := Aside0.mk (show Kd.V (Kd.int .i64) 3 _ w.heap.size _ _ ((rd_T27 t133 x12_4).f2) from Kd.V_mk ul145_2 ge145_2)
                    clear hva_ hvn_ hvc_ ge145_2 ul145_2
                    clear hcc145 hce145
                    have HR145_2 := Aside0.mk hi145_2
                    have HC145_2 := Aside0.mk hl145_2
                    clear hi145_2 hl145_2
                    replace p145 := eq_true p145
                    replace q145 := eq_true q145
                    refine start_ (n := 9) (S := fun w' => w'.cell? ad144 = some (.int .i64 ((rd_T27 t133 0).f0)) ∧ w'.cell? ⟨ad144.block, ad144.off + 1, none⟩ = some (.int .i64 ((rd_T27 t133 0).f1)) ∧ w'.cell? ⟨ad144.block, ad144.off + 2, none⟩ = some (.slice A144_2 ((rd_T27 t133 0).f2).length c144_2) ∧ w'.cell? (ad144.add ((x12_4).toNat * 3)) = some (.int .i64 ((rd_T27 t133 x12_4).f0)) ∧ w'.cell? ⟨(ad144.add ((x12_4).toNat * 3)).block, (ad144.add ((x12_4).toNat * 3)).off + 1, none⟩ = some (.int .i64 ((rd_T27 t133 x12_4).f1)) ∧ w'.cell? ⟨(ad144.add ((x12_4).toNat * 3)).block, (ad144.add ((x12_4).toNat * 3)).off + 2, none⟩ = some (.slice A145_2 ((rd_T27 t133 x12_4).f2).length c145_2)) (ds := []) #[false, false, false, false, false, false, false, false, false] (by kernel_rfl) rfl rfl ⟨hx144_0, hx144_1, hx144_2, hx145_0, hx145_1, hx145_2⟩ (fun hHeld => ?_);refine with_tabW laws_FnOccOrder.tab19 laws_FnOccOrder.bits19 (fun HT_ HW_ => ?_)
                    generalize wc.drew = w129 at HO_10 HO_112002 HO_113002 HO_124002 HO_125002 BK111 BK112 BK123 BK124 HB HL144_2 HL145_2 HR144_2 HR145_2 hx144_0 hx144_1 hx144_2 hx145_0 hx145_1 hx145_2 hHeld ⊢
                    refine pv_ 0 91 #[true, false, false, false, false, false, false, false, false] (any_of HT_.out (by kernel_rfl)) ?_
                    refine pv_ 1 92 #[true, true, false, false, false, false, false, false, false] (any_of HT_.out (by kernel_rfl)) ?_
                    refine pv_ 3 94 #[true, true, false, true, false, false, false, false, false] (any_of HT_.out (by kernel_rfl)) ?_
                    refine pv_ 4 95 #[true, true, false, true, true, false, false, false, false] (any_of HT_.out (by kernel_rfl)) ?_
                    refine pv_ 5 96 #[true, true, false, true, true, true, false, false, false] (any_of HT_.out (by kernel_rfl)) ?_
                    refine take_ (i := 2) (N := some 93) (v := ?_) (a' := ?_) #[true, true, true, true, true, true, false, false, false] rfl rfl (take_ofW HT_.out HW_.out (by kernel_rfl)) (fun _ _ _ h => h) (Or.inl ⟨by rfl, ?_⟩) hHeld ?_ ?_
                    rotate_left
                    ·rintro w' ⟨s0, s1, s2, s3, s4, s5⟩
                     go_simp
                     with_reducible rfl
                    rotate_left
                    ·simp only [Act.put, List.setIfInBounds_toArray, List.set_cons_zero, List.set_cons_succ, i64_w, i32_w]
                     rfl
                    refine take_ (i := 6) (N := some 97) (v := ?_) (a' := ?_) #[true, true, true, true, true, true, true, false, false] rfl rfl (take_ofW HT_.out HW_.out (by kernel_rfl)) (fun _ _ _ h => h) (Or.inl ⟨by rfl, ?_⟩) hHeld ?_ ?_
                    rotate_left
                    ·rintro w' ⟨s0, s1, s2, s3, s4, s5⟩
                     go_simp
                     with_reducible rfl
                    rotate_left
                    ·simp only [Act.put, List.setIfInBounds_toArray, List.set_cons_zero, List.set_cons_succ, i64_w, i32_w]
                     rfl
                    refine one_ (i := 7) (N := some 98) #[true, true, true, true, true, true, true, true, false] rfl rfl (one_of HT_.out (by kernel_rfl)) (by decide) (fun K hK => ?_)
                    refine goes_ Try.func45 (by kernel_rfl) rfl #[.agg #[.int .i64 ((rd_T27 t133 0).f0), .int .i64 ((rd_T27 t133 0).f1), .slice A144_2 ((rd_T27 t133 0).f2).length c144_2], .agg #[.int .i64 ((rd_T27 t133 x12_4).f0), .int .i64 ((rd_T27 t133 x12_4).f1), .slice A145_2 ((rd_T27 t133 x12_4).f2).length c145_2]] (by rfl) rfl rfl (by (try simp only [List.map_toArray, List.map_cons, List.map_nil]);first | done | rfl | (simp only [List.length_drop, List.length_take];rfl)) ?_
                    with_reducible refine (impl_OccLess.calls kj116 ((rd_T27 t133 0).f0) ((rd_T27 t133 0).f1) _ _ ((rd_T27 t133 0).f2) ((rd_T27 t133 x12_4).f0) ((rd_T27 t133 x12_4).f1) _ _ ((rd_T27 t133 x12_4).f2) true _ ?side1 ?side2 ?side3 ?side4 A127.out).mono ?_
                    (case side1 => repeat (first | exact (by repeat (first | (with_reducible exact HR144_2.out) | (with_reducible refine Kd.C_alloc ?_ _) | (with_reducible refine Kd.C_drewN ?_ _) | (with_reducible refine Kd.C_drew ?_) | exact HR144_2.out)) | (with_reducible refine Kd.C_alloc ?_ _) | (with_reducible refine Kd.C_drewN ?_ _) | (with_reducible refine Kd.C_drew ?_)))
                    (case side2 => exact HC144_2.out)
                    (case side3 => repeat (first | exact (by repeat (first | (with_reducible exact HR145_2.out) | (with_reducible refine Kd.C_alloc ?_ _) | (with_reducible refine Kd.C_drewN ?_ _) | (with_reducible refine Kd.C_drew ?_) | exact HR145_2.out)) | (with_reducible refine Kd.C_alloc ?_ _) | (with_reducible refine Kd.C_drewN ?_ _) | (with_reducible refine Kd.C_drew ?_)))
                    (case side4 => exact HC145_2.out)
                    rintro e w131 ⟨rfl, hb⟩
                    have HS0_ := (hb.cell (World.block_lt_of_cell? _ _ (hHeld.1))).trans (hHeld.1)
                    have HS1_ := (hb.cell (World.block_lt_of_cell? _ _ (hHeld.2.1))).trans (hHeld.2.1)
                    have HS2_ := (hb.cell (World.block_lt_of_cell? _ _ (hHeld.2.2.1))).trans (hHeld.2.2.1)
                    have HS3_ := (hb.cell (World.block_lt_of_cell? _ _ (hHeld.2.2.2.1))).trans (hHeld.2.2.2.1)
                    have HS4_ := (hb.cell (World.block_lt_of_cell? _ _ (hHeld.2.2.2.2.1))).trans (hHeld.2.2.2.2.1)
                    have HS5_ := (hb.cell (World.block_lt_of_cell? _ _ (hHeld.2.2.2.2.2))).trans (hHeld.2.2.2.2.2)
                    refine ⟨_, rfl, ?_⟩
                    replace HO_10 := Aside0.mk (Kd.N_below (by exact HO_10.out) hb)
                    replace HO_112002 := Aside0.mk (Kd.V_below (by exact HO_112002.out) hb)
                    replace HO_113002 := Aside0.mk (Kd.V_below (by exact HO_113002.out) hb)
                    replace HO_124002 := Aside0.mk (Kd.V_below (by exact HO_124002.out) hb)
                    replace HO_125002 := Aside0.mk (Kd.V_below (by exact HO_125002.out) hb)
                    replace HL144_2 := Aside0.mk (Kd.V_below (by exact HL144_2.out) hb)
                    replace HL145_2 := Aside0.mk (Kd.V_below (by exact HL145_2.out) hb)
                    replace BK111 := Aside0.mk (blk_below BK111.out hb)
                    replace BK112 := Aside0.mk (blk_below BK112.out hb)
                    replace BK123 := Aside0.mk (blk_below BK123.out hb)
                    replace BK124 := Aside0.mk (blk_below BK124.out hb)
                    replace HR144_2 := Aside0.mk (Kd.C_below (by repeat (first | (with_reducible exact HR144_2.out) | (with_reducible refine Kd.C_alloc ?_ _) | (with_reducible refine Kd.C_drewN ?_ _) | (with_reducible refine Kd.C_drew ?_) | exact HR144_2.out)) hb)
                    replace HR145_2 := Aside0.mk (Kd.C_below (by repeat (first | (with_reducible exact HR145_2.out) | (with_reducible refine Kd.C_alloc ?_ _) | (with_reducible refine Kd.C_drewN ?_ _) | (with_reducible refine Kd.C_drew ?_) | exact HR145_2.out)) hb)
                    replace HB := Aside0.mk (below_step (by exact HB.out) hb)
                    (try clear hb)
                    (try clear hb2)
                    (try clear hk)
                    (try clear hi)
                    refine hK.out _ _ ⟨HS0_, HS1_, HS2_, HS3_, HS4_, HS5_⟩ (fun hHeld => ?_)
                    clear hK K
                    refine norm_ (a' := ?_) ?_ ?_
                    rotate_left
                    ·show Act.put _ (some 98) _ = _
                     simp only [Act.put, List.setIfInBounds_toArray, List.set_cons_zero, List.set_cons_succ, i64_w, i32_w]
                     rfl
                    refine pv_ 8 99 #[true, true, true, true, true, true, true, true, true] (any_of HT_.out (by kernel_rfl)) ?_
                    refine done_ (done_of HT_.out (by kernel_rfl)) ?_
                    try go_wp2
                    go_roundg kj116
                    case measure => have := HJ2.out;have := HK2.out;have := HJ98.out;have := HK4.out;have := HJ116.out;omega
                    case rel => exact ⟨(wrap64 (x12_4 + 1)), (by first | rfl | (simp;done) | (simp [*];done)), H', ⟨by have := HJ2.out;have := HK2.out;have := HJ98.out;have := HK4.out;have := HJ116.out;omega⟩, ⟨by (with_reducible repeat (first | apply Kd.N_alloc | apply Kd.N_drewN | apply Kd.N_drew));exact HO_10.out⟩, ⟨by (with_reducible repeat (first | apply Kd.V_alloc | apply Kd.V_drewN | apply Kd.V_drew));exact HO_112002.out⟩, ⟨by (with_reducible repeat (first | apply Kd.V_alloc | apply Kd.V_drewN | apply Kd.V_drew));exact HO_113002.out⟩, ⟨by (with_reducible repeat (first | apply Kd.V_alloc | apply Kd.V_drewN | apply Kd.V_drew));exact HO_124002.out⟩, ⟨by (with_reducible repeat (first | apply Kd.V_alloc | apply Kd.V_drewN | apply Kd.V_drew));exact HO_125002.out⟩, ⟨by (with_reducible repeat (first | refine blk_drewN ?_ _ | refine blk_drew ?_ | refine blk_alloc ?_ _));exact BK111.out⟩, ⟨by (with_reducible repeat (first | refine blk_drewN ?_ _ | refine blk_drew ?_ | refine blk_alloc ?_ _));exact BK112.out⟩, ⟨by (with_reducible repeat (first | refine blk_drewN ?_ _ | refine blk_drew ?_ | refine blk_alloc ?_ _));exact BK123.out⟩, ⟨by (with_reducible repeat (first | refine blk_drewN ?_ _ | refine blk_drew ?_ | refine blk_alloc ?_ _));exact BK124.out⟩, ⟨by repeat (first | (with_reducible first | exact HB.out | apply below_alloc | apply pw_below_drewN | apply below_drew1 | refine below_set ?_ GE111.out | refine below_set ?_ GE112.out | refine below_set ?_ GE123.out | refine below_set ?_ GE124.out) | exact HB.out)⟩⟩
                   ·replace c128 := Bool.eq_false_iff.mpr c128
                    subst c128
                    have H1 : (some false) = some r := by rw [if_neg (show ¬ (false = true) by decide)] at H;exact H
                    clear H
                    have H := H1
                    clear H1
                    exact absurd (Option.some.inj H) (by rw [hT_.out];decide)
                  ·rw [if_neg c126] at H
                   exact absurd H (by simp)
                 ·rw [if_neg c125] at H
                  exact absurd H (by simp)
                ·rw [if_neg c124] at H
                 exact absurd H (by simp)
               ·replace c123 := Bool.eq_false_iff.mpr c123
                subst c123
                have H1 : (some true) = some r := by rw [if_neg (show ¬ (false = true) by decide)] at H;exact H
                clear H
                have H := H1
                clear H1
                obtain rfl := Option.some.inj H
                go_wp2
                go_ret
                exact ⟨by first | rfl | (simp [errW_none, errW_some] <;> rfl) | (simp [*, errW_none, errW_some] <;> rfl), by repeat (first | (with_reducible first | exact HB.out | apply below_alloc | apply pw_below_drewN | apply below_drew1 | refine below_set ?_ GE111.out | refine below_set ?_ GE112.out | refine below_set ?_ GE123.out | refine below_set ?_ GE124.out) | exact HB.out)⟩

end Go.Proofs.Ytiplpckgmikmeaa.M
namespace Go.Proofs.Ytiplpckgmikmeaa.M
set_option linter.unusedVariables false
set_option linter.unusedSimpArgs false
open Go.RowKit Go.Proofs.YtiplpckgmikmeaaW.PrintWords Go.Proofs.YtiplpckgmikmeaaW.PrintLast

theorem w_small {i : Int} (h0 : -9223372036854775808 ≤ i) (h1 : i ≤ 9223372036854775807) : wrap64 i = i := by
  unfold wrap64
  omega
theorem w_succ {n : Nat} (h : n < 9223372036854775807) : wrap64 ((n : Int) + 1) = ((n + 1 : Nat) : Int) := by
  unfold wrap64
  omega
theorem drop_at {α : Type} (xs : List α) (z : α) (n : Nat) (h : n < xs.length) : xs.drop n = xs.getD n z :: xs.drop (n + 1) := by
  rw [List.drop_eq_getElem_cons h, List.getD_eq_getElem?_getD, List.getElem?_eq_getElem h]
  rfl
theorem Ev.one {α : Type} {g : Nat → Option α} {r : α} (h : ∀ k, g k = some r) : Ev g r := ⟨0, fun k _ => h k⟩
theorem Ev.last {α : Type} {g : Nat → Option α} {r : α} (h : ∀ k, g (k + 1) = some r) : Ev g r := Ev.step (f := fun _ => some r) h (Ev.now r)
theorem Ev.bindS {α β : Type} {g : Nat → Option α} {f : α → Option β} {a : α} {r : β} (h : Ev g a) (k : f a = some r) : Ev (fun n => (g n).bind f) r := Ev.bind (f := fun _ => f) h (Ev.one (fun _ => k))
theorem bind_some' {α β : Type} {a : Option α} {x : α} {f : α → Option β} {r : Option β} (h : a = some x) (k : f x = r) : a.bind f = r := by rw [h]; exact k
theorem Ev.pos {α : Type} {c : Prop} [Decidable c] {g f : Nat → Option α} {r : α} (h : c) (k : Ev g r) : Ev (fun n => if c then g n else f n) r := Ev.congr (fun _ => if_pos h) k
theorem Ev.neg {α : Type} {c : Prop} [Decidable c] {g f : Nat → Option α} {r : α} (h : ¬ c) (k : Ev f r) : Ev (fun n => if c then g n else f n) r := Ev.congr (fun _ => if_neg h) k
theorem Ev.val {α : Type} {g : Nat → Option α} {r r' : α} (h : Ev g r) (e : r = r') : Ev g r' := e ▸ h
theorem Ev.uniq {α : Type} {g : Nat → Option α} {r r' : α} (h : Ev g r) (h' : Ev g r') : r = r' := by
  obtain ⟨K, h⟩ := h
  obtain ⟨K', h'⟩ := h'
  have h1 := h (max K K') (by omega)
  have h2 := h' (max K K') (by omega)
  rw [h1] at h2
  exact Option.some.inj h2
theorem take_set {α : Type} (xs : List α) (n : Nat) (v : α) (h : n < xs.length) : (xs.set n v).take (n + 1) = xs.take n ++ [v] := by
  rw [List.take_succ_eq_append_getElem (by simpa using h), List.getElem_set_self, List.take_set_of_le (Nat.le_refl n)]
theorem filter_snoc {α : Type} (p : α → Bool) (xs : List α) (x : α) : (xs ++ [x]).filter p = xs.filter p ++ if p x then [x] else [] := by
  rw [List.filter_append]
  by_cases h : p x = true
  · simp [h]
  · simp [h]
theorem if_false' {α : Type} {a b : α} : (if false = true then a else b) = b := if_neg (by decide)
theorem if_true' {α : Type} {a b : α} : (if true = true then a else b) = a := if_pos rfl
end Go.Proofs.Ytiplpckgmikmeaa.M
namespace Go.Proofs.Ytiplpckgmikmeaa.M
set_option linter.unusedVariables false
set_option linter.unusedSimpArgs false
open Go.RowKit Go.Proofs.YtiplpckgmikmeaaW.PrintWords Go.Proofs.YtiplpckgmikmeaaW.PrintLast

theorem ofInt_small (a : Nat) (ha : a < 9223372036854775808) : (BitVec.ofInt 64 (a : Int)).toNat = a := by
  rw [BitVec.ofInt_natCast, BitVec.toNat_ofNat]; exact Nat.mod_eq_of_lt (by omega)
theorem xor_small (a b : Nat) (ha : a < 9223372036854775808) (hb : b < 9223372036854775808) : bits .xor .i64 (a : Int) (b : Int) = ((a ^^^ b : Nat) : Int) := by
  have hx : a ^^^ b < 2 ^ 63 := Nat.xor_lt_two_pow (by omega) (by omega)
  show IntKind.i64.wrap ((BitVec.ofInt 64 (a : Int) ^^^ BitVec.ofInt 64 (b : Int)).toNat : Int) = _
  rw [BitVec.toNat_xor, ofInt_small a ha, ofInt_small b hb, IntKind.wrap_i64]
  omega
theorem mix_small (x : Int) (h0 : 0 ≤ x) (h1 : x ≤ 1099511627776) : 0 ≤ bits .xor .i64 x (wrap64 (Int.tdiv x 64)) := by
  obtain ⟨n, rfl⟩ := Int.eq_ofNat_of_zero_le h0
  have : Int.tdiv (n : Int) 64 = ((n / 64 : Nat) : Int) := rfl
  rw [this, w_small (by omega) (by omega), xor_small n (n / 64) (by omega) (by omega)]
  exact Int.natCast_nonneg _

def Bytes (bs : List Int) : Prop := bs.length ≤ 2000 ∧ ∀ x ∈ bs, 0 ≤ x ∧ x ≤ 255
theorem bytes_of {l : List Int} (h : ∀ x ∈ l, (Lit.int .u8 x).wf = true) : ∀ x ∈ l, 0 ≤ x ∧ x ≤ 255 := by
  intro x hx
  have := h x hx
  simp only [Lit.wf, Bool.and_eq_true, decide_eq_true_eq] at this
  exact this
theorem Bytes.rdLe {bs : List Int} (h : Bytes bs) (i : Int) : 0 ≤ rd bs i ∧ rd bs i ≤ 255 := by
  unfold rd
  rw [List.getD_eq_getElem?_getD]
  rcases Nat.lt_or_ge i.toNat bs.length with hi | hi
  · rw [List.getElem?_eq_getElem hi]
    exact h.2 _ (List.getElem_mem hi)
  · rw [List.getElem?_eq_none hi]
    simp

theorem l14Open_is (l : List Int) (hl : l.length ≤ 9223372036854775807) : spec_l14Open.f l = some (l.take 2000, 0) := by
  unfold spec_l14Open.f
  by_cases h : (l.length : Int) > 2000
  · rw [if_pos h, if_pos (by omega)]
  · rw [if_neg h, List.take_of_length_le (by omega)]
theorem open_bytes {l : List Int} (h : ∀ x ∈ l, (Lit.int .u8 x).wf = true) : Bytes (l.take 2000) :=
  ⟨by rw [List.length_take]; omega, fun x hx => bytes_of h x (List.mem_of_mem_take hx)⟩

theorem tmod_lt (a n : Int) (h0 : 0 ≤ a) (h1 : 1 ≤ n) : 0 ≤ Int.tmod a n ∧ Int.tmod a n < n := by
  rw [Int.tmod_eq_emod_of_nonneg h0]
  exact ⟨Int.emod_nonneg _ (by omega), Int.emod_lt_of_pos _ (by omega)⟩

theorem pick_ev (bs : List Int) (hb : Bytes bs) (p n : Int) (h0 : 0 ≤ p) (h1 : p ≤ 1000000) : ∃ r, Ev (fun k => spec_l14Rd_pick.f k bs p n) (r, p + 1) ∧ 0 ≤ r ∧ (r < n ∨ n < 1 ∧ r = 0) := by
  have w1 : wrap64 (p + 1) = p + 1 := w_small (by omega) (by omega)
  by_cases hn : n < 1
  · refine ⟨0, ?_, by omega, .inr ⟨hn, rfl⟩⟩
    unfold spec_l14Rd_pick.f
    refine Ev.pos hn (Ev.last (fun k => ?_))
    simp only [spec_l14Rd_pick.j0]
    rw [if_pos trivial, w1]
  · by_cases he : (bs.length : Int) = 0
    · refine ⟨0, ?_, by omega, .inl (by omega)⟩
      unfold spec_l14Rd_pick.f
      refine Ev.neg hn (Ev.last (fun k => ?_))
      simp only [spec_l14Rd_pick.j0]
      rw [beq_iff_eq.2 he, if_pos rfl, w1]
    · have w2 : wrap64 (p + 1 - 1) = p := by rw [show p + 1 - 1 = p by omega]; exact w_small (by omega) (by omega)
      have hne : ((bs.length : Int) == 0) = false := beq_eq_false_iff_ne.2 he
      have hlen := hb.1
      by_cases hk : p < (bs.length : Int)
      · have hr := hb.rdLe p
        have hm := tmod_lt (rd bs p) n hr.1 (by omega)
        refine ⟨Int.tmod (rd bs p) n, ?_, hm.1, .inl hm.2⟩
        unfold spec_l14Rd_pick.f
        refine Ev.neg hn (Ev.last (fun k => ?_))
        simp only [spec_l14Rd_pick.j0]
        rw [hne, if_neg (by decide), w1, w2, if_pos hk, if_pos h0, if_neg (by omega), w_small (by omega) (by omega)]
      · have t1 := tmod_lt p (bs.length : Int) h0 (by omega)
        have w3 : wrap64 (p * 7) = p * 7 := w_small (by omega) (by omega)
        have w4 : wrap64 (p * 7 + 3) = p * 7 + 3 := w_small (by omega) (by omega)
        have t2 := tmod_lt (p * 7 + 3) (bs.length : Int) (by omega) (by omega)
        have r1 := hb.rdLe (Int.tmod p (bs.length : Int))
        have r2 := hb.rdLe (Int.tmod (p * 7 + 3) (bs.length : Int))
        have hd : 0 ≤ Int.tdiv p (bs.length : Int) ∧ Int.tdiv p (bs.length : Int) ≤ p := by
          rw [Int.tdiv_eq_ediv_of_nonneg h0]
          exact ⟨Int.ediv_nonneg h0 (by omega), Int.ediv_le_self _ h0⟩
        have w5 : wrap64 (Int.tdiv p (bs.length : Int)) = Int.tdiv p (bs.length : Int) := w_small (by omega) (by omega)
        generalize hq : Int.tdiv p (bs.length : Int) = q at *
        generalize ha : rd bs (Int.tmod p (bs.length : Int)) = a at *
        generalize hb' : rd bs (Int.tmod (p * 7 + 3) (bs.length : Int)) = b at *
        have x1 : wrap64 a = a := w_small (by omega) (by omega)
        have x2 : wrap64 b = b := w_small (by omega) (by omega)
        have x3 : wrap64 (a * 131) = a * 131 := w_small (by omega) (by omega)
        have x4 : wrap64 (b * 1117) = b * 1117 := w_small (by omega) (by omega)
        have x5 : wrap64 (a * 131 + b * 1117) = a * 131 + b * 1117 := w_small (by omega) (by omega)
        have x6 : wrap64 (p * 29) = p * 29 := w_small (by omega) (by omega)
        have x7 : wrap64 (a * 131 + b * 1117 + p * 29) = a * 131 + b * 1117 + p * 29 := w_small (by omega) (by omega)
        have x8 : wrap64 (q * 53) = q * 53 := w_small (by omega) (by omega)
        have x9 : wrap64 (a * 131 + b * 1117 + p * 29 + q * 53) = a * 131 + b * 1117 + p * 29 + q * 53 := w_small (by omega) (by omega)
        have hx := mix_small (a * 131 + b * 1117 + p * 29 + q * 53) (by omega) (by omega)
        generalize hX : bits .xor .i64 (a * 131 + b * 1117 + p * 29 + q * 53) (wrap64 (Int.tdiv (a * 131 + b * 1117 + p * 29 + q * 53) 64)) = X at *
        have hm := tmod_lt X n hx (by omega)
        refine ⟨Int.tmod X n, ?_, hm.1, .inl hm.2⟩
        unfold spec_l14Rd_pick.f
        refine Ev.neg hn (Ev.last (fun k => ?_))
        simp only [spec_l14Rd_pick.j0]
        rw [hne, if_neg (by decide), w1, w2, if_neg hk, if_neg he, if_pos t1.1, if_pos t1.2, w3, w4, if_pos t2.1, if_pos t2.2, if_neg (by omega), hq, ha, hb', w5, x1, x2, x3, x4, x5, x6, x7, x8, x9, hX]

theorem num_ev (bs : List Int) (hb : Bytes bs) (p : Int) (l : List Int) (hl : l ≠ []) (hm : l.length ≤ 1000000) (h0 : 0 ≤ p) (h1 : p ≤ 1000000) : ∃ r, Ev (fun k => spec_l14Rd_num.f k bs p l) (r, p + 1) ∧ r ∈ l := by
  obtain ⟨r, hr, h2, h3⟩ := pick_ev bs hb p (l.length : Int) h0 h1
  have hpos : 0 < l.length := List.length_pos_iff.2 hl
  have hlt : r < (l.length : Int) := by omega
  refine ⟨rd l r, ?_, ?_⟩
  · unfold spec_l14Rd_num.f
    exact Ev.bind hr (Ev.pos h2 (Ev.pos hlt (Ev.now _)))
  · unfold rd
    rw [List.getD_eq_getElem?_getD, List.getElem?_eq_getElem (show r.toNat < l.length by omega)]
    exact List.getElem_mem _
end Go.Proofs.Ytiplpckgmikmeaa.M
