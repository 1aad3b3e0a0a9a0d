/- What the claim's law leans on: the program's functions, what they compute, and the law over plain values; no condition is asked. (Part 2 of 4.) -/
import Derived.Test.YtiebpoikhijbgaaDoorCLawsFnEv1
import Derived.Laws.CopyRow
import Derived.Laws.CopyOwn
namespace Go.Proofs.YtiebpoikhijbgaaDoor.M
open Go.RowKit Go.Proofs.YtiebpoikhijbgaaDoorW.PrintWords Go.Proofs.YtiebpoikhijbgaaDoorW.PrintLast Go.Proofs.YtiebpoikhijbgaaDoorW.PrintMore
attribute [local go_sem] max2_int min2_int max_two min_two max_three min_three max_four min_four
set_option linter.unusedVariables false
set_option linter.unusedSimpArgs false

def spec_l1Bent.l0 : Nat → List (S35) → List Int → Int → Option ((List (S35)) × Int)
 | 0, _, _, _ => none
 | k + 1, x3, x1000, x1001 => if (x3.length : Int) ≤ 24 then (if 0 ≤ (wrap64 ((x3.length : Int) - 1)) then (if (wrap64 ((x3.length : Int) - 1)) < (x3.length : Int) then (if x3.length < 5864062014805 then (spec_l1Bent.l0 k (x3 ++ [(⟨0, wrap64 (((rd_T35 x3 (wrap64 ((x3.length : Int) - 1))).f1) + 1), 0⟩ : S35)]) x1000 x1001) else (none)) else (none)) else (none)) else (some (x3, x1001))
def spec_l1Bent.f (k : Nat) (s0_0 : List Int) (s0_1 : Int) : Option ((List (S35)) × Int) := (spec_l1Evs.f k s0_0 s0_1 12).bind fun bt101 => (if (bt101.1.length : Int) = 0 then (some (bt101.1, bt101.2)) else ((spec_l14Rd_pick.f k s0_0 bt101.2 (bt101.1.length : Int)).bind fun bt105 => ((spec_l14Rd_pick.f k s0_0 bt105.2 40).bind fun bt107 => (if bt107.1 = 0 then ((spec_l14Rd_num.f k s0_0 bt107.2 (([(-1), 5] : List Int))).bind fun bt112 => (if 0 ≤ bt105.1 then (if bt105.1 < (bt101.1.length : Int) then (some ((bt101.1.set (bt105.1 : Int).toNat (⟨bt112.1, (rd_T35 bt101.1 bt105.1).f1, (rd_T35 bt101.1 bt105.1).f2⟩ : S35)), bt112.2)) else (none)) else (none))) else (if bt107.1 = 1 then (if 0 < (bt101.1.length : Int) then ((spec_l14Rd_num.f k s0_0 bt107.2 (([0, 1001, (rd_T35 bt101.1 0).f1] : List Int))).bind fun bt119 => (if 0 ≤ bt105.1 then (if bt105.1 < (bt101.1.length : Int) then (some ((bt101.1.set (bt105.1 : Int).toNat (⟨(rd_T35 bt101.1 bt105.1).f0, bt119.1, (rd_T35 bt101.1 bt105.1).f2⟩ : S35)), bt119.2)) else (none)) else (none))) else (none)) else (if bt107.1 = 2 then ((spec_l14Rd_num.f k s0_0 bt107.2 (([(-1), 101] : List Int))).bind fun bt125 => (if 0 ≤ bt105.1 then (if bt105.1 < (bt101.1.length : Int) then (some ((bt101.1.set (bt105.1 : Int).toNat (⟨(rd_T35 bt101.1 bt105.1).f0, (rd_T35 bt101.1 bt105.1).f1, bt125.1⟩ : S35)), bt125.2)) else (none)) else (none))) else (if bt107.1 = 3 then (spec_l1Bent.l0 k bt101.1 s0_0 bt107.2) else (some (bt101.1, bt107.2)))))))))
set_option maxHeartbeats 8000000 in
set_option maxRecDepth 100000 in
theorem spec_l1Bent.calls (k : Nat) (g : Nat) (s0_0 : List Int) (s0_1 : Int) (r1 : List (S35)) (r2 : Int) (w0 w : World) (hI : IsS69 w0 w g s0_0 s0_1) (hB : Below w0.heap.size w0 w) (h : spec_l1Bent.f k s0_0 s0_1 = some (r1, r2)) :
  Calls Tryd.prog 26 #[.pointer (some ⟨g, 0, none⟩)] w fun e w' => ∃ v0_ : Value, e = .returned (v0_) ∧ Kd.R k35 35 w' w.heap.size (fun _ => True) v0_ r1 ∧ IsS69 w0 w' g s0_0 r2 ∧ Below w0.heap.size w0 w' ∧ KeepBut w w' g none := by
 have hu35 := Tryd.underlying35
 have HI0 := m0_ hI
 have HK := m0_ (KeepBut.refl w g none)
 have HL := m0_ hB.size
 clear hI
 have HW0 := m0_ hB.size
 have HB := m0_ hB
 clear hB
 have H : ((spec_l1Evs.f k s0_0 s0_1 12).bind fun bt101 => (if (bt101.1.length : Int) = 0 then (some (bt101.1, bt101.2)) else ((spec_l14Rd_pick.f k s0_0 bt101.2 (bt101.1.length : Int)).bind fun bt105 => ((spec_l14Rd_pick.f k s0_0 bt105.2 40).bind fun bt107 => (if bt107.1 = 0 then ((spec_l14Rd_num.f k s0_0 bt107.2 (([(-1), 5] : List Int))).bind fun bt112 => (if 0 ≤ bt105.1 then (if bt105.1 < (bt101.1.length : Int) then (some ((bt101.1.set (bt105.1 : Int).toNat (⟨bt112.1, (rd_T35 bt101.1 bt105.1).f1, (rd_T35 bt101.1 bt105.1).f2⟩ : S35)), bt112.2)) else (none)) else (none))) else (if bt107.1 = 1 then (if 0 < (bt101.1.length : Int) then ((spec_l14Rd_num.f k s0_0 bt107.2 (([0, 1001, (rd_T35 bt101.1 0).f1] : List Int))).bind fun bt119 => (if 0 ≤ bt105.1 then (if bt105.1 < (bt101.1.length : Int) then (some ((bt101.1.set (bt105.1 : Int).toNat (⟨(rd_T35 bt101.1 bt105.1).f0, bt119.1, (rd_T35 bt101.1 bt105.1).f2⟩ : S35)), bt119.2)) else (none)) else (none))) else (none)) else (if bt107.1 = 2 then ((spec_l14Rd_num.f k s0_0 bt107.2 (([(-1), 101] : List Int))).bind fun bt125 => (if 0 ≤ bt105.1 then (if bt105.1 < (bt101.1.length : Int) then (some ((bt101.1.set (bt105.1 : Int).toNat (⟨(rd_T35 bt101.1 bt105.1).f0, (rd_T35 bt101.1 bt105.1).f1, bt125.1⟩ : S35)), bt125.2)) else (none)) else (none))) else (if bt107.1 = 3 then (spec_l1Bent.l0 k bt101.1 s0_0 bt107.2) else (some (bt101.1, bt107.2)))))))))) = some (r1, r2) := h
 clear h
 replace H := Option.bind_eq_some_iff.mp H
 obtain ⟨⟨t101, t104⟩, A20, H⟩ := H
 replace H : (if (t101.length : Int) = 0 then (some (t101, t104)) else ((spec_l14Rd_pick.f k s0_0 t104 (t101.length : Int)).bind fun bt105 => ((spec_l14Rd_pick.f k s0_0 bt105.2 40).bind fun bt107 => (if bt107.1 = 0 then ((spec_l14Rd_num.f k s0_0 bt107.2 (([(-1), 5] : List Int))).bind fun bt112 => (if 0 ≤ bt105.1 then (if bt105.1 < (t101.length : Int) then (some ((t101.set (bt105.1 : Int).toNat (⟨bt112.1, (rd_T35 t101 bt105.1).f1, (rd_T35 t101 bt105.1).f2⟩ : S35)), bt112.2)) else (none)) else (none))) else (if bt107.1 = 1 then (if 0 < (t101.length : Int) then ((spec_l14Rd_num.f k s0_0 bt107.2 (([0, 1001, (rd_T35 t101 0).f1] : List Int))).bind fun bt119 => (if 0 ≤ bt105.1 then (if bt105.1 < (t101.length : Int) then (some ((t101.set (bt105.1 : Int).toNat (⟨(rd_T35 t101 bt105.1).f0, bt119.1, (rd_T35 t101 bt105.1).f2⟩ : S35)), bt119.2)) else (none)) else (none))) else (none)) else (if bt107.1 = 2 then ((spec_l14Rd_num.f k s0_0 bt107.2 (([(-1), 101] : List Int))).bind fun bt125 => (if 0 ≤ bt105.1 then (if bt105.1 < (t101.length : Int) then (some ((t101.set (bt105.1 : Int).toNat (⟨(rd_T35 t101 bt105.1).f0, (rd_T35 t101 bt105.1).f1, bt125.1⟩ : S35)), bt125.2)) else (none)) else (none))) else (if bt107.1 = 3 then (spec_l1Bent.l0 k t101 s0_0 bt107.2) else (some (t101, bt107.2))))))))) = some (r1, r2) := H
 have A2 := m0_ A20
 clear A20
 by_cases c3 : (t101.length : Int) = 0
 ·rw [if_pos c3] at H
  have c3b0 : ((t101.length : Int) == 0) = true := beq_iff_eq.mpr c3
  have c3b1 : ((t101.length : Int) != 0) = false := bne_eq_false_iff_eq.mpr c3
  clear c3
  simp only [Option.some.injEq, Prod.mk.injEq] at H
  obtain ⟨rfl, rfl⟩ := H
  go_enter Tryd.func26, Tryd.ntmps26
  go_wp2_with (first | ((with_reducible refine gate_callee (f := 44) rfl ?_);refine goesL_ (some 6) rfl rfl Tryd.func44 (by kernel_rfl) rfl #[.pointer (some ⟨g, 0, none⟩), .int .i64 12] rfl (by (try simp only [List.map_toArray, List.map_cons, List.map_nil]);first | done | rfl | (simp only [List.length_drop, List.length_take];rfl)) ?_;(with_reducible refine (spec_l1Evs.calls k g s0_0 s0_1 12 t101 t104 w0 _ ?side1 ?side2 A2.out).mono ?_);(case side1 => repeat (first | (with_reducible first | exact HI0.out | apply IsS69.alloc | apply IsS69.drewN | apply IsS69.drew | apply IsS69.set_1) | exact HI0.out));(case side2 => repeat (first | (with_reducible first | exact HB.out | apply below_alloc | apply pw_below_drewN | apply below_drew1 | refine below_set ?_ (IsS69.ge HI0.out)) | exact HB.out));rintro e w4 ⟨v102, rfl, ho0, hi, hb, hk⟩;refine ⟨_, rfl, ?_⟩;have HO103 := m0_ (Kd.R_lower ho0 (keep_size (w := w) (g := g) (row := none) (by repeat (first | (with_reducible first | exact HK.out | apply KeepBut.set_ | apply keep_drewN | apply keep_drew | apply keep_alloc) | exact HK.out))));replace HK := m0_ (KeepBut.trans (by repeat (first | (with_reducible first | exact HK.out | apply KeepBut.set_ | apply keep_drewN | apply keep_drew | apply keep_alloc) | exact HK.out)) hk (.inl rfl));replace HB := m0_ (hb);replace HI0 := m0_ (hi);(try clear hb);(try clear hb2);(try clear hk);(try clear hi);(try clear ho0);obtain ⟨Ao5, co5, eo5⟩ := Kd.R_slice HO103.out;subst eo5))
  go_ret
  exact ⟨_, by first | rfl | (simp [errW_none, errW_some] <;> rfl) | (simp [*, errW_none, errW_some] <;> rfl), by (with_reducible repeat (first | apply Kd.R_alloc | apply Kd.R_drewN | apply Kd.R_drew));exact HO103.out, by repeat (first | (with_reducible first | exact HI0.out | apply IsS69.alloc | apply IsS69.drewN | apply IsS69.drew | apply IsS69.set_1) | exact HI0.out), by repeat (first | (with_reducible first | exact HB.out | apply below_alloc | apply pw_below_drewN | apply below_drew1 | refine below_set ?_ (IsS69.ge HI0.out)) | exact HB.out), by repeat (first | (with_reducible first | exact HK.out | apply KeepBut.set_ | apply keep_drewN | apply keep_drew | apply keep_alloc) | exact HK.out)⟩
 rw [if_neg c3] at H
 have c3b0 : ((t101.length : Int) == 0) = false := beq_eq_false_iff_ne.mpr c3
 have c3b1 : ((t101.length : Int) != 0) = true := bne_iff_ne.mpr c3
 have c3b2 : ¬ (t101 = []) := fun h_ => c3 (by rw [h_];rfl)
 replace H := Option.bind_eq_some_iff.mp H
 obtain ⟨⟨t105, t106⟩, A60, H⟩ := H
 replace H : ((spec_l14Rd_pick.f k s0_0 t106 40).bind fun bt107 => (if bt107.1 = 0 then ((spec_l14Rd_num.f k s0_0 bt107.2 (([(-1), 5] : List Int))).bind fun bt112 => (if 0 ≤ t105 then (if t105 < (t101.length : Int) then (some ((t101.set (t105 : Int).toNat (⟨bt112.1, (rd_T35 t101 t105).f1, (rd_T35 t101 t105).f2⟩ : S35)), bt112.2)) else (none)) else (none))) else (if bt107.1 = 1 then (if 0 < (t101.length : Int) then ((spec_l14Rd_num.f k s0_0 bt107.2 (([0, 1001, (rd_T35 t101 0).f1] : List Int))).bind fun bt119 => (if 0 ≤ t105 then (if t105 < (t101.length : Int) then (some ((t101.set (t105 : Int).toNat (⟨(rd_T35 t101 t105).f0, bt119.1, (rd_T35 t101 t105).f2⟩ : S35)), bt119.2)) else (none)) else (none))) else (none)) else (if bt107.1 = 2 then ((spec_l14Rd_num.f k s0_0 bt107.2 (([(-1), 101] : List Int))).bind fun bt125 => (if 0 ≤ t105 then (if t105 < (t101.length : Int) then (some ((t101.set (t105 : Int).toNat (⟨(rd_T35 t101 t105).f0, (rd_T35 t101 t105).f1, bt125.1⟩ : S35)), bt125.2)) else (none)) else (none))) else (if bt107.1 = 3 then (spec_l1Bent.l0 k t101 s0_0 bt107.2) else (some (t101, bt107.2))))))) = some (r1, r2) := H
 have A6 := m0_ A60
 clear A60
 replace H := Option.bind_eq_some_iff.mp H
 obtain ⟨⟨t107, t108⟩, A70, H⟩ := H
 replace H : (if t107 = 0 then ((spec_l14Rd_num.f k s0_0 t108 (([(-1), 5] : List Int))).bind fun bt112 => (if 0 ≤ t105 then (if t105 < (t101.length : Int) then (some ((t101.set (t105 : Int).toNat (⟨bt112.1, (rd_T35 t101 t105).f1, (rd_T35 t101 t105).f2⟩ : S35)), bt112.2)) else (none)) else (none))) else (if t107 = 1 then (if 0 < (t101.length : Int) then ((spec_l14Rd_num.f k s0_0 t108 (([0, 1001, (rd_T35 t101 0).f1] : List Int))).bind fun bt119 => (if 0 ≤ t105 then (if t105 < (t101.length : Int) then (some ((t101.set (t105 : Int).toNat (⟨(rd_T35 t101 t105).f0, bt119.1, (rd_T35 t101 t105).f2⟩ : S35)), bt119.2)) else (none)) else (none))) else (none)) else (if t107 = 2 then ((spec_l14Rd_num.f k s0_0 t108 (([(-1), 101] : List Int))).bind fun bt125 => (if 0 ≤ t105 then (if t105 < (t101.length : Int) then (some ((t101.set (t105 : Int).toNat (⟨(rd_T35 t101 t105).f0, (rd_T35 t101 t105).f1, bt125.1⟩ : S35)), bt125.2)) else (none)) else (none))) else (if t107 = 3 then (spec_l1Bent.l0 k t101 s0_0 t108) else (some (t101, t108)))))) = some (r1, r2) := H
 have A7 := m0_ A70
 clear A70
 by_cases c8 : t107 = 0
 ·rw [if_pos c8] at H
  have c8b0 : (t107 == 0) = true := beq_iff_eq.mpr c8
  have c8b1 : (t107 != 0) = false := bne_eq_false_iff_eq.mpr c8
  clear c8
  obtain ⟨y109, hy109⟩ : ∃ y_ : List Int, y_ = (([(-1), 5] : List Int)) := ⟨_, rfl⟩
  replace H : ((spec_l14Rd_num.f k s0_0 t108 y109).bind fun bt112 => (if 0 ≤ t105 then (if t105 < (t101.length : Int) then (some ((t101.set (t105 : Int).toNat (⟨bt112.1, (rd_T35 t101 t105).f1, (rd_T35 t101 t105).f2⟩ : S35)), bt112.2)) else (none)) else (none))) = some (r1, r2) := by first | (rw [hy109];with_reducible exact H) | (have H2_ := (Option.bind_some _ _).symm.trans H;rw [hy109];with_reducible exact H2_) | (have H2_ := (Option.bind_some _ _).symm.trans H;with_reducible exact H2_) | with_reducible exact H | (rw [hy109];exact H) | exact H
  have Ny109 := m0_ hy109
  clear hy109
  replace H := Option.bind_eq_some_iff.mp H
  obtain ⟨⟨t112, t113⟩, A90, H⟩ := H
  replace H : (if 0 ≤ t105 then (if t105 < (t101.length : Int) then (some ((t101.set (t105 : Int).toNat (⟨t112, (rd_T35 t101 t105).f1, (rd_T35 t101 t105).f2⟩ : S35)), t113)) else (none)) else (none)) = some (r1, r2) := H
  have A9 := m0_ A90
  clear A90
  by_cases c10 : 0 ≤ t105
  rotate_left
  ·rw [if_neg c10] at H
   exact absurd H (by simp)
  rw [if_pos c10] at H
  have c10b0 : decide (0 ≤ t105) = true := decide_eq_true c10
  clear c10
  by_cases c11 : t105 < (t101.length : Int)
  ·rw [if_pos c11] at H
   have c11b0 : decide (t105 < (t101.length : Int)) = true := decide_eq_true c11
   clear c11
   obtain ⟨y114, hy114⟩ : ∃ y_ : List (S35), y_ = (t101.set (t105 : Int).toNat (⟨t112, (rd_T35 t101 t105).f1, (rd_T35 t101 t105).f2⟩ : S35)) := ⟨_, rfl⟩
   replace H : (some (y114, t113)) = some (r1, r2) := by first | (rw [hy114];with_reducible exact H) | (have H2_ := (Option.bind_some _ _).symm.trans H;rw [hy114];with_reducible exact H2_) | (have H2_ := (Option.bind_some _ _).symm.trans H;with_reducible exact H2_) | with_reducible exact H | (rw [hy114];exact H) | exact H
   have Ny114 := m0_ hy114
   clear hy114
   simp only [Option.some.injEq, Prod.mk.injEq] at H
   obtain ⟨rfl, rfl⟩ := H
   go_enter Tryd.func26, Tryd.ntmps26
   go_wp2_with (first | ((with_reducible refine gate_callee (f := 44) rfl ?_);refine goesL_ (some 6) rfl rfl Tryd.func44 (by kernel_rfl) rfl #[.pointer (some ⟨g, 0, none⟩), .int .i64 12] rfl (by (try simp only [List.map_toArray, List.map_cons, List.map_nil]);first | done | rfl | (simp only [List.length_drop, List.length_take];rfl)) ?_;(with_reducible refine (spec_l1Evs.calls k g s0_0 s0_1 12 t101 t104 w0 _ ?side1 ?side2 A2.out).mono ?_);(case side1 => repeat (first | (with_reducible first | exact HI0.out | apply IsS69.alloc | apply IsS69.drewN | apply IsS69.drew | apply IsS69.set_1) | exact HI0.out));(case side2 => repeat (first | (with_reducible first | exact HB.out | apply below_alloc | apply pw_below_drewN | apply below_drew1 | refine below_set ?_ (IsS69.ge HI0.out)) | exact HB.out));rintro e w13 ⟨v102, rfl, ho0, hi, hb, hk⟩;refine ⟨_, rfl, ?_⟩;have HO103 := m0_ (Kd.R_lower ho0 (keep_size (w := w) (g := g) (row := none) (by repeat (first | (with_reducible first | exact HK.out | apply KeepBut.set_ | apply keep_drewN | apply keep_drew | apply keep_alloc) | exact HK.out))));replace HK := m0_ (KeepBut.trans (by repeat (first | (with_reducible first | exact HK.out | apply KeepBut.set_ | apply keep_drewN | apply keep_drew | apply keep_alloc) | exact HK.out)) hk (.inl rfl));replace HB := m0_ (hb);replace HI0 := m0_ (hi);(try clear hb);(try clear hb2);(try clear hk);(try clear hi);(try clear ho0);obtain ⟨Ao14, co14, eo14⟩ := Kd.R_slice HO103.out;subst eo14) | ((with_reducible refine gate_callee (f := 35) rfl ?_);refine goesL_ (some 14) rfl rfl Tryd.func35 (by kernel_rfl) rfl #[.pointer (some ⟨g, 0, none⟩), .int .i64 (t101.length : Int)] rfl (by (try simp only [List.map_toArray, List.map_cons, List.map_nil]);first | done | rfl | (simp only [List.length_drop, List.length_take];rfl)) ?_;(with_reducible refine (spec_l14Rd_pick.calls k g s0_0 t104 (t101.length : Int) t105 t106 w0 _ ?side1 ?side2 A6.out).mono ?_);(case side1 => repeat (first | (with_reducible first | exact HI0.out | apply IsS69.alloc | apply IsS69.drewN | apply IsS69.drew | apply IsS69.set_1) | exact HI0.out));(case side2 => repeat (first | (with_reducible first | exact HB.out | apply below_alloc | apply pw_below_drewN | apply below_drew1 | refine below_set ?_ (IsS69.ge HI0.out)) | exact HB.out));rintro e w15 ⟨rfl, hi, hb, hk⟩;refine ⟨_, rfl, ?_⟩;replace HO103 := m0_ (Kd.R_mono (Kd.R_keep (IsS69.apart (show IsS69 w0 _ g s0_0 t104 from by repeat (first | (with_reducible first | exact HI0.out | apply IsS69.alloc | apply IsS69.drewN | apply IsS69.drew | apply IsS69.set_1) | exact HI0.out)) (by exact HO103.out) (by decide)) hk (fun _ h => h.2)) (fun _ h => h.1));replace HK := m0_ (KeepBut.trans (by repeat (first | (with_reducible first | exact HK.out | apply KeepBut.set_ | apply keep_drewN | apply keep_drew | apply keep_alloc) | exact HK.out)) hk (.inl rfl));replace HB := m0_ (hb);replace HI0 := m0_ (hi);(try clear hb);(try clear hb2);(try clear hk);(try clear hi)) | ((with_reducible refine gate_callee (f := 35) rfl ?_);refine goesL_ (some 16) rfl rfl Tryd.func35 (by kernel_rfl) rfl #[.pointer (some ⟨g, 0, none⟩), .int .i64 40] rfl (by (try simp only [List.map_toArray, List.map_cons, List.map_nil]);first | done | rfl | (simp only [List.length_drop, List.length_take];rfl)) ?_;(with_reducible refine (spec_l14Rd_pick.calls k g s0_0 t106 40 t107 t108 w0 _ ?side1 ?side2 A7.out).mono ?_);(case side1 => repeat (first | (with_reducible first | exact HI0.out | apply IsS69.alloc | apply IsS69.drewN | apply IsS69.drew | apply IsS69.set_1) | exact HI0.out));(case side2 => repeat (first | (with_reducible first | exact HB.out | apply below_alloc | apply pw_below_drewN | apply below_drew1 | refine below_set ?_ (IsS69.ge HI0.out)) | exact HB.out));rintro e w16 ⟨rfl, hi, hb, hk⟩;refine ⟨_, rfl, ?_⟩;replace HO103 := m0_ (Kd.R_mono (Kd.R_keep (IsS69.apart (show IsS69 w0 _ g s0_0 t106 from by repeat (first | (with_reducible first | exact HI0.out | apply IsS69.alloc | apply IsS69.drewN | apply IsS69.drew | apply IsS69.set_1) | exact HI0.out)) (by exact HO103.out) (by decide)) hk (fun _ h => h.2)) (fun _ h => h.1));replace HK := m0_ (KeepBut.trans (by repeat (first | (with_reducible first | exact HK.out | apply KeepBut.set_ | apply keep_drewN | apply keep_drew | apply keep_alloc) | exact HK.out)) hk (.inl rfl));replace HB := m0_ (hb);replace HI0 := m0_ (hi);(try clear hb);(try clear hb2);(try clear hk);(try clear hi)) | ((with_reducible refine gate_dst (N := 22) rfl ?_);refine Kd.R_lit (Kd.int .i64) _ 3 ?hg (N := 22) ?hd (xs := ([(-1), 5] : List Int)) (inner := [.int .i64 (-1), .int .i64 5]) (ok := fun _ => True) (okp := fun _ => True) ?hr ?hp (fun _ hk => hk) trivial (Below.refl _ _) (Nat.le_refl _) (by simp) ?_;(case hd => rfl);(case hg => rfl);(case hr => first | (go_simp;done) | (go_simp;rfl));(case hp => exact (Reps.one (show Kd.M (Kd.int .i64) _ _ _ (-1) [.int .i64 (-1)] from rfl) (Reps.one (show Kd.M (Kd.int .i64) _ _ _ 5 [.int .i64 5] from rfl) (Reps.none _ _))));intro v110 w17 ho18 hb hg_ hnew_;clear hg_ hnew_;(first | rw [← Ny109.out] at ho18 | (simp only [Int.reduceToNat] at ho18;rw [← Ny109.out] at ho18));replace HO103 := m0_ (Kd.R_below (by exact HO103.out) hb);have HO111 := m0_ (Kd.R_lower ho18 (keep_size (w := w) (g := g) (row := none) (by repeat (first | (with_reducible first | exact HK.out | apply KeepBut.set_ | apply keep_drewN | apply keep_drew | apply keep_alloc) | exact HK.out))));replace HK := m0_ (KeepBut.trans (by repeat (first | (with_reducible first | exact HK.out | apply KeepBut.set_ | apply keep_drewN | apply keep_drew | apply keep_alloc) | exact HK.out)) (KeepBut.of_below hb g none) (.inl rfl));replace HB := m0_ (below_step (by repeat (first | (with_reducible first | exact HB.out | apply below_alloc | apply pw_below_drewN | apply below_drew1 | refine below_set ?_ (IsS69.ge HI0.out)) | exact HB.out)) hb);replace HI0 := m0_ (IsS69.below (by repeat (first | (with_reducible first | exact HI0.out | apply IsS69.alloc | apply IsS69.drewN | apply IsS69.drew | apply IsS69.set_1) | exact HI0.out)) hb);clear hb ho18;obtain ⟨Ao19, co19, eo19⟩ := Kd.R_slice HO111.out;subst eo19) | ((with_reducible refine gate_callee (f := 39) rfl ?_);refine goesL_ (some 23) rfl rfl Tryd.func39 (by kernel_rfl) rfl #[.pointer (some ⟨g, 0, none⟩), .slice Ao19 y109.length co19] rfl (by (try simp only [List.map_toArray, List.map_cons, List.map_nil]);first | done | rfl | (simp only [List.length_drop, List.length_take];rfl)) ?_;(with_reducible refine (spec_l14Rd_num.calls k g s0_0 t108 _ _ y109 t112 t113 w0 _ ?side1 ?side2 ?side3 ?side4 ?side5 A9.out).mono ?_);(case side1 => repeat (first | (with_reducible first | exact HI0.out | apply IsS69.alloc | apply IsS69.drewN | apply IsS69.drew | apply IsS69.set_1) | exact HI0.out));(case side2 => repeat (first | (with_reducible first | exact HB.out | apply below_alloc | apply pw_below_drewN | apply below_drew1 | refine below_set ?_ (IsS69.ge HI0.out)) | exact HB.out));(case side3 => repeat (first | exact (Kd.R_reads' HO111.out).2.2 | (with_reducible refine Kd.C_alloc ?_ _) | (with_reducible refine Kd.C_drewN ?_ _) | (with_reducible refine Kd.C_drew ?_)));(case side4 => exact (Kd.R_reads' HO111.out).2.1);(case side5 => exact far_slice (IsS69.own_ne HI0.out HO111.out (by decide)));rintro e w20 ⟨rfl, hi, hb, hk⟩;refine ⟨_, rfl, ?_⟩;replace HO103 := m0_ (Kd.R_mono (Kd.R_keep (IsS69.apart (show IsS69 w0 _ g s0_0 t108 from by repeat (first | (with_reducible first | exact HI0.out | apply IsS69.alloc | apply IsS69.drewN | apply IsS69.drew | apply IsS69.set_1) | exact HI0.out)) (by exact HO103.out) (by decide)) hk (fun _ h => h.2)) (fun _ h => h.1));replace HO111 := m0_ (Kd.R_mono (Kd.R_keep (IsS69.apart (show IsS69 w0 _ g s0_0 t108 from by repeat (first | (with_reducible first | exact HI0.out | apply IsS69.alloc | apply IsS69.drewN | apply IsS69.drew | apply IsS69.set_1) | exact HI0.out)) (by exact HO111.out) (by decide)) hk (fun _ h => h.2)) (fun _ h => h.1));replace HK := m0_ (KeepBut.trans (by repeat (first | (with_reducible first | exact HK.out | apply KeepBut.set_ | apply keep_drewN | apply keep_drew | apply keep_alloc) | exact HK.out)) hk (.inl rfl));replace HB := m0_ (hb);replace HI0 := m0_ (hi);(try clear hb);(try clear hb2);(try clear hk);(try clear hi);have p12 : 0 ≤ (t105 : Int) := of_decide_eq_true (by first | (with_reducible assumption) | assumption);have q12 : (t105 : Int) < ((t101.length : Int) : Int) := of_decide_eq_true (by first | (with_reducible assumption) | assumption);obtain ⟨go12, co12, eo12, gb12, gl12, cl12, HG12⟩ := Kd.R_form HO103.out (by omega);(first | cases eo12 | (injection eo12 with ea_ en_ ec_;(first | subst ea_ | (injection ea_ with ea_;subst ea_));subst ec_;clear en_));have GB12 := m0_ gb12;have GG12 := m0_ HG12;clear gb12 gl12 HG12;obtain ⟨ce12, hcl12, hM12, hcc12, hfr12⟩ := Kd.R_elem HO103.out z35 (t105 : Int) p12 q12;obtain rfl := k35_openM hM12;have hx12_0 : w20.cell? ⟨go12, (t105 : Int).toNat * 3, none⟩ = some (.int .i64 ((rd_T35 t101 t105).f0)) := hcc12 0 _ rfl;have hx12_1 : w20.cell? ⟨go12, (t105 : Int).toNat * 3 + 1, none⟩ = some (.int .i64 ((rd_T35 t101 t105).f1)) := hcc12 1 _ rfl;have hx12_2 : w20.cell? ⟨go12, (t105 : Int).toNat * 3 + 2, none⟩ = some (.int .i64 ((rd_T35 t101 t105).f2)) := hcc12 2 _ rfl;have hf12_0 : w20.frozen? ⟨go12, (t105 : Int).toNat * 3, none⟩ = false := hfr12 0;have hf12_1 : w20.frozen? ⟨go12, (t105 : Int).toNat * 3 + 1, none⟩ = false := hfr12 1;have hf12_2 : w20.frozen? ⟨go12, (t105 : Int).toNat * 3 + 2, none⟩ = false := hfr12 2;clear hcl12 hcc12 hfr12 hM12;replace p12 := eq_true p12;replace q12 := eq_true q12;have HX21 := m0_ (show Kd.R k35 35 w20 w.heap.size (fun _ => True) (.slice (some ⟨go12, 0, none⟩) t101.length co14) t101 from (by exact HO103.out));obtain ⟨ce21, hcl21, hM21, hcc21, hfr21⟩ := Kd.R_elem HX21.out z35 (t105 : Int) (of_decide_eq_true (by first | (with_reducible assumption) | assumption)) (by have h_ : (t105 : Int) < ((t101.length : Int) : Int) := of_decide_eq_true (by first | (with_reducible assumption) | assumption);first | exact h_ | (have e_ := (Kd.R_reads' HO103.out).1;omega) | simpa using h_);obtain rfl := k35_openM hM21;have HP21 := Kd.R_seg HX21.out (t105 : Int) (of_decide_eq_true (by first | (with_reducible assumption) | assumption)) (by have h_ : (t105 : Int) < ((t101.length : Int) : Int) := of_decide_eq_true (by first | (with_reducible assumption) | assumption);first | exact h_ | (have e_ := (Kd.R_reads' HO103.out).1;omega) | simpa using h_) (seg := [.int .i64 t112]) (j := 0) hcl21 hcc21 (show 1 ≤ 3 from by decide) (x' := (⟨t112, (rd_T35 t101 t105).f1, (rd_T35 t101 t105).f2⟩ : S35)) (k35_mkM _ _ _ (⟨t112, (rd_T35 t101 t105).f1, (rd_T35 t101 t105).f2⟩ : S35) ) (fun _ hk => hk);have hx21_0 := hcc21 0 _ rfl;(try simp only [show (k35).sz = 3 from rfl, Nat.mul_one, Nat.add_zero] at hx21_0);have hf21_0 := hfr21 0;(try simp only [show (k35).sz = 3 from rfl, Nat.mul_one, Nat.add_zero] at hf21_0);clear hcl21 hcc21 hfr21 hM21) | ((with_reducible refine gate_store (t := 3) (p := 25) rfl ?_);refine store_event (t := 3) (p := 25) (v := ?vo_w22) (w1 := (w20.setCell ⟨go12, (t105 : Int).toNat * 3, none⟩ (.int .i64 t112))) ?hg ?ho ?hn ?hr ?_;(case ho => rfl);(case hg => rfl);(case hn => rfl);(case hr => first | (go_simp;done) | (go_simp;rfl));intro w22 hw;have hg : w20.grownBy w22 (some go12) := (by rw [hw];exact HP21.2);have hp_ : Kd.R k35 35 w22 w.heap.size (fun _ => True) (.slice (some ⟨go12, 0, none⟩) t101.length co14) y114 := (by rw [hw, Ny114.out];exact HP21.1);clear HP21;replace HI0 := m0_ (IsS69.grown (by repeat (first | (with_reducible first | exact HI0.out | apply IsS69.alloc | apply IsS69.drewN | apply IsS69.drew | apply IsS69.set_1) | exact HI0.out)) hg (IsS69.own_ne HI0.out HO103.out (by decide)));replace HO111 := m0_ (Kd.R_over' (v := (.slice (some ⟨go12, 0, none⟩) t101.length co14)) (by exact HO111.out) (Kd.R_typed HO103.out) (by decide) hg);replace HB := m0_ ((by rw [hw];exact below_set (HB.out) (Nat.le_trans HL.out GB12.out) : Below w0.heap.size w0 w22));replace HK := m0_ (KeepBut.trans (by repeat (first | (with_reducible first | exact HK.out | apply KeepBut.set_ | apply keep_drewN | apply keep_drew | apply keep_alloc) | exact HK.out)) (KeepBut.of_grown hg g) (Kd.R_base2 HO103.out));replace HO103 := m0_ (hp_);clear hg hw hp_))
   go_ret
   exact ⟨_, by first | rfl | (simp [errW_none, errW_some] <;> rfl) | (simp [*, errW_none, errW_some] <;> rfl), by (with_reducible repeat (first | apply Kd.R_alloc | apply Kd.R_drewN | apply Kd.R_drew));exact HO103.out, by repeat (first | (with_reducible first | exact HI0.out | apply IsS69.alloc | apply IsS69.drewN | apply IsS69.drew | apply IsS69.set_1) | exact HI0.out), by repeat (first | (with_reducible first | exact HB.out | apply below_alloc | apply pw_below_drewN | apply below_drew1 | refine below_set ?_ (IsS69.ge HI0.out)) | exact HB.out), by repeat (first | (with_reducible first | exact HK.out | apply KeepBut.set_ | apply keep_drewN | apply keep_drew | apply keep_alloc) | exact HK.out)⟩
  ·rw [if_neg c11] at H
   exact absurd H (by simp)
 rw [if_neg c8] at H
 have c8b0 : (t107 == 0) = false := beq_eq_false_iff_ne.mpr c8
 have c8b1 : (t107 != 0) = true := bne_iff_ne.mpr c8
 by_cases c23 : t107 = 1
 ·rw [if_pos c23] at H
  have c23b0 : (t107 == 1) = true := beq_iff_eq.mpr c23
  have c23b1 : (t107 != 1) = false := bne_eq_false_iff_eq.mpr c23
  clear c23
  by_cases c24 : 0 < (t101.length : Int)
  rotate_left
  ·rw [if_neg c24] at H
   exact absurd H (by simp)
  rw [if_pos c24] at H
  have c24b0 : decide (0 < (t101.length : Int)) = true := decide_eq_true c24
  have c24b1 : decide (0 < t101.length) = true := decide_eq_true (by omega)
  clear c24
  obtain ⟨y116, hy116⟩ : ∃ y_ : List Int, y_ = (([0, 1001, (rd_T35 t101 0).f1] : List Int)) := ⟨_, rfl⟩
  replace H : ((spec_l14Rd_num.f k s0_0 t108 y116).bind fun bt119 => (if 0 ≤ t105 then (if t105 < (t101.length : Int) then (some ((t101.set (t105 : Int).toNat (⟨(rd_T35 t101 t105).f0, bt119.1, (rd_T35 t101 t105).f2⟩ : S35)), bt119.2)) else (none)) else (none))) = some (r1, r2) := by first | (rw [hy116];with_reducible exact H) | (have H2_ := (Option.bind_some _ _).symm.trans H;rw [hy116];with_reducible exact H2_) | (have H2_ := (Option.bind_some _ _).symm.trans H;with_reducible exact H2_) | with_reducible exact H | (rw [hy116];exact H) | exact H
  have Ny116 := m0_ hy116
  clear hy116
  replace H := Option.bind_eq_some_iff.mp H
  obtain ⟨⟨t119, t120⟩, A250, H⟩ := H
  replace H : (if 0 ≤ t105 then (if t105 < (t101.length : Int) then (some ((t101.set (t105 : Int).toNat (⟨(rd_T35 t101 t105).f0, t119, (rd_T35 t101 t105).f2⟩ : S35)), t120)) else (none)) else (none)) = some (r1, r2) := H
  have A25 := m0_ A250
  clear A250
  by_cases c26 : 0 ≤ t105
  rotate_left
  ·rw [if_neg c26] at H
   exact absurd H (by simp)
  rw [if_pos c26] at H
  have c26b0 : decide (0 ≤ t105) = true := decide_eq_true c26
  clear c26
  by_cases c27 : t105 < (t101.length : Int)
  ·rw [if_pos c27] at H
   have c27b0 : decide (t105 < (t101.length : Int)) = true := decide_eq_true c27
   clear c27
   obtain ⟨y121, hy121⟩ : ∃ y_ : List (S35), y_ = (t101.set (t105 : Int).toNat (⟨(rd_T35 t101 t105).f0, t119, (rd_T35 t101 t105).f2⟩ : S35)) := ⟨_, rfl⟩
   replace H : (some (y121, t120)) = some (r1, r2) := by first | (rw [hy121];with_reducible exact H) | (have H2_ := (Option.bind_some _ _).symm.trans H;rw [hy121];with_reducible exact H2_) | (have H2_ := (Option.bind_some _ _).symm.trans H;with_reducible exact H2_) | with_reducible exact H | (rw [hy121];exact H) | exact H
   have Ny121 := m0_ hy121
   clear hy121
   simp only [Option.some.injEq, Prod.mk.injEq] at H
   obtain ⟨rfl, rfl⟩ := H
   go_enter Tryd.func26, Tryd.ntmps26
   go_wp2_with (first | ((with_reducible refine gate_callee (f := 44) rfl ?_);refine goesL_ (some 6) rfl rfl Tryd.func44 (by kernel_rfl) rfl #[.pointer (some ⟨g, 0, none⟩), .int .i64 12] rfl (by (try simp only [List.map_toArray, List.map_cons, List.map_nil]);first | done | rfl | (simp only [List.length_drop, List.length_take];rfl)) ?_;(with_reducible refine (spec_l1Evs.calls k g s0_0 s0_1 12 t101 t104 w0 _ ?side1 ?side2 A2.out).mono ?_);(case side1 => repeat (first | (with_reducible first | exact HI0.out | apply IsS69.alloc | apply IsS69.drewN | apply IsS69.drew | apply IsS69.set_1) | exact HI0.out));(case side2 => repeat (first | (with_reducible first | exact HB.out | apply below_alloc | apply pw_below_drewN | apply below_drew1 | refine below_set ?_ (IsS69.ge HI0.out)) | exact HB.out));rintro e w29 ⟨v102, rfl, ho0, hi, hb, hk⟩;refine ⟨_, rfl, ?_⟩;have HO103 := m0_ (Kd.R_lower ho0 (keep_size (w := w) (g := g) (row := none) (by repeat (first | (with_reducible first | exact HK.out | apply KeepBut.set_ | apply keep_drewN | apply keep_drew | apply keep_alloc) | exact HK.out))));replace HK := m0_ (KeepBut.trans (by repeat (first | (with_reducible first | exact HK.out | apply KeepBut.set_ | apply keep_drewN | apply keep_drew | apply keep_alloc) | exact HK.out)) hk (.inl rfl));replace HB := m0_ (hb);replace HI0 := m0_ (hi);(try clear hb);(try clear hb2);(try clear hk);(try clear hi);(try clear ho0);obtain ⟨Ao30, co30, eo30⟩ := Kd.R_slice HO103.out;subst eo30) | ((with_reducible refine gate_callee (f := 35) rfl ?_);refine goesL_ (some 14) rfl rfl Tryd.func35 (by kernel_rfl) rfl #[.pointer (some ⟨g, 0, none⟩), .int .i64 (t101.length : Int)] rfl (by (try simp only [List.map_toArray, List.map_cons, List.map_nil]);first | done | rfl | (simp only [List.length_drop, List.length_take];rfl)) ?_;(with_reducible refine (spec_l14Rd_pick.calls k g s0_0 t104 (t101.length : Int) t105 t106 w0 _ ?side1 ?side2 A6.out).mono ?_);(case side1 => repeat (first | (with_reducible first | exact HI0.out | apply IsS69.alloc | apply IsS69.drewN | apply IsS69.drew | apply IsS69.set_1) | exact HI0.out));(case side2 => repeat (first | (with_reducible first | exact HB.out | apply below_alloc | apply pw_below_drewN | apply below_drew1 | refine below_set ?_ (IsS69.ge HI0.out)) | exact HB.out));rintro e w31 ⟨rfl, hi, hb, hk⟩;refine ⟨_, rfl, ?_⟩;replace HO103 := m0_ (Kd.R_mono (Kd.R_keep (IsS69.apart (show IsS69 w0 _ g s0_0 t104 from by repeat (first | (with_reducible first | exact HI0.out | apply IsS69.alloc | apply IsS69.drewN | apply IsS69.drew | apply IsS69.set_1) | exact HI0.out)) (by exact HO103.out) (by decide)) hk (fun _ h => h.2)) (fun _ h => h.1));replace HK := m0_ (KeepBut.trans (by repeat (first | (with_reducible first | exact HK.out | apply KeepBut.set_ | apply keep_drewN | apply keep_drew | apply keep_alloc) | exact HK.out)) hk (.inl rfl));replace HB := m0_ (hb);replace HI0 := m0_ (hi);(try clear hb);(try clear hb2);(try clear hk);(try clear hi)) | ((with_reducible refine gate_callee (f := 35) rfl ?_);refine goesL_ (some 16) rfl rfl Tryd.func35 (by kernel_rfl) rfl #[.pointer (some ⟨g, 0, none⟩), .int .i64 40] rfl (by (try simp only [List.map_toArray, List.map_cons, List.map_nil]);first | done | rfl | (simp only [List.length_drop, List.length_take];rfl)) ?_;(with_reducible refine (spec_l14Rd_pick.calls k g s0_0 t106 40 t107 t108 w0 _ ?side1 ?side2 A7.out).mono ?_);(case side1 => repeat (first | (with_reducible first | exact HI0.out | apply IsS69.alloc | apply IsS69.drewN | apply IsS69.drew | apply IsS69.set_1) | exact HI0.out));(case side2 => repeat (first | (with_reducible first | exact HB.out | apply below_alloc | apply pw_below_drewN | apply below_drew1 | refine below_set ?_ (IsS69.ge HI0.out)) | exact HB.out));rintro e w32 ⟨rfl, hi, hb, hk⟩;refine ⟨_, rfl, ?_⟩;replace HO103 := m0_ (Kd.R_mono (Kd.R_keep (IsS69.apart (show IsS69 w0 _ g s0_0 t106 from by repeat (first | (with_reducible first | exact HI0.out | apply IsS69.alloc | apply IsS69.drewN | apply IsS69.drew | apply IsS69.set_1) | exact HI0.out)) (by exact HO103.out) (by decide)) hk (fun _ h => h.2)) (fun _ h => h.1));replace HK := m0_ (KeepBut.trans (by repeat (first | (with_reducible first | exact HK.out | apply KeepBut.set_ | apply keep_drewN | apply keep_drew | apply keep_alloc) | exact HK.out)) hk (.inl rfl));replace HB := m0_ (hb);replace HI0 := m0_ (hi);(try clear hb);(try clear hb2);(try clear hk);(try clear hi);have p115 : 0 ≤ (0 : Int) := (by omega);have q115 : 0 < (t101.length : Int) := of_decide_eq_true (by first | (with_reducible assumption) | assumption);obtain ⟨ad115, e115, hx115_0, hx115_1, hx115_2⟩ := at_T35 (Kd.R_reads' HO103.out).2.2 0 p115 q115;cases e115;have qi115 : (0 < t101.length) = True := eq_true (by omega);(try rw [show ((0 : Int)).toNat = 0 from rfl] at hx115_0);(try rw [show 0 * 3 = 0 from rfl] at hx115_0);(try rw [Addr.add_zero'] at hx115_0);(try rw [show ((0 : Int)).toNat = 0 from rfl] at hx115_1);(try rw [show 0 * 3 = 0 from rfl] at hx115_1);(try rw [Addr.add_zero'] at hx115_1);(try rw [show ((0 : Int)).toNat = 0 from rfl] at hx115_2);(try rw [show 0 * 3 = 0 from rfl] at hx115_2);(try rw [Addr.add_zero'] at hx115_2);replace p115 := eq_true p115;replace q115 := eq_true q115) | ((with_reducible refine gate_dst (N := 35) rfl ?_);refine Kd.R_lit (Kd.int .i64) _ 3 ?hg (N := 35) ?hd (xs := ([0, 1001, (rd_T35 t101 0).f1] : List Int)) (inner := [.int .i64 0, .int .i64 1001, .int .i64 ((rd_T35 t101 0).f1)]) (ok := fun _ => True) (okp := fun _ => True) ?hr ?hp (fun _ hk => hk) trivial (Below.refl _ _) (Nat.le_refl _) (by simp) ?_;(case hd => rfl);(case hg => rfl);(case hr => first | (go_simp;done) | (go_simp;rfl));(case hp => exact (Reps.one (show Kd.M (Kd.int .i64) _ _ _ 0 [.int .i64 0] from rfl) (Reps.one (show Kd.M (Kd.int .i64) _ _ _ 1001 [.int .i64 1001] from rfl) (Reps.one (show Kd.M (Kd.int .i64) _ _ _ ((rd_T35 t101 0).f1) [.int .i64 ((rd_T35 t101 0).f1)] from rfl) (Reps.none _ _)))));intro v117 w33 ho34 hb hg_ hnew_;clear hg_ hnew_;(first | rw [← Ny116.out] at ho34 | (simp only [Int.reduceToNat] at ho34;rw [← Ny116.out] at ho34));replace HO103 := m0_ (Kd.R_below (by exact HO103.out) hb);have HO118 := m0_ (Kd.R_lower ho34 (keep_size (w := w) (g := g) (row := none) (by repeat (first | (with_reducible first | exact HK.out | apply KeepBut.set_ | apply keep_drewN | apply keep_drew | apply keep_alloc) | exact HK.out))));replace HK := m0_ (KeepBut.trans (by repeat (first | (with_reducible first | exact HK.out | apply KeepBut.set_ | apply keep_drewN | apply keep_drew | apply keep_alloc) | exact HK.out)) (KeepBut.of_below hb g none) (.inl rfl));replace HB := m0_ (below_step (by repeat (first | (with_reducible first | exact HB.out | apply below_alloc | apply pw_below_drewN | apply below_drew1 | refine below_set ?_ (IsS69.ge HI0.out)) | exact HB.out)) hb);replace HI0 := m0_ (IsS69.below (by repeat (first | (with_reducible first | exact HI0.out | apply IsS69.alloc | apply IsS69.drewN | apply IsS69.drew | apply IsS69.set_1) | exact HI0.out)) hb);clear hb ho34;obtain ⟨Ao35, co35, eo35⟩ := Kd.R_slice HO118.out;subst eo35) | ((with_reducible refine gate_callee (f := 39) rfl ?_);refine goesL_ (some 36) rfl rfl Tryd.func39 (by kernel_rfl) rfl #[.pointer (some ⟨g, 0, none⟩), .slice Ao35 y116.length co35] rfl (by (try simp only [List.map_toArray, List.map_cons, List.map_nil]);first | done | rfl | (simp only [List.length_drop, List.length_take];rfl)) ?_;(with_reducible refine (spec_l14Rd_num.calls k g s0_0 t108 _ _ y116 t119 t120 w0 _ ?side1 ?side2 ?side3 ?side4 ?side5 A25.out).mono ?_);(case side1 => repeat (first | (with_reducible first | exact HI0.out | apply IsS69.alloc | apply IsS69.drewN | apply IsS69.drew | apply IsS69.set_1) | exact HI0.out));(case side2 => repeat (first | (with_reducible first | exact HB.out | apply below_alloc | apply pw_below_drewN | apply below_drew1 | refine below_set ?_ (IsS69.ge HI0.out)) | exact HB.out));(case side3 => repeat (first | exact (Kd.R_reads' HO118.out).2.2 | (with_reducible refine Kd.C_alloc ?_ _) | (with_reducible refine Kd.C_drewN ?_ _) | (with_reducible refine Kd.C_drew ?_)));(case side4 => exact (Kd.R_reads' HO118.out).2.1);(case side5 => exact far_slice (IsS69.own_ne HI0.out HO118.out (by decide)));rintro e w36 ⟨rfl, hi, hb, hk⟩;refine ⟨_, rfl, ?_⟩;replace HO103 := m0_ (Kd.R_mono (Kd.R_keep (IsS69.apart (show IsS69 w0 _ g s0_0 t108 from by repeat (first | (with_reducible first | exact HI0.out | apply IsS69.alloc | apply IsS69.drewN | apply IsS69.drew | apply IsS69.set_1) | exact HI0.out)) (by exact HO103.out) (by decide)) hk (fun _ h => h.2)) (fun _ h => h.1));replace HO118 := m0_ (Kd.R_mono (Kd.R_keep (IsS69.apart (show IsS69 w0 _ g s0_0 t108 from by repeat (first | (with_reducible first | exact HI0.out | apply IsS69.alloc | apply IsS69.drewN | apply IsS69.drew | apply IsS69.set_1) | exact HI0.out)) (by exact HO118.out) (by decide)) hk (fun _ h => h.2)) (fun _ h => h.1));replace HK := m0_ (KeepBut.trans (by repeat (first | (with_reducible first | exact HK.out | apply KeepBut.set_ | apply keep_drewN | apply keep_drew | apply keep_alloc) | exact HK.out)) hk (.inl rfl));replace HB := m0_ (hb);replace HI0 := m0_ (hi);(try clear hb);(try clear hb2);(try clear hk);(try clear hi);have p28 : 0 ≤ (t105 : Int) := of_decide_eq_true (by first | (with_reducible assumption) | assumption);have q28 : (t105 : Int) < ((t101.length : Int) : Int) := of_decide_eq_true (by first | (with_reducible assumption) | assumption);obtain ⟨go28, co28, eo28, gb28, gl28, cl28, HG28⟩ := Kd.R_form HO103.out (by omega);(first | cases eo28 | (injection eo28 with ea_ en_ ec_;(first | subst ea_ | (injection ea_ with ea_;subst ea_));subst ec_;clear en_));have GB28 := m0_ gb28;have GG28 := m0_ HG28;clear gb28 gl28 HG28;(first | simp only [add_plain] at hx115_0 | skip);(first | simp only [add_plain] at hx115_1 | skip);(first | simp only [add_plain] at hx115_2 | skip);obtain ⟨ce28, hcl28, hM28, hcc28, hfr28⟩ := Kd.R_elem HO103.out z35 (t105 : Int) p28 q28;obtain rfl := k35_openM hM28;have hx28_0 : w36.cell? ⟨go28, (t105 : Int).toNat * 3, none⟩ = some (.int .i64 ((rd_T35 t101 t105).f0)) := hcc28 0 _ rfl;have hx28_1 : w36.cell? ⟨go28, (t105 : Int).toNat * 3 + 1, none⟩ = some (.int .i64 ((rd_T35 t101 t105).f1)) := hcc28 1 _ rfl;have hx28_2 : w36.cell? ⟨go28, (t105 : Int).toNat * 3 + 2, none⟩ = some (.int .i64 ((rd_T35 t101 t105).f2)) := hcc28 2 _ rfl;have hf28_0 : w36.frozen? ⟨go28, (t105 : Int).toNat * 3, none⟩ = false := hfr28 0;have hf28_1 : w36.frozen? ⟨go28, (t105 : Int).toNat * 3 + 1, none⟩ = false := hfr28 1;have hf28_2 : w36.frozen? ⟨go28, (t105 : Int).toNat * 3 + 2, none⟩ = false := hfr28 2;clear hcl28 hcc28 hfr28 hM28;replace p28 := eq_true p28;replace q28 := eq_true q28;have HX37 := m0_ (show Kd.R k35 35 w36 w.heap.size (fun _ => True) (.slice (some ⟨go28, 0, none⟩) t101.length co30) t101 from (by exact HO103.out));obtain ⟨ce37, hcl37, hM37, hcc37, hfr37⟩ := Kd.R_elem HX37.out z35 (t105 : Int) (of_decide_eq_true (by first | (with_reducible assumption) | assumption)) (by have h_ : (t105 : Int) < ((t101.length : Int) : Int) := of_decide_eq_true (by first | (with_reducible assumption) | assumption);first | exact h_ | (have e_ := (Kd.R_reads' HO103.out).1;omega) | simpa using h_);obtain rfl := k35_openM hM37;have HP37 := Kd.R_seg HX37.out (t105 : Int) (of_decide_eq_true (by first | (with_reducible assumption) | assumption)) (by have h_ : (t105 : Int) < ((t101.length : Int) : Int) := of_decide_eq_true (by first | (with_reducible assumption) | assumption);first | exact h_ | (have e_ := (Kd.R_reads' HO103.out).1;omega) | simpa using h_) (seg := [.int .i64 t119]) (j := 1) hcl37 hcc37 (show 2 ≤ 3 from by decide) (x' := (⟨(rd_T35 t101 t105).f0, t119, (rd_T35 t101 t105).f2⟩ : S35)) (k35_mkM _ _ _ (⟨(rd_T35 t101 t105).f0, t119, (rd_T35 t101 t105).f2⟩ : S35) ) (fun _ hk => hk);have hx37_1 := hcc37 1 _ rfl;(try simp only [show (k35).sz = 3 from rfl, Nat.mul_one, Nat.add_zero] at hx37_1);have hf37_1 := hfr37 1;(try simp only [show (k35).sz = 3 from rfl, Nat.mul_one, Nat.add_zero] at hf37_1);clear hcl37 hcc37 hfr37 hM37) | ((with_reducible refine gate_store (t := 3) (p := 38) rfl ?_);refine store_event (t := 3) (p := 38) (v := ?vo_w38) (w1 := (w36.setCell ⟨go28, (t105 : Int).toNat * 3 + 1, none⟩ (.int .i64 t119))) ?hg ?ho ?hn ?hr ?_;(case ho => rfl);(case hg => rfl);(case hn => rfl);(case hr => first | (go_simp;done) | (go_simp;rfl));intro w38 hw;have hg : w36.grownBy w38 (some go28) := (by rw [hw];exact HP37.2);have hp_ : Kd.R k35 35 w38 w.heap.size (fun _ => True) (.slice (some ⟨go28, 0, none⟩) t101.length co30) y121 := (by rw [hw, Ny121.out];exact HP37.1);clear HP37;replace HI0 := m0_ (IsS69.grown (by repeat (first | (with_reducible first | exact HI0.out | apply IsS69.alloc | apply IsS69.drewN | apply IsS69.drew | apply IsS69.set_1) | exact HI0.out)) hg (IsS69.own_ne HI0.out HO103.out (by decide)));replace HO118 := m0_ (Kd.R_over' (v := (.slice (some ⟨go28, 0, none⟩) t101.length co30)) (by exact HO118.out) (Kd.R_typed HO103.out) (by decide) hg);replace HB := m0_ ((by rw [hw];exact below_set (HB.out) (Nat.le_trans HL.out GB28.out) : Below w0.heap.size w0 w38));replace HK := m0_ (KeepBut.trans (by repeat (first | (with_reducible first | exact HK.out | apply KeepBut.set_ | apply keep_drewN | apply keep_drew | apply keep_alloc) | exact HK.out)) (KeepBut.of_grown hg g) (Kd.R_base2 HO103.out));replace HO103 := m0_ (hp_);clear hg hw hp_))
   go_ret
   exact ⟨_, by first | rfl | (simp [errW_none, errW_some] <;> rfl) | (simp [*, errW_none, errW_some] <;> rfl), by (with_reducible repeat (first | apply Kd.R_alloc | apply Kd.R_drewN | apply Kd.R_drew));exact HO103.out, by repeat (first | (with_reducible first | exact HI0.out | apply IsS69.alloc | apply IsS69.drewN | apply IsS69.drew | apply IsS69.set_1) | exact HI0.out), by repeat (first | (with_reducible first | exact HB.out | apply below_alloc | apply pw_below_drewN | apply below_drew1 | refine below_set ?_ (IsS69.ge HI0.out)) | exact HB.out), by repeat (first | (with_reducible first | exact HK.out | apply KeepBut.set_ | apply keep_drewN | apply keep_drew | apply keep_alloc) | exact HK.out)⟩
  ·rw [if_neg c27] at H
   exact absurd H (by simp)
 rw [if_neg c23] at H
 have c23b0 : (t107 == 1) = false := beq_eq_false_iff_ne.mpr c23
 have c23b1 : (t107 != 1) = true := bne_iff_ne.mpr c23
 by_cases c39 : t107 = 2
 ·rw [if_pos c39] at H
  have c39b0 : (t107 == 2) = true := beq_iff_eq.mpr c39
  have c39b1 : (t107 != 2) = false := bne_eq_false_iff_eq.mpr c39
  clear c39
  obtain ⟨y122, hy122⟩ : ∃ y_ : List Int, y_ = (([(-1), 101] : List Int)) := ⟨_, rfl⟩
  replace H : ((spec_l14Rd_num.f k s0_0 t108 y122).bind fun bt125 => (if 0 ≤ t105 then (if t105 < (t101.length : Int) then (some ((t101.set (t105 : Int).toNat (⟨(rd_T35 t101 t105).f0, (rd_T35 t101 t105).f1, bt125.1⟩ : S35)), bt125.2)) else (none)) else (none))) = some (r1, r2) := by first | (rw [hy122];with_reducible exact H) | (have H2_ := (Option.bind_some _ _).symm.trans H;rw [hy122];with_reducible exact H2_) | (have H2_ := (Option.bind_some _ _).symm.trans H;with_reducible exact H2_) | with_reducible exact H | (rw [hy122];exact H) | exact H
  have Ny122 := m0_ hy122
  clear hy122
  replace H := Option.bind_eq_some_iff.mp H
  obtain ⟨⟨t125, t126⟩, A400, H⟩ := H
  replace H : (if 0 ≤ t105 then (if t105 < (t101.length : Int) then (some ((t101.set (t105 : Int).toNat (⟨(rd_T35 t101 t105).f0, (rd_T35 t101 t105).f1, t125⟩ : S35)), t126)) else (none)) else (none)) = some (r1, r2) := H
  have A40 := m0_ A400
  clear A400
  by_cases c41 : 0 ≤ t105
  rotate_left
  ·rw [if_neg c41] at H
   exact absurd H (by simp)
  rw [if_pos c41] at H
  have c41b0 : decide (0 ≤ t105) = true := decide_eq_true c41
  clear c41
  by_cases c42 : t105 < (t101.length : Int)
  ·rw [if_pos c42] at H
   have c42b0 : decide (t105 < (t101.length : Int)) = true := decide_eq_true c42
   clear c42
   obtain ⟨y127, hy127⟩ : ∃ y_ : List (S35), y_ = (t101.set (t105 : Int).toNat (⟨(rd_T35 t101 t105).f0, (rd_T35 t101 t105).f1, t125⟩ : S35)) := ⟨_, rfl⟩
   replace H : (some (y127, t126)) = some (r1, r2) := by first | (rw [hy127];with_reducible exact H) | (have H2_ := (Option.bind_some _ _).symm.trans H;rw [hy127];with_reducible exact H2_) | (have H2_ := (Option.bind_some _ _).symm.trans H;with_reducible exact H2_) | with_reducible exact H | (rw [hy127];exact H) | exact H
   have Ny127 := m0_ hy127
   clear hy127
   simp only [Option.some.injEq, Prod.mk.injEq] at H
   obtain ⟨rfl, rfl⟩ := H
   go_enter Tryd.func26, Tryd.ntmps26
   go_wp2_with (first | ((with_reducible refine gate_callee (f := 44) rfl ?_);refine goesL_ (some 6) rfl rfl Tryd.func44 (by kernel_rfl) rfl #[.pointer (some ⟨g, 0, none⟩), .int .i64 12] rfl (by (try simp only [List.map_toArray, List.map_cons, List.map_nil]);first | done | rfl | (simp only [List.length_drop, List.length_take];rfl)) ?_;(with_reducible refine (spec_l1Evs.calls k g s0_0 s0_1 12 t101 t104 w0 _ ?side1 ?side2 A2.out).mono ?_);(case side1 => repeat (first | (with_reducible first | exact HI0.out | apply IsS69.alloc | apply IsS69.drewN | apply IsS69.drew | apply IsS69.set_1) | exact HI0.out));(case side2 => repeat (first | (with_reducible first | exact HB.out | apply below_alloc | apply pw_below_drewN | apply below_drew1 | refine below_set ?_ (IsS69.ge HI0.out)) | exact HB.out));rintro e w44 ⟨v102, rfl, ho0, hi, hb, hk⟩;refine ⟨_, rfl, ?_⟩;have HO103 := m0_ (Kd.R_lower ho0 (keep_size (w := w) (g := g) (row := none) (by repeat (first | (with_reducible first | exact HK.out | apply KeepBut.set_ | apply keep_drewN | apply keep_drew | apply keep_alloc) | exact HK.out))));replace HK := m0_ (KeepBut.trans (by repeat (first | (with_reducible first | exact HK.out | apply KeepBut.set_ | apply keep_drewN | apply keep_drew | apply keep_alloc) | exact HK.out)) hk (.inl rfl));replace HB := m0_ (hb);replace HI0 := m0_ (hi);(try clear hb);(try clear hb2);(try clear hk);(try clear hi);(try clear ho0);obtain ⟨Ao45, co45, eo45⟩ := Kd.R_slice HO103.out;subst eo45) | ((with_reducible refine gate_callee (f := 35) rfl ?_);refine goesL_ (some 14) rfl rfl Tryd.func35 (by kernel_rfl) rfl #[.pointer (some ⟨g, 0, none⟩), .int .i64 (t101.length : Int)] rfl (by (try simp only [List.map_toArray, List.map_cons, List.map_nil]);first | done | rfl | (simp only [List.length_drop, List.length_take];rfl)) ?_;(with_reducible refine (spec_l14Rd_pick.calls k g s0_0 t104 (t101.length : Int) t105 t106 w0 _ ?side1 ?side2 A6.out).mono ?_);(case side1 => repeat (first | (with_reducible first | exact HI0.out | apply IsS69.alloc | apply IsS69.drewN | apply IsS69.drew | apply IsS69.set_1) | exact HI0.out));(case side2 => repeat (first | (with_reducible first | exact HB.out | apply below_alloc | apply pw_below_drewN | apply below_drew1 | refine below_set ?_ (IsS69.ge HI0.out)) | exact HB.out));rintro e w46 ⟨rfl, hi, hb, hk⟩;refine ⟨_, rfl, ?_⟩;replace HO103 := m0_ (Kd.R_mono (Kd.R_keep (IsS69.apart (show IsS69 w0 _ g s0_0 t104 from by repeat (first | (with_reducible first | exact HI0.out | apply IsS69.alloc | apply IsS69.drewN | apply IsS69.drew | apply IsS69.set_1) | exact HI0.out)) (by exact HO103.out) (by decide)) hk (fun _ h => h.2)) (fun _ h => h.1));replace HK := m0_ (KeepBut.trans (by repeat (first | (with_reducible first | exact HK.out | apply KeepBut.set_ | apply keep_drewN | apply keep_drew | apply keep_alloc) | exact HK.out)) hk (.inl rfl));replace HB := m0_ (hb);replace HI0 := m0_ (hi);(try clear hb);(try clear hb2);(try clear hk);(try clear hi)) | ((with_reducible refine gate_callee (f := 35) rfl ?_);refine goesL_ (some 16) rfl rfl Tryd.func35 (by kernel_rfl) rfl #[.pointer (some ⟨g, 0, none⟩), .int .i64 40] rfl (by (try simp only [List.map_toArray, List.map_cons, List.map_nil]);first | done | rfl | (simp only [List.length_drop, List.length_take];rfl)) ?_;(with_reducible refine (spec_l14Rd_pick.calls k g s0_0 t106 40 t107 t108 w0 _ ?side1 ?side2 A7.out).mono ?_);(case side1 => repeat (first | (with_reducible first | exact HI0.out | apply IsS69.alloc | apply IsS69.drewN | apply IsS69.drew | apply IsS69.set_1) | exact HI0.out));(case side2 => repeat (first | (with_reducible first | exact HB.out | apply below_alloc | apply pw_below_drewN | apply below_drew1 | refine below_set ?_ (IsS69.ge HI0.out)) | exact HB.out));rintro e w47 ⟨rfl, hi, hb, hk⟩;refine ⟨_, rfl, ?_⟩;replace HO103 := m0_ (Kd.R_mono (Kd.R_keep (IsS69.apart (show IsS69 w0 _ g s0_0 t106 from by repeat (first | (with_reducible first | exact HI0.out | apply IsS69.alloc | apply IsS69.drewN | apply IsS69.drew | apply IsS69.set_1) | exact HI0.out)) (by exact HO103.out) (by decide)) hk (fun _ h => h.2)) (fun _ h => h.1));replace HK := m0_ (KeepBut.trans (by repeat (first | (with_reducible first | exact HK.out | apply KeepBut.set_ | apply keep_drewN | apply keep_drew | apply keep_alloc) | exact HK.out)) hk (.inl rfl));replace HB := m0_ (hb);replace HI0 := m0_ (hi);(try clear hb);(try clear hb2);(try clear hk);(try clear hi)) | ((with_reducible refine gate_dst (N := 44) rfl ?_);refine Kd.R_lit (Kd.int .i64) _ 3 ?hg (N := 44) ?hd (xs := ([(-1), 101] : List Int)) (inner := [.int .i64 (-1), .int .i64 101]) (ok := fun _ => True) (okp := fun _ => True) ?hr ?hp (fun _ hk => hk) trivial (Below.refl _ _) (Nat.le_refl _) (by simp) ?_;(case hd => rfl);(case hg => rfl);(case hr => first | (go_simp;done) | (go_simp;rfl));(case hp => exact (Reps.one (show Kd.M (Kd.int .i64) _ _ _ (-1) [.int .i64 (-1)] from rfl) (Reps.one (show Kd.M (Kd.int .i64) _ _ _ 101 [.int .i64 101] from rfl) (Reps.none _ _))));intro v123 w48 ho49 hb hg_ hnew_;clear hg_ hnew_;(first | rw [← Ny122.out] at ho49 | (simp only [Int.reduceToNat] at ho49;rw [← Ny122.out] at ho49));replace HO103 := m0_ (Kd.R_below (by exact HO103.out) hb);have HO124 := m0_ (Kd.R_lower ho49 (keep_size (w := w) (g := g) (row := none) (by repeat (first | (with_reducible first | exact HK.out | apply KeepBut.set_ | apply keep_drewN | apply keep_drew | apply keep_alloc) | exact HK.out))));replace HK := m0_ (KeepBut.trans (by repeat (first | (with_reducible first | exact HK.out | apply KeepBut.set_ | apply keep_drewN | apply keep_drew | apply keep_alloc) | exact HK.out)) (KeepBut.of_below hb g none) (.inl rfl));replace HB := m0_ (below_step (by repeat (first | (with_reducible first | exact HB.out | apply below_alloc | apply pw_below_drewN | apply below_drew1 | refine below_set ?_ (IsS69.ge HI0.out)) | exact HB.out)) hb);replace HI0 := m0_ (IsS69.below (by repeat (first | (with_reducible first | exact HI0.out | apply IsS69.alloc | apply IsS69.drewN | apply IsS69.drew | apply IsS69.set_1) | exact HI0.out)) hb);clear hb ho49;obtain ⟨Ao50, co50, eo50⟩ := Kd.R_slice HO124.out;subst eo50) | ((with_reducible refine gate_callee (f := 39) rfl ?_);refine goesL_ (some 45) rfl rfl Tryd.func39 (by kernel_rfl) rfl #[.pointer (some ⟨g, 0, none⟩), .slice Ao50 y122.length co50] rfl (by (try simp only [List.map_toArray, List.map_cons, List.map_nil]);first | done | rfl | (simp only [List.length_drop, List.length_take];rfl)) ?_;(with_reducible refine (spec_l14Rd_num.calls k g s0_0 t108 _ _ y122 t125 t126 w0 _ ?side1 ?side2 ?side3 ?side4 ?side5 A40.out).mono ?_);(case side1 => repeat (first | (with_reducible first | exact HI0.out | apply IsS69.alloc | apply IsS69.drewN | apply IsS69.drew | apply IsS69.set_1) | exact HI0.out));(case side2 => repeat (first | (with_reducible first | exact HB.out | apply below_alloc | apply pw_below_drewN | apply below_drew1 | refine below_set ?_ (IsS69.ge HI0.out)) | exact HB.out));(case side3 => repeat (first | exact (Kd.R_reads' HO124.out).2.2 | (with_reducible refine Kd.C_alloc ?_ _) | (with_reducible refine Kd.C_drewN ?_ _) | (with_reducible refine Kd.C_drew ?_)));(case side4 => exact (Kd.R_reads' HO124.out).2.1);(case side5 => exact far_slice (IsS69.own_ne HI0.out HO124.out (by decide)));rintro e w51 ⟨rfl, hi, hb, hk⟩;refine ⟨_, rfl, ?_⟩;replace HO103 := m0_ (Kd.R_mono (Kd.R_keep (IsS69.apart (show IsS69 w0 _ g s0_0 t108 from by repeat (first | (with_reducible first | exact HI0.out | apply IsS69.alloc | apply IsS69.drewN | apply IsS69.drew | apply IsS69.set_1) | exact HI0.out)) (by exact HO103.out) (by decide)) hk (fun _ h => h.2)) (fun _ h => h.1));replace HO124 := m0_ (Kd.R_mono (Kd.R_keep (IsS69.apart (show IsS69 w0 _ g s0_0 t108 from by repeat (first | (with_reducible first | exact HI0.out | apply IsS69.alloc | apply IsS69.drewN | apply IsS69.drew | apply IsS69.set_1) | exact HI0.out)) (by exact HO124.out) (by decide)) hk (fun _ h => h.2)) (fun _ h => h.1));replace HK := m0_ (KeepBut.trans (by repeat (first | (with_reducible first | exact HK.out | apply KeepBut.set_ | apply keep_drewN | apply keep_drew | apply keep_alloc) | exact HK.out)) hk (.inl rfl));replace HB := m0_ (hb);replace HI0 := m0_ (hi);(try clear hb);(try clear hb2);(try clear hk);(try clear hi);have p43 : 0 ≤ (t105 : Int) := of_decide_eq_true (by first | (with_reducible assumption) | assumption);have q43 : (t105 : Int) < ((t101.length : Int) : Int) := of_decide_eq_true (by first | (with_reducible assumption) | assumption);obtain ⟨go43, co43, eo43, gb43, gl43, cl43, HG43⟩ := Kd.R_form HO103.out (by omega);(first | cases eo43 | (injection eo43 with ea_ en_ ec_;(first | subst ea_ | (injection ea_ with ea_;subst ea_));subst ec_;clear en_));have GB43 := m0_ gb43;have GG43 := m0_ HG43;clear gb43 gl43 HG43;obtain ⟨ce43, hcl43, hM43, hcc43, hfr43⟩ := Kd.R_elem HO103.out z35 (t105 : Int) p43 q43;obtain rfl := k35_openM hM43;have hx43_0 : w51.cell? ⟨go43, (t105 : Int).toNat * 3, none⟩ = some (.int .i64 ((rd_T35 t101 t105).f0)) := hcc43 0 _ rfl;have hx43_1 : w51.cell? ⟨go43, (t105 : Int).toNat * 3 + 1, none⟩ = some (.int .i64 ((rd_T35 t101 t105).f1)) := hcc43 1 _ rfl;have hx43_2 : w51.cell? ⟨go43, (t105 : Int).toNat * 3 + 2, none⟩ = some (.int .i64 ((rd_T35 t101 t105).f2)) := hcc43 2 _ rfl;have hf43_0 : w51.frozen? ⟨go43, (t105 : Int).toNat * 3, none⟩ = false := hfr43 0;have hf43_1 : w51.frozen? ⟨go43, (t105 : Int).toNat * 3 + 1, none⟩ = false := hfr43 1;have hf43_2 : w51.frozen? ⟨go43, (t105 : Int).toNat * 3 + 2, none⟩ = false := hfr43 2;clear hcl43 hcc43 hfr43 hM43;replace p43 := eq_true p43;replace q43 := eq_true q43;have HX52 := m0_ (show Kd.R k35 35 w51 w.heap.size (fun _ => True) (.slice (some ⟨go43, 0, none⟩) t101.length co45) t101 from (by exact HO103.out));obtain ⟨ce52, hcl52, hM52, hcc52, hfr52⟩ := Kd.R_elem HX52.out z35 (t105 : Int) (of_decide_eq_true (by first | (with_reducible assumption) | assumption)) (by have h_ : (t105 : Int) < ((t101.length : Int) : Int) := of_decide_eq_true (by first | (with_reducible assumption) | assumption);first | exact h_ | (have e_ := (Kd.R_reads' HO103.out).1;omega) | simpa using h_);obtain rfl := k35_openM hM52;have HP52 := Kd.R_seg HX52.out (t105 : Int) (of_decide_eq_true (by first | (with_reducible assumption) | assumption)) (by have h_ : (t105 : Int) < ((t101.length : Int) : Int) := of_decide_eq_true (by first | (with_reducible assumption) | assumption);first | exact h_ | (have e_ := (Kd.R_reads' HO103.out).1;omega) | simpa using h_) (seg := [.int .i64 t125]) (j := 2) hcl52 hcc52 (show 3 ≤ 3 from by decide) (x' := (⟨(rd_T35 t101 t105).f0, (rd_T35 t101 t105).f1, t125⟩ : S35)) (k35_mkM _ _ _ (⟨(rd_T35 t101 t105).f0, (rd_T35 t101 t105).f1, t125⟩ : S35) ) (fun _ hk => hk);have hx52_2 := hcc52 2 _ rfl;(try simp only [show (k35).sz = 3 from rfl, Nat.mul_one, Nat.add_zero] at hx52_2);have hf52_2 := hfr52 2;(try simp only [show (k35).sz = 3 from rfl, Nat.mul_one, Nat.add_zero] at hf52_2);clear hcl52 hcc52 hfr52 hM52) | ((with_reducible refine gate_store (t := 3) (p := 47) rfl ?_);refine store_event (t := 3) (p := 47) (v := ?vo_w53) (w1 := (w51.setCell ⟨go43, (t105 : Int).toNat * 3 + 2, none⟩ (.int .i64 t125))) ?hg ?ho ?hn ?hr ?_;(case ho => rfl);(case hg => rfl);(case hn => rfl);(case hr => first | (go_simp;done) | (go_simp;rfl));intro w53 hw;have hg : w51.grownBy w53 (some go43) := (by rw [hw];exact HP52.2);have hp_ : Kd.R k35 35 w53 w.heap.size (fun _ => True) (.slice (some ⟨go43, 0, none⟩) t101.length co45) y127 := (by rw [hw, Ny127.out];exact HP52.1);clear HP52;replace HI0 := m0_ (IsS69.grown (by repeat (first | (with_reducible first | exact HI0.out | apply IsS69.alloc | apply IsS69.drewN | apply IsS69.drew | apply IsS69.set_1) | exact HI0.out)) hg (IsS69.own_ne HI0.out HO103.out (by decide)));replace HO124 := m0_ (Kd.R_over' (v := (.slice (some ⟨go43, 0, none⟩) t101.length co45)) (by exact HO124.out) (Kd.R_typed HO103.out) (by decide) hg);replace HB := m0_ ((by rw [hw];exact below_set (HB.out) (Nat.le_trans HL.out GB43.out) : Below w0.heap.size w0 w53));replace HK := m0_ (KeepBut.trans (by repeat (first | (with_reducible first | exact HK.out | apply KeepBut.set_ | apply keep_drewN | apply keep_drew | apply keep_alloc) | exact HK.out)) (KeepBut.of_grown hg g) (Kd.R_base2 HO103.out));replace HO103 := m0_ (hp_);clear hg hw hp_))
   go_ret
   exact ⟨_, by first | rfl | (simp [errW_none, errW_some] <;> rfl) | (simp [*, errW_none, errW_some] <;> rfl), by (with_reducible repeat (first | apply Kd.R_alloc | apply Kd.R_drewN | apply Kd.R_drew));exact HO103.out, by repeat (first | (with_reducible first | exact HI0.out | apply IsS69.alloc | apply IsS69.drewN | apply IsS69.drew | apply IsS69.set_1) | exact HI0.out), by repeat (first | (with_reducible first | exact HB.out | apply below_alloc | apply pw_below_drewN | apply below_drew1 | refine below_set ?_ (IsS69.ge HI0.out)) | exact HB.out), by repeat (first | (with_reducible first | exact HK.out | apply KeepBut.set_ | apply keep_drewN | apply keep_drew | apply keep_alloc) | exact HK.out)⟩
  ·rw [if_neg c42] at H
   exact absurd H (by simp)
 rw [if_neg c39] at H
 have c39b0 : (t107 == 2) = false := beq_eq_false_iff_ne.mpr c39
 have c39b1 : (t107 != 2) = true := bne_iff_ne.mpr c39
 by_cases c54 : t107 = 3
 rotate_left
 ·rw [if_neg c54] at H
  have c54b0 : (t107 == 3) = false := beq_eq_false_iff_ne.mpr c54
  have c54b1 : (t107 != 3) = true := bne_iff_ne.mpr c54
  simp only [Option.some.injEq, Prod.mk.injEq] at H
  obtain ⟨rfl, rfl⟩ := H
  go_enter Tryd.func26, Tryd.ntmps26
  go_wp2_with (first | ((with_reducible refine gate_callee (f := 44) rfl ?_);refine goesL_ (some 6) rfl rfl Tryd.func44 (by kernel_rfl) rfl #[.pointer (some ⟨g, 0, none⟩), .int .i64 12] rfl (by (try simp only [List.map_toArray, List.map_cons, List.map_nil]);first | done | rfl | (simp only [List.length_drop, List.length_take];rfl)) ?_;(with_reducible refine (spec_l1Evs.calls k g s0_0 s0_1 12 t101 t104 w0 _ ?side1 ?side2 A2.out).mono ?_);(case side1 => repeat (first | (with_reducible first | exact HI0.out | apply IsS69.alloc | apply IsS69.drewN | apply IsS69.drew | apply IsS69.set_1) | exact HI0.out));(case side2 => repeat (first | (with_reducible first | exact HB.out | apply below_alloc | apply pw_below_drewN | apply below_drew1 | refine below_set ?_ (IsS69.ge HI0.out)) | exact HB.out));rintro e w67 ⟨v102, rfl, ho0, hi, hb, hk⟩;refine ⟨_, rfl, ?_⟩;have HO103 := m0_ (Kd.R_lower ho0 (keep_size (w := w) (g := g) (row := none) (by repeat (first | (with_reducible first | exact HK.out | apply KeepBut.set_ | apply keep_drewN | apply keep_drew | apply keep_alloc) | exact HK.out))));replace HK := m0_ (KeepBut.trans (by repeat (first | (with_reducible first | exact HK.out | apply KeepBut.set_ | apply keep_drewN | apply keep_drew | apply keep_alloc) | exact HK.out)) hk (.inl rfl));replace HB := m0_ (hb);replace HI0 := m0_ (hi);(try clear hb);(try clear hb2);(try clear hk);(try clear hi);(try clear ho0);obtain ⟨Ao68, co68, eo68⟩ := Kd.R_slice HO103.out;subst eo68) | ((with_reducible refine gate_callee (f := 35) rfl ?_);refine goesL_ (some 14) rfl rfl Tryd.func35 (by kernel_rfl) rfl #[.pointer (some ⟨g, 0, none⟩), .int .i64 (t101.length : Int)] rfl (by (try simp only [List.map_toArray, List.map_cons, List.map_nil]);first | done | rfl | (simp only [List.length_drop, List.length_take];rfl)) ?_;(with_reducible refine (spec_l14Rd_pick.calls k g s0_0 t104 (t101.length : Int) t105 t106 w0 _ ?side1 ?side2 A6.out).mono ?_);(case side1 => repeat (first | (with_reducible first | exact HI0.out | apply IsS69.alloc | apply IsS69.drewN | apply IsS69.drew | apply IsS69.set_1) | exact HI0.out));(case side2 => repeat (first | (with_reducible first | exact HB.out | apply below_alloc | apply pw_below_drewN | apply below_drew1 | refine below_set ?_ (IsS69.ge HI0.out)) | exact HB.out));rintro e w69 ⟨rfl, hi, hb, hk⟩;refine ⟨_, rfl, ?_⟩;replace HO103 := m0_ (Kd.R_mono (Kd.R_keep (IsS69.apart (show IsS69 w0 _ g s0_0 t104 from by repeat (first | (with_reducible first | exact HI0.out | apply IsS69.alloc | apply IsS69.drewN | apply IsS69.drew | apply IsS69.set_1) | exact HI0.out)) (by exact HO103.out) (by decide)) hk (fun _ h => h.2)) (fun _ h => h.1));replace HK := m0_ (KeepBut.trans (by repeat (first | (with_reducible first | exact HK.out | apply KeepBut.set_ | apply keep_drewN | apply keep_drew | apply keep_alloc) | exact HK.out)) hk (.inl rfl));replace HB := m0_ (hb);replace HI0 := m0_ (hi);(try clear hb);(try clear hb2);(try clear hk);(try clear hi)) | ((with_reducible refine gate_callee (f := 35) rfl ?_);refine goesL_ (some 16) rfl rfl Tryd.func35 (by kernel_rfl) rfl #[.pointer (some ⟨g, 0, none⟩), .int .i64 40] rfl (by (try simp only [List.map_toArray, List.map_cons, List.map_nil]);first | done | rfl | (simp only [List.length_drop, List.length_take];rfl)) ?_;(with_reducible refine (spec_l14Rd_pick.calls k g s0_0 t106 40 t107 t108 w0 _ ?side1 ?side2 A7.out).mono ?_);(case side1 => repeat (first | (with_reducible first | exact HI0.out | apply IsS69.alloc | apply IsS69.drewN | apply IsS69.drew | apply IsS69.set_1) | exact HI0.out));(case side2 => repeat (first | (with_reducible first | exact HB.out | apply below_alloc | apply pw_below_drewN | apply below_drew1 | refine below_set ?_ (IsS69.ge HI0.out)) | exact HB.out));rintro e w70 ⟨rfl, hi, hb, hk⟩;refine ⟨_, rfl, ?_⟩;replace HO103 := m0_ (Kd.R_mono (Kd.R_keep (IsS69.apart (show IsS69 w0 _ g s0_0 t106 from by repeat (first | (with_reducible first | exact HI0.out | apply IsS69.alloc | apply IsS69.drewN | apply IsS69.drew | apply IsS69.set_1) | exact HI0.out)) (by exact HO103.out) (by decide)) hk (fun _ h => h.2)) (fun _ h => h.1));replace HK := m0_ (KeepBut.trans (by repeat (first | (with_reducible first | exact HK.out | apply KeepBut.set_ | apply keep_drewN | apply keep_drew | apply keep_alloc) | exact HK.out)) hk (.inl rfl));replace HB := m0_ (hb);replace HI0 := m0_ (hi);(try clear hb);(try clear hb2);(try clear hk);(try clear hi)))
  go_ret
  exact ⟨_, by first | rfl | (simp [errW_none, errW_some] <;> rfl) | (simp [*, errW_none, errW_some] <;> rfl), by (with_reducible repeat (first | apply Kd.R_alloc | apply Kd.R_drewN | apply Kd.R_drew));exact HO103.out, by repeat (first | (with_reducible first | exact HI0.out | apply IsS69.alloc | apply IsS69.drewN | apply IsS69.drew | apply IsS69.set_1) | exact HI0.out), by repeat (first | (with_reducible first | exact HB.out | apply below_alloc | apply pw_below_drewN | apply below_drew1 | refine below_set ?_ (IsS69.ge HI0.out)) | exact HB.out), by repeat (first | (with_reducible first | exact HK.out | apply KeepBut.set_ | apply keep_drewN | apply keep_drew | apply keep_alloc) | exact HK.out)⟩
 rw [if_pos c54] at H
 have c54b0 : (t107 == 3) = true := beq_iff_eq.mpr c54
 have c54b1 : (t107 != 3) = false := bne_eq_false_iff_eq.mpr c54
 clear c54
 have H' := m0_ H
 clear H
 go_enter Tryd.func26, Tryd.ntmps26
 go_wp2_with (first | ((with_reducible refine gate_callee (f := 44) rfl ?_);refine goesL_ (some 6) rfl rfl Tryd.func44 (by kernel_rfl) rfl #[.pointer (some ⟨g, 0, none⟩), .int .i64 12] rfl (by (try simp only [List.map_toArray, List.map_cons, List.map_nil]);first | done | rfl | (simp only [List.length_drop, List.length_take];rfl)) ?_;(with_reducible refine (spec_l1Evs.calls k g s0_0 s0_1 12 t101 t104 w0 _ ?side1 ?side2 A2.out).mono ?_);(case side1 => repeat (first | (with_reducible first | exact HI0.out | apply IsS69.alloc | apply IsS69.drewN | apply IsS69.drew | apply IsS69.set_1) | exact HI0.out));(case side2 => repeat (first | (with_reducible first | exact HB.out | apply below_alloc | apply pw_below_drewN | apply below_drew1 | refine below_set ?_ (IsS69.ge HI0.out)) | exact HB.out));rintro e w55 ⟨v102, rfl, ho0, hi, hb, hk⟩;refine ⟨_, rfl, ?_⟩;have HO103 := m0_ (Kd.R_lower ho0 (keep_size (w := w) (g := g) (row := none) (by repeat (first | (with_reducible first | exact HK.out | apply KeepBut.set_ | apply keep_drewN | apply keep_drew | apply keep_alloc) | exact HK.out))));replace HK := m0_ (KeepBut.trans (by repeat (first | (with_reducible first | exact HK.out | apply KeepBut.set_ | apply keep_drewN | apply keep_drew | apply keep_alloc) | exact HK.out)) hk (.inl rfl));replace HB := m0_ (hb);replace HI0 := m0_ (hi);(try clear hb);(try clear hb2);(try clear hk);(try clear hi);(try clear ho0);obtain ⟨Ao56, co56, eo56⟩ := Kd.R_slice HO103.out;subst eo56) | ((with_reducible refine gate_callee (f := 35) rfl ?_);refine goesL_ (some 14) rfl rfl Tryd.func35 (by kernel_rfl) rfl #[.pointer (some ⟨g, 0, none⟩), .int .i64 (t101.length : Int)] rfl (by (try simp only [List.map_toArray, List.map_cons, List.map_nil]);first | done | rfl | (simp only [List.length_drop, List.length_take];rfl)) ?_;(with_reducible refine (spec_l14Rd_pick.calls k g s0_0 t104 (t101.length : Int) t105 t106 w0 _ ?side1 ?side2 A6.out).mono ?_);(case side1 => repeat (first | (with_reducible first | exact HI0.out | apply IsS69.alloc | apply IsS69.drewN | apply IsS69.drew | apply IsS69.set_1) | exact HI0.out));(case side2 => repeat (first | (with_reducible first | exact HB.out | apply below_alloc | apply pw_below_drewN | apply below_drew1 | refine below_set ?_ (IsS69.ge HI0.out)) | exact HB.out));rintro e w57 ⟨rfl, hi, hb, hk⟩;refine ⟨_, rfl, ?_⟩;replace HO103 := m0_ (Kd.R_mono (Kd.R_keep (IsS69.apart (show IsS69 w0 _ g s0_0 t104 from by repeat (first | (with_reducible first | exact HI0.out | apply IsS69.alloc | apply IsS69.drewN | apply IsS69.drew | apply IsS69.set_1) | exact HI0.out)) (by exact HO103.out) (by decide)) hk (fun _ h => h.2)) (fun _ h => h.1));replace HK := m0_ (KeepBut.trans (by repeat (first | (with_reducible first | exact HK.out | apply KeepBut.set_ | apply keep_drewN | apply keep_drew | apply keep_alloc) | exact HK.out)) hk (.inl rfl));replace HB := m0_ (hb);replace HI0 := m0_ (hi);(try clear hb);(try clear hb2);(try clear hk);(try clear hi)) | ((with_reducible refine gate_callee (f := 35) rfl ?_);refine goesL_ (some 16) rfl rfl Tryd.func35 (by kernel_rfl) rfl #[.pointer (some ⟨g, 0, none⟩), .int .i64 40] rfl (by (try simp only [List.map_toArray, List.map_cons, List.map_nil]);first | done | rfl | (simp only [List.length_drop, List.length_take];rfl)) ?_;(with_reducible refine (spec_l14Rd_pick.calls k g s0_0 t106 40 t107 t108 w0 _ ?side1 ?side2 A7.out).mono ?_);(case side1 => repeat (first | (with_reducible first | exact HI0.out | apply IsS69.alloc | apply IsS69.drewN | apply IsS69.drew | apply IsS69.set_1) | exact HI0.out));(case side2 => repeat (first | (with_reducible first | exact HB.out | apply below_alloc | apply pw_below_drewN | apply below_drew1 | refine below_set ?_ (IsS69.ge HI0.out)) | exact HB.out));rintro e w58 ⟨rfl, hi, hb, hk⟩;refine ⟨_, rfl, ?_⟩;replace HO103 := m0_ (Kd.R_mono (Kd.R_keep (IsS69.apart (show IsS69 w0 _ g s0_0 t106 from by repeat (first | (with_reducible first | exact HI0.out | apply IsS69.alloc | apply IsS69.drewN | apply IsS69.drew | apply IsS69.set_1) | exact HI0.out)) (by exact HO103.out) (by decide)) hk (fun _ h => h.2)) (fun _ h => h.1));replace HK := m0_ (KeepBut.trans (by repeat (first | (with_reducible first | exact HK.out | apply KeepBut.set_ | apply keep_drewN | apply keep_drew | apply keep_alloc) | exact HK.out)) hk (.inl rfl));replace HB := m0_ (hb);replace HI0 := m0_ (hi);(try clear hb);(try clear hb2);(try clear hk);(try clear hi)))
 go_loopg [3] k (fun kq v3 w' => ∃ (x3_1 : List (S35)), Aside0 (spec_l1Bent.l0 kq x3_1 s0_0 t108 = some (r1, r2)) ∧ Aside0 (kq ≤ k) ∧ Aside0 (Kd.R k35 35 w' w.heap.size (fun _ => True) v3 x3_1) ∧ Aside0 (IsS69 w0 w' g s0_0 t108) ∧ Aside0 (KeepBut w w' g none) ∧ Aside0 (Below w0.heap.size w0 w'))
 case atStart => exact ⟨(t101), H', ⟨Nat.le_refl _⟩, ⟨by (with_reducible repeat (first | apply Kd.R_alloc | apply Kd.R_drewN | apply Kd.R_drew));exact HO103.out⟩, ⟨by repeat (first | (with_reducible first | exact HI0.out | apply IsS69.alloc | apply IsS69.drewN | apply IsS69.drew | apply IsS69.set_1) | exact HI0.out)⟩, ⟨by repeat (first | (with_reducible first | exact HK.out | apply KeepBut.set_ | apply keep_drewN | apply keep_drew | apply keep_alloc) | exact HK.out)⟩, ⟨by repeat (first | (with_reducible first | exact HB.out | apply below_alloc | apply pw_below_drewN | apply below_drew1 | refine below_set ?_ (IsS69.ge HI0.out)) | exact HB.out)⟩⟩
 case round =>
  clear H'
  try clear c1
  try clear p1
  try clear q1
  try clear hx1
  try clear qi1
  try clear hf1
  try clear c2
  try clear p2
  try clear q2
  try clear hx2
  try clear hf2
  try clear c3
  try clear c3b0
  try clear c3b1
  try clear c3b2
  try clear hx3
  try clear hf3
  try clear c4
  try clear p4
  try clear q4
  try clear hx4
  try clear hf4
  try clear c5
  try clear hx5
  try clear hf5
  try clear c8
  try clear c8b0
  try clear c8b1
  try clear c10
  try clear c10b0
  try clear c11
  try clear c11b0
  try clear p11
  try clear q11
  try clear hx11
  try clear qi11
  try clear c12
  try clear p12
  try clear q12
  try clear hx12
  try clear hf12
  try clear c21
  try clear hx21
  try clear hf21
  try clear c23
  try clear c23b0
  try clear c23b1
  try clear c24
  try clear c24b0
  try clear c24b1
  try clear c26
  try clear c26b0
  try clear c27
  try clear c27b0
  try clear c28
  try clear p28
  try clear q28
  try clear hx28
  try clear hf28
  try clear c35
  try clear c37
  try clear hx37
  try clear hf37
  try clear c39
  try clear c39b0
  try clear c39b1
  try clear c41
  try clear c41b0
  try clear c42
  try clear c42b0
  try clear c43
  try clear p43
  try clear q43
  try clear hx43
  try clear hf43
  try clear c44
  try clear c52
  try clear hx52
  try clear hf52
  try clear c54
  try clear c54b0
  try clear c54b1
  try clear hx115_0
  try clear hx115_1
  try clear hx115_2
  try clear hx12_0
  try clear hx12_1
  try clear hx12_2
  try clear hx21_0
  try clear hx28_0
  try clear hx28_1
  try clear hx28_2
  try clear hx37_1
  try clear hx43_0
  try clear hx43_1
  try clear hx43_2
  try clear hx52_2
  try clear p115
  try clear p12
  try clear p28
  try clear p43
  try clear q115
  try clear q12
  try clear q28
  try clear q43
  obtain ⟨x3_1, HA, HK1, HO_3, HI0, HK, HB⟩ := hrel
  cases gk with
  | zero => exact absurd HA.out (by simp [spec_l1Bent.l0])
  | succ k1 =>
   have H := HA.out
   clear HA
   simp only [spec_l1Bent.l0] at H
   by_cases c59 : (x3_1.length : Int) ≤ 24
   rotate_left
   ·rw [if_neg c59] at H
    have c59b0 : decide ((x3_1.length : Int) ≤ 24) = false := decide_eq_false c59
    have c59b1 : decide (x3_1.length ≤ 24) = false := decide_eq_false (by omega)
    clear c59
    simp only [Option.some.injEq, Prod.mk.injEq] at H
    obtain ⟨rfl, rfl⟩ := H
    obtain ⟨Ao66, co66, eo66⟩ := Kd.R_slice HO_3.out
    subst eo66
    go_wp2
    go_ret
    exact ⟨_, by first | rfl | (simp [errW_none, errW_some] <;> rfl) | (simp [*, errW_none, errW_some] <;> rfl), by (with_reducible repeat (first | apply Kd.R_alloc | apply Kd.R_drewN | apply Kd.R_drew));exact HO_3.out, by repeat (first | (with_reducible first | exact HI0.out | apply IsS69.alloc | apply IsS69.drewN | apply IsS69.drew | apply IsS69.set_1) | exact HI0.out), by repeat (first | (with_reducible first | exact HB.out | apply below_alloc | apply pw_below_drewN | apply below_drew1 | refine below_set ?_ (IsS69.ge HI0.out)) | exact HB.out), by repeat (first | (with_reducible first | exact HK.out | apply KeepBut.set_ | apply keep_drewN | apply keep_drew | apply keep_alloc) | exact HK.out)⟩
   rw [if_pos c59] at H
   have c59b0 : decide ((x3_1.length : Int) ≤ 24) = true := decide_eq_true c59
   have c59b1 : decide (x3_1.length ≤ 24) = true := decide_eq_true (by omega)
   clear c59
   obtain ⟨ji60, hji60⟩ : ∃ j_ : Int, (wrap64 ((x3_1.length : Int) - 1)) = j_ := ⟨_, rfl⟩
   replace H : (if 0 ≤ (ji60) then (if (ji60) < (x3_1.length : Int) then (if x3_1.length < 5864062014805 then (spec_l1Bent.l0 k1 (x3_1 ++ [(⟨0, wrap64 (((rd_T35 x3_1 (ji60)).f1) + 1), 0⟩ : S35)]) s0_0 t108) else (none)) else (none)) else (none)) = some (r1, r2) := by first | (rw [hji60] at H;exact H) | (simp only [hji60] at H ⊢;exact H)
   have hji60w : (IntKind.i64.wrap ((x3_1.length : Int) - 1)) = ji60 := (i64_w _).trans hji60
   by_cases c61 : 0 ≤ (ji60)
   rotate_left
   ·rw [if_neg c61] at H
    exact absurd H (by simp)
   rw [if_pos c61] at H
   have c61b0 : decide (0 ≤ (ji60)) = true := decide_eq_true c61
   clear c61
   by_cases c62 : (ji60) < (x3_1.length : Int)
   rotate_left
   ·rw [if_neg c62] at H
    exact absurd H (by simp)
   rw [if_pos c62] at H
   have c62b0 : decide ((ji60) < (x3_1.length : Int)) = true := decide_eq_true c62
   clear c62
   by_cases c63 : x3_1.length < 5864062014805
   rotate_left
   ·rw [if_neg c63] at H
    exact absurd H (by simp)
   rw [if_pos c63] at H
   have LMc63 := m0_ c63
   clear c63
   obtain ⟨y129, hy129⟩ : ∃ y_ : List (S35), y_ = (x3_1 ++ [(⟨0, wrap64 (((rd_T35 x3_1 (ji60)).f1) + 1), 0⟩ : S35)]) := ⟨_, rfl⟩
   replace H : (spec_l1Bent.l0 k1 y129 s0_0 t108) = some (r1, r2) := by first | (rw [hy129];with_reducible exact H) | (have H2_ := (Option.bind_some _ _).symm.trans H;rw [hy129];with_reducible exact H2_) | (have H2_ := (Option.bind_some _ _).symm.trans H;with_reducible exact H2_) | with_reducible exact H | (rw [hy129];exact H) | exact H
   have Ny129 := m0_ hy129
   clear hy129
   have H' := m0_ H
   clear H
   obtain ⟨Ao64, co64, eo64⟩ := Kd.R_slice HO_3.out
   subst eo64
   have p128 : 0 ≤ ((ji60) : Int) := of_decide_eq_true (by first | (with_reducible assumption) | assumption)
   have q128 : (ji60) < (x3_1.length : Int) := of_decide_eq_true (by first | (with_reducible assumption) | assumption)
   obtain ⟨ad128, e128, hx128_0, hx128_1, hx128_2⟩ := at_T35 (Kd.R_reads' HO_3.out).2.2 (ji60) p128 q128
   cases e128
   replace p128 := eq_true p128
   replace q128 := eq_true q128
   go_wp2_with (first | ((with_reducible refine gate_builtin (b := .append) (xs := #[.tmp 53, .tmp 63]) rfl ?_);at_builtin;refine Kd.R_append k35 w.heap.size rfl (.tmp 53) (.tmp 63) 23 35 (.agg #[(.int .i64 0), (.int .i64 0), (.int .i64 0)]) 24 rfl Tryd.underlying23 info35 rfl (by decide) (by omega) (.slice (some ad128) x3_1.length co64) x3_1 (⟨0, wrap64 (((rd_T35 x3_1 (ji60)).f1) + 1), 0⟩ : S35) [.int .i64 0, .int .i64 (wrap64 (((rd_T35 x3_1 (ji60)).f1) + 1)), .int .i64 0] (fun _ => True) (fun _ => False) rfl rfl ?aP (fun _ hk => hk.elim) ?aF ?aO (Below.refl _ _) ?aS ?aL ?_;(case aP => exact k35_mkM _ _ _ (⟨0, wrap64 (((rd_T35 x3_1 (ji60)).f1) + 1), 0⟩ : S35));(case aF => exact (fun _ _ => trivial));(case aO => exact (by exact HO_3.out));(case aS => exact (keep_size (w := w) (g := g) (row := none) (by repeat (first | (with_reducible first | exact HK.out | apply KeepBut.set_ | apply keep_drewN | apply keep_drew | apply keep_alloc) | exact HK.out))));(case aL => have := LMc63.out;omega);intro v130 w65 ho hb hg hat;rw [← Ny129.out] at ho;have n0_ := m0_ (IsS69.grown (by repeat (first | (with_reducible first | exact HI0.out | apply IsS69.alloc | apply IsS69.drewN | apply IsS69.drew | apply IsS69.set_1) | exact HI0.out)) hg (IsS69.own_ne HI0.out HO_3.out (by decide)));have n1_ := m0_ (below_weaken (by repeat (first | (with_reducible first | exact HB.out | apply below_alloc | apply pw_below_drewN | apply below_drew1 | refine below_set ?_ (IsS69.ge HI0.out)) | exact HB.out)) HL.out hb);have n2_ := m0_ (KeepBut.trans (by repeat (first | (with_reducible first | exact HK.out | apply KeepBut.set_ | apply keep_drewN | apply keep_drew | apply keep_alloc) | exact HK.out)) (KeepBut.of_grown hg g) (Kd.R_base2 HO_3.out));have n3_ := m0_ (ho);clear HI0;clear HB;clear HK;clear HO_3;have HI0 := n0_;have HB := n1_;have HK := n2_;have HO131 := n3_;clear n0_ n1_ n2_ n3_;clear ho hb hg hat))
   go_roundg k1
   case measure => have := HK1.out;omega
   case rel => exact ⟨(y129), H', ⟨by have := HK1.out;omega⟩, ⟨by (with_reducible repeat (first | apply Kd.R_alloc | apply Kd.R_drewN | apply Kd.R_drew));exact HO131.out⟩, ⟨by repeat (first | (with_reducible first | exact HI0.out | apply IsS69.alloc | apply IsS69.drewN | apply IsS69.drew | apply IsS69.set_1) | exact HI0.out)⟩, ⟨by repeat (first | (with_reducible first | exact HK.out | apply KeepBut.set_ | apply keep_drewN | apply keep_drew | apply keep_alloc) | exact HK.out)⟩, ⟨by repeat (first | (with_reducible first | exact HB.out | apply below_alloc | apply pw_below_drewN | apply below_drew1 | refine below_set ?_ (IsS69.ge HI0.out)) | exact HB.out)⟩⟩

def spec_l14Open.f (l0 : List Int) : Option (List Int × Int) := if (l0.length : Int) > 2000 then (if 2000 ≤ (l0.length : Int) then (some (l0.take 2000, 0)) else (none)) else (some (l0, 0))
set_option maxHeartbeats 8000000 in
set_option maxRecDepth 100000 in
theorem spec_l14Open.calls (A0 : Option Addr) (c0 : Nat) (l0 : List Int) (r1 : List Int) (r2 : Int) (w0 w : World) (hB : Below w0.heap.size w0 w) (hr0 : Kd.C (Kd.int .u8) w0 A0 l0.length l0) (hc0 : l0.length ≤ c0) (h : spec_l14Open.f l0 = some (r1, r2)) :
  Calls Tryd.prog 27 #[.slice A0 l0.length c0] w fun e w' => ∃ g_ : Nat, e = .returned (.pointer (some ⟨g_, 0, none⟩)) ∧ IsS69 w0 w' g_ r1 r2 ∧ Below w0.heap.size w0 w' ∧ Below w.heap.size w w' := by
 have hu69 := Tryd.underlying69
 have HR0 := m0_ hr0
 have HC0 := m0_ hc0
 clear hr0 hc0
 have HBW := m0_ (Below.refl w.heap.size w)
 have HW0 := m0_ hB.size
 have HB := m0_ hB
 clear hB
 have H : (if (l0.length : Int) > 2000 then (if 2000 ≤ (l0.length : Int) then (some (l0.take 2000, 0)) else (none)) else (some (l0, 0))) = some (r1, r2) := h
 clear h
 by_cases c2 : (l0.length : Int) > 2000
 rotate_left
 ·rw [if_neg c2] at H
  have c2b0 : decide (2000 < (l0.length : Int)) = false := decide_eq_false c2
  have c2b1 : decide (2000 < l0.length) = false := decide_eq_false (by omega)
  clear c2
  simp only [Option.some.injEq, Prod.mk.injEq] at H
  obtain ⟨rfl, rfl⟩ := H
  go_enter Tryd.func27, Tryd.ntmps27
  go_wp2_with (first | ((with_reducible refine gate_dst (N := 10) rfl ?_);refine box_event ?hg (N := 10) ?hd (cs := #[.slice A0 l0.length c0, .int .i64 0]) (t := 69) ?hr ?_;(case hd => rfl);(case hg => rfl);(case hr => first | (go_simp;done) | (go_simp;rfl));intro gb103 hg w6 hbox hb;replace HB := m0_ (below_step (by exact HB.out) hb);have BK103 := m0_ (hbox);have GW103 := m0_ ((by rw [hg];exact (below_size (by repeat (first | (with_reducible first | exact HBW.out | apply below_alloc | apply pw_below_drewN | apply below_drew1) | exact HBW.out))) : w.heap.size ≤ gb103));have GE103 := m0_ ((Nat.le_trans HW0.out (by rw [hg];exact (below_size (by repeat (first | (with_reducible first | exact HBW.out | apply below_alloc | apply pw_below_drewN | apply below_drew1) | exact HBW.out))) : w.heap.size ≤ gb103) : w0.heap.size ≤ gb103));replace HBW := m0_ (below_step HBW.out hb);clear hb hbox hg))
  go_ret
  exact ⟨_, rfl, (show IsS69 w0 _ gb103 l0 0 from ⟨_, _, by (with_reducible repeat (first | refine blk_drewN ?_ _ | refine blk_drew ?_ | refine blk_alloc ?_ _));exact BK103.out, GE103.out, HR0.out⟩), by repeat (first | (with_reducible first | exact HB.out | apply below_alloc | apply pw_below_drewN | apply below_drew1 | refine below_set ?_ GE103.out) | exact HB.out), by repeat (first | (with_reducible first | exact HBW.out | apply below_alloc | apply pw_below_drewN | apply below_drew1 | refine below_set ?_ GW103.out) | exact HBW.out)⟩
 rw [if_pos c2] at H
 have c2b0 : decide (2000 < (l0.length : Int)) = true := decide_eq_true c2
 have c2b1 : decide (2000 < l0.length) = true := decide_eq_true (by omega)
 clear c2
 by_cases c3 : 2000 ≤ (l0.length : Int)
 rotate_left
 ·rw [if_neg c3] at H
  exact absurd H (by simp)
 rw [if_pos c3] at H
 have c3b0 := eq_true c3
 have c3b1 : decide (2000 ≤ (l0.length : Int)) = true := decide_eq_true c3
 clear c3
 simp only [Option.some.injEq, Prod.mk.injEq] at H
 obtain ⟨rfl, rfl⟩ := H
 obtain ⟨i04, hi04, _, hsz4, _⟩ := info_parts info5
 obtain ⟨hcut4, hA4, hC4⟩ := print_take_of (P := Tryd.prog) (Value.int .u8) 0 22 5 .i64 Tryd.underlying22 hi04 hsz4 A0 c0 l0 2000 (by omega) (of_decide_eq_true (by first | (with_reducible assumption) | assumption)) HC0.out
 have HR101 := m0_ (Kd.C_of_reads (h1 := fun _ => rfl) (hA4 _ (Kd.reads_of_C HR0.out)))
 have HC101 := m0_ hC4
 clear hA4 hC4 hi04 hsz4
 go_enter Tryd.func27, Tryd.ntmps27
 go_wp2_with (first | ((with_reducible refine gate_dst (N := 10) rfl ?_);refine box_event ?hg (N := 10) ?hd (cs := #[.slice A0 (l0.take 2000).length c0, .int .i64 0]) (t := 69) ?hr ?_;(case hd => rfl);(case hg => rfl);(case hr => first | (go_simp;done) | (go_simp;rfl));intro gb102 hg w5 hbox hb;replace HB := m0_ (below_step (by exact HB.out) hb);have BK102 := m0_ (hbox);have GW102 := m0_ ((by rw [hg];exact (below_size (by repeat (first | (with_reducible first | exact HBW.out | apply below_alloc | apply pw_below_drewN | apply below_drew1) | exact HBW.out))) : w.heap.size ≤ gb102));have GE102 := m0_ ((Nat.le_trans HW0.out (by rw [hg];exact (below_size (by repeat (first | (with_reducible first | exact HBW.out | apply below_alloc | apply pw_below_drewN | apply below_drew1) | exact HBW.out))) : w.heap.size ≤ gb102) : w0.heap.size ≤ gb102));replace HBW := m0_ (below_step HBW.out hb);clear hb hbox hg))
 go_ret
 exact ⟨_, rfl, (show IsS69 w0 _ gb102 (l0.take 2000) 0 from ⟨_, _, by (with_reducible repeat (first | refine blk_drewN ?_ _ | refine blk_drew ?_ | refine blk_alloc ?_ _));exact BK102.out, GE102.out, HR101.out⟩), by repeat (first | (with_reducible first | exact HB.out | apply below_alloc | apply pw_below_drewN | apply below_drew1 | refine below_set ?_ GE102.out) | exact HB.out), by repeat (first | (with_reducible first | exact HBW.out | apply below_alloc | apply pw_below_drewN | apply below_drew1 | refine below_set ?_ GW102.out) | exact HBW.out)⟩

def spec_l14Rd_of.f (k : Nat) (s0_0 : List Int) (s0_1 : Int) (l1 : List ByteArray) : Option (ByteArray × Int) := (spec_l14Rd_pick.f k s0_0 s0_1 (l1.length : Int)).bind fun bt101 => (if 0 ≤ bt101.1 then (if bt101.1 < (l1.length : Int) then (some (rdOf ByteArray.empty l1 bt101.1, bt101.2)) else (none)) else (none))
set_option maxHeartbeats 8000000 in
set_option maxRecDepth 100000 in
theorem spec_l14Rd_of.calls (k : Nat) (g : Nat) (s0_0 : List Int) (s0_1 : Int) (A1 : Option Addr) (c1 : Nat) (l1 : List ByteArray) (r1 : ByteArray) (r2 : Int) (w0 w : World) (hI : IsS69 w0 w g s0_0 s0_1) (hB : Below w0.heap.size w0 w) (hr1 : Kd.C Kd.string w A1 l1.length l1) (hc1 : l1.length ≤ c1) (hf1 : ∀ ad, A1 = some ad → 0 < l1.length → ad.block ≠ g) (h : spec_l14Rd_of.f k s0_0 s0_1 l1 = some (r1, r2)) :
  Calls Tryd.prog 36 #[.pointer (some ⟨g, 0, none⟩), .slice A1 l1.length c1] w fun e w' => e = .returned (.string r1) ∧ IsS69 w0 w' g s0_0 r2 ∧ Below w0.heap.size w0 w' ∧ KeepBut w w' g none := by
 have HR1 := m0_ hr1
 have HC1 := m0_ hc1
 clear hr1 hc1
 have HI0 := m0_ hI
 have HK := m0_ (KeepBut.refl w g none)
 have HL := m0_ hB.size
 clear hI
 have HW0 := m0_ hB.size
 have HB := m0_ hB
 clear hB
 have H : ((spec_l14Rd_pick.f k s0_0 s0_1 (l1.length : Int)).bind fun bt101 => (if 0 ≤ bt101.1 then (if bt101.1 < (l1.length : Int) then (some (rdOf ByteArray.empty l1 bt101.1, bt101.2)) else (none)) else (none))) = some (r1, r2) := h
 clear h
 replace H := Option.bind_eq_some_iff.mp H
 obtain ⟨⟨t101, t102⟩, A30, H⟩ := H
 replace H : (if 0 ≤ t101 then (if t101 < (l1.length : Int) then (some (rdOf ByteArray.empty l1 t101, t102)) else (none)) else (none)) = some (r1, r2) := H
 have A3 := m0_ A30
 clear A30
 by_cases c4 : 0 ≤ t101
 rotate_left
 ·rw [if_neg c4] at H
  exact absurd H (by simp)
 rw [if_pos c4] at H
 have c4b0 : decide (0 ≤ t101) = true := decide_eq_true c4
 clear c4
 by_cases c5 : t101 < (l1.length : Int)
 ·rw [if_pos c5] at H
  have c5b0 : decide (t101 < (l1.length : Int)) = true := decide_eq_true c5
  clear c5
  simp only [Option.some.injEq, Prod.mk.injEq] at H
  obtain ⟨rfl, rfl⟩ := H
  go_enter Tryd.func36, Tryd.ntmps36
  go_wp2_with (first | ((with_reducible refine gate_callee (f := 35) rfl ?_);refine goesL_ (some 9) rfl rfl Tryd.func35 (by kernel_rfl) rfl #[.pointer (some ⟨g, 0, none⟩), .int .i64 (l1.length : Int)] rfl (by (try simp only [List.map_toArray, List.map_cons, List.map_nil]);first | done | rfl | (simp only [List.length_drop, List.length_take];rfl)) ?_;(with_reducible refine (spec_l14Rd_pick.calls k g s0_0 s0_1 (l1.length : Int) t101 t102 w0 _ ?side1 ?side2 A3.out).mono ?_);(case side1 => repeat (first | (with_reducible first | exact HI0.out | apply IsS69.alloc | apply IsS69.drewN | apply IsS69.drew | apply IsS69.set_1) | exact HI0.out));(case side2 => repeat (first | (with_reducible first | exact HB.out | apply below_alloc | apply pw_below_drewN | apply below_drew1 | refine below_set ?_ (IsS69.ge HI0.out)) | exact HB.out));rintro e w6 ⟨rfl, hi, hb, hk⟩;refine ⟨_, rfl, ?_⟩;replace HK := m0_ (KeepBut.trans (by repeat (first | (with_reducible first | exact HK.out | apply KeepBut.set_ | apply keep_drewN | apply keep_drew | apply keep_alloc) | exact HK.out)) hk (.inl rfl));replace HB := m0_ (hb);replace HI0 := m0_ (hi);(try clear hb);(try clear hb2);(try clear hk);(try clear hi);have p103 : 0 ≤ (t101 : Int) := of_decide_eq_true (by first | (with_reducible assumption) | assumption);have q103 : t101 < (l1.length : Int) := of_decide_eq_true (by first | (with_reducible assumption) | assumption);obtain ⟨ad103, e103, hx103_0⟩ := Kd.at_string HR1.out t101 p103 q103;cases e103;replace hx103_0 := keep_cell HK.out hx103_0 (by first | (rw [add_block];exact hf1 _ rfl (by omega)) | exact hf1 _ rfl (by omega) | exact hf1 ad103 rfl (by omega));replace p103 := eq_true p103;replace q103 := eq_true q103))
  go_ret
  exact ⟨by first | rfl | (simp [errW_none, errW_some] <;> rfl) | (simp [*, errW_none, errW_some] <;> rfl), by repeat (first | (with_reducible first | exact HI0.out | apply IsS69.alloc | apply IsS69.drewN | apply IsS69.drew | apply IsS69.set_1) | exact HI0.out), by repeat (first | (with_reducible first | exact HB.out | apply below_alloc | apply pw_below_drewN | apply below_drew1 | refine below_set ?_ (IsS69.ge HI0.out)) | exact HB.out), by repeat (first | (with_reducible first | exact HK.out | apply KeepBut.set_ | apply keep_drewN | apply keep_drew | apply keep_alloc) | exact HK.out)⟩
 ·rw [if_neg c5] at H
  exact absurd H (by simp)

def spec_l1Letter.f (a0 : Int) : Option (ByteArray) := if a0 < 0 then (some (⟨#[63]⟩ : ByteArray)) else (if a0 ≥ 5 then (some (⟨#[63]⟩ : ByteArray)) else (if 0 ≤ a0 then (if a0 ≤ (wrap64 (a0 + 1)) then (if (wrap64 (a0 + 1)) ≤ 5 then (some ((⟨#[97, 98, 99, 100, 101]⟩ : ByteArray).extract (a0 : Int).toNat ((wrap64 (a0 + 1)) : Int).toNat)) else (none)) else (none)) else (none)))
set_option maxHeartbeats 8000000 in
set_option maxRecDepth 100000 in
theorem spec_l1Letter.calls (a0 : Int) (r : ByteArray) (w : World) (h : spec_l1Letter.f a0 = some r) :
  Calls Tryd.prog 32 #[.int .i64 a0] w fun e w' => e = .returned (.string r) ∧ Drawn0 w w' := by
 have H : (if a0 < 0 then (some (⟨#[63]⟩ : ByteArray)) else (if a0 ≥ 5 then (some (⟨#[63]⟩ : ByteArray)) else (if 0 ≤ a0 then (if a0 ≤ (wrap64 (a0 + 1)) then (if (wrap64 (a0 + 1)) ≤ 5 then (some ((⟨#[97, 98, 99, 100, 101]⟩ : ByteArray).extract (a0 : Int).toNat ((wrap64 (a0 + 1)) : Int).toNat)) else (none)) else (none)) else (none)))) = some r := h
 clear h
 by_cases c2 : a0 < 0
 ·rw [if_pos c2] at H
  have c2b0 : decide (a0 < 0) = true := decide_eq_true c2
  clear c2
  obtain rfl := Option.some.inj H
  go_enter Tryd.func32, Tryd.ntmps32
  go_wp2
  go_ret
  exact ⟨by first | rfl | (simp;done) | (simp [*];done), by repeat (first | exact Drawn0.refl _ | apply Drawn0.step)⟩
 rw [if_neg c2] at H
 have c2b0 : decide (a0 < 0) = false := decide_eq_false c2
 clear c2
 by_cases c3 : a0 ≥ 5
 ·rw [if_pos c3] at H
  have c3b0 : decide (5 ≤ a0) = true := decide_eq_true c3
  clear c3
  obtain rfl := Option.some.inj H
  go_enter Tryd.func32, Tryd.ntmps32
  go_wp2
  go_ret
  exact ⟨by first | rfl | (simp;done) | (simp [*];done), by repeat (first | exact Drawn0.refl _ | apply Drawn0.step)⟩
 rw [if_neg c3] at H
 have c3b0 : decide (5 ≤ a0) = false := decide_eq_false c3
 clear c3
 by_cases c4 : 0 ≤ a0
 rotate_left
 ·rw [if_neg c4] at H
  exact absurd H (by simp)
 rw [if_pos c4] at H
 have c4b0 := eq_true c4
 have c4b1 : decide (0 ≤ a0) = true := decide_eq_true c4
 clear c4
 by_cases c5 : a0 ≤ (wrap64 (a0 + 1))
 ·rw [if_pos c5] at H
  have c5b0 := eq_true c5
  have c5b1 : decide (a0 ≤ (wrap64 (a0 + 1))) = true := decide_eq_true c5
  by_cases c6 : (wrap64 (a0 + 1)) ≤ 5
  ·rw [if_pos c6] at H
   have c6b0 := eq_true c6
   have c6b1 : decide ((wrap64 (a0 + 1)) ≤ 5) = true := decide_eq_true c6
   obtain rfl := Option.some.inj H
   go_enter Tryd.func32, Tryd.ntmps32
   go_wp2
   go_ret
   exact ⟨by first | rfl | (simp;done) | (simp [*];done), by repeat (first | exact Drawn0.refl _ | apply Drawn0.step)⟩
  ·rw [if_neg c6] at H
   exact absurd H (by simp)
 ·rw [if_neg c5] at H
  exact absurd H (by simp)

mutual
def spec_l14Dec.l0 : Nat → Int → ByteArray → Option (ByteArray)
 | 0, _, _ => none
 | k + 1, x0, x3 => if x0 > 9 then ((some (([(wrap64 (48 + (Int.tmod x0 10))) % 256] : List Int) : List Int)).bind fun y102 => (if (strOfNums y102).size + x3.size ≤ 9223372036854775807 then (spec_l14Dec.l0 k (wrap64 (Int.tdiv x0 10)) ((strOfNums y102) ++ x3)) else (none))) else ((some (([(wrap64 (48 + x0)) % 256] : List Int) : List Int)).bind fun y105 => (if (strOfNums y105).size + x3.size ≤ 9223372036854775807 then (some ((strOfNums y105) ++ x3)) else (none)))
def spec_l14Dec.f : Nat → Int → Option (ByteArray)
 | 0, _ => none
 | k + 1, a0 => if a0 < (-9223372036854775807) then (some (⟨#[45, 57, 50, 50, 51, 51, 55, 50, 48, 51, 54, 56, 53, 52, 55, 55, 53, 56, 48, 56]⟩ : ByteArray)) else (if a0 < 0 then ((spec_l14Dec.f k (wrap64 (-a0))).bind fun t101 => (if 1 + t101.size ≤ 9223372036854775807 then (some ((⟨#[45]⟩ : ByteArray) ++ t101)) else (none))) else (spec_l14Dec.l0 k a0 (⟨#[]⟩ : ByteArray)))
end
set_option maxHeartbeats 8000000 in
set_option maxRecDepth 100000 in
theorem spec_l14Dec.calls (k : Nat) : ∀ (a0 : Int) (r : ByteArray) (w : World) (h : spec_l14Dec.f k a0 = some r),
  Calls Tryd.prog 33 #[.int .i64 a0] w fun e w' => e = .returned (.string r) ∧ Below w.heap.size w w' := by
 induction k using Nat.strongRecOn with
 | _ k ih =>
 intro a0 r w h
 cases k with
 | zero => exact absurd h (by simp [spec_l14Dec.f])
 | succ k =>
 simp only [spec_l14Dec.f] at h
 have HB := m0_ (Below.refl w.heap.size w)
 have H : (if a0 < (-9223372036854775807) then (some (⟨#[45, 57, 50, 50, 51, 51, 55, 50, 48, 51, 54, 56, 53, 52, 55, 55, 53, 56, 48, 56]⟩ : ByteArray)) else (if a0 < 0 then ((spec_l14Dec.f k (wrap64 (-a0))).bind fun t101 => (if 1 + t101.size ≤ 9223372036854775807 then (some ((⟨#[45]⟩ : ByteArray) ++ t101)) else (none))) else (spec_l14Dec.l0 k a0 (⟨#[]⟩ : ByteArray)))) = some r := h
 clear h
 by_cases c2 : a0 < (-9223372036854775807)
 ·rw [if_pos c2] at H
  have c2b0 : decide (a0 < (-9223372036854775807)) = true := decide_eq_true c2
  clear c2
  obtain rfl := Option.some.inj H
  go_enter Tryd.func33, Tryd.ntmps33
  go_wp2
  go_ret
  exact ⟨by first | rfl | (simp [errW_none, errW_some] <;> rfl) | (simp [*, errW_none, errW_some] <;> rfl), by repeat (first | (with_reducible first | exact HB.out | apply below_alloc | apply pw_below_drewN | apply below_drew1) | exact HB.out)⟩
 rw [if_neg c2] at H
 have c2b0 : decide (a0 < (-9223372036854775807)) = false := decide_eq_false c2
 clear c2
 by_cases c3 : a0 < 0
 ·rw [if_pos c3] at H
  have c3b0 : decide (a0 < 0) = true := decide_eq_true c3
  clear c3
  replace H := Option.bind_eq_some_iff.mp H
  obtain ⟨t101, A40, H⟩ := H
  replace H : (if 1 + t101.size ≤ 9223372036854775807 then (some ((⟨#[45]⟩ : ByteArray) ++ t101)) else (none)) = some r := H
  have A4 := m0_ A40
  clear A40
  by_cases c5 : 1 + t101.size ≤ 9223372036854775807
  ·rw [if_pos c5] at H
   have c5b0 := eq_true c5
   have c5b1 : decide (1 + t101.size ≤ 9223372036854775807) = true := decide_eq_true c5
   try have c5b2 : (9223372036854775807 < 1 + t101.size) = False := eq_false (Nat.not_lt.2 c5)
   obtain rfl := Option.some.inj H
   go_enter Tryd.func33, Tryd.ntmps33
   go_wp2_with (first | ((with_reducible refine gate_callee (f := 33) rfl ?_);refine goesL_ (some 10) rfl rfl Tryd.func33 (by kernel_rfl) rfl #[.int .i64 (wrap64 (-a0))] rfl (by (try simp only [List.map_toArray, List.map_cons, List.map_nil]);first | done | rfl | (simp only [List.length_drop, List.length_take];rfl)) ?_;(with_reducible refine (ih k (by omega) (wrap64 (-a0)) t101 _ A4.out).mono ?_);rintro e w6 ⟨rfl, hb⟩;refine ⟨_, rfl, ?_⟩;replace HB := m0_ (below_step (by exact HB.out) hb);(try clear hb);(try clear hb2);(try clear hk);(try clear hi)))
   go_ret
   exact ⟨by first | rfl | (simp [errW_none, errW_some] <;> rfl) | (simp [*, errW_none, errW_some] <;> rfl), by repeat (first | (with_reducible first | exact HB.out | apply below_alloc | apply pw_below_drewN | apply below_drew1) | exact HB.out)⟩
  ·rw [if_neg c5] at H
   exact absurd H (by simp)
 rw [if_neg c3] at H
 have c3b0 : decide (a0 < 0) = false := decide_eq_false c3
 clear c3
 have H' := m0_ H
 clear H
 go_enter Tryd.func33, Tryd.ntmps33
 go_wp2
 go_loopg [0, 3] k (fun kq v0 v3 w' => ∃ (x0_1 : Int) (x3_1 : ByteArray), v0 = .int .i64 x0_1 ∧ v3 = .string x3_1 ∧ Aside0 (spec_l14Dec.l0 kq x0_1 x3_1 = some r) ∧ Aside0 (kq ≤ k) ∧ Aside0 (Below w.heap.size w w'))
 case atStart => exact ⟨(a0), ((⟨#[]⟩ : ByteArray)), (by first | rfl | (simp;done) | (simp [*];done)), (by first | rfl | (simp;done) | (simp [*];done)), H', ⟨Nat.le_refl _⟩, ⟨by repeat (first | (with_reducible first | exact HB.out | apply below_alloc | apply pw_below_drewN | apply below_drew1) | exact HB.out)⟩⟩
 case round =>
  clear H'
  try clear c2
  try clear c2b0
  try clear p2
  try clear c3
  try clear c3b0
  try clear c5
  try clear c5b0
  try clear c5b1
  try clear c5b2
  try clear p6
  obtain ⟨x0_1, x3_1, rfl, rfl, HA, HK1, HB⟩ := hrel
  cases gk with
  | zero => exact absurd HA.out (by simp [spec_l14Dec.l0])
  | succ k1 =>
   have H := HA.out
   clear HA
   simp only [spec_l14Dec.l0] at H
   by_cases c7 : x0_1 > 9
   rotate_left
   ·rw [if_neg c7] at H
    have c7b0 : decide (9 < x0_1) = false := decide_eq_false c7
    clear c7
    obtain ⟨y105, hy105⟩ : ∃ y_ : List Int, y_ = (([(wrap64 (48 + x0_1)) % 256] : List Int)) := ⟨_, rfl⟩
    replace H : (if (strOfNums y105).size + x3_1.size ≤ 9223372036854775807 then (some ((strOfNums y105) ++ x3_1)) else (none)) = some r := by first | (rw [hy105];with_reducible exact H) | (have H2_ := (Option.bind_some _ _).symm.trans H;rw [hy105];with_reducible exact H2_) | (have H2_ := (Option.bind_some _ _).symm.trans H;with_reducible exact H2_) | with_reducible exact H | (rw [hy105];exact H) | exact H
    have Ny105 := m0_ hy105
    clear hy105
    by_cases c12 : (strOfNums y105).size + x3_1.size ≤ 9223372036854775807
    ·rw [if_pos c12] at H
     have c12b0 := eq_true c12
     have c12b1 : decide ((strOfNums y105).size + x3_1.size ≤ 9223372036854775807) = true := decide_eq_true c12
     try have c12b2 : (9223372036854775807 < (strOfNums y105).size + x3_1.size) = False := eq_false (Nat.not_lt.2 c12)
     obtain rfl := Option.some.inj H
     go_wp2_with (first | ((with_reducible refine gate_dst (N := 27) rfl ?_);refine Kd.R_lit (Kd.int .u8) _ 5 ?hg (N := 27) ?hd (xs := ([(wrap64 (48 + x0_1)) % 256] : List Int)) (inner := [.int .u8 ((wrap64 (48 + x0_1)) % 256)]) (ok := fun _ => True) (okp := fun _ => True) ?hr ?hp (fun _ hk => hk) trivial (Below.refl _ _) (Nat.le_refl _) (by simp) ?_;(case hd => rfl);(case hg => rfl);(case hr => first | (go_simp;done) | (go_simp;rfl));(case hp => exact (Reps.one (show Kd.M (Kd.int .u8) _ _ _ ((wrap64 (48 + x0_1)) % 256) [.int .u8 ((wrap64 (48 + x0_1)) % 256)] from rfl) (Reps.none _ _)));intro v106 w13 ho14 hb hg_ hnew_;clear hg_ hnew_;(first | rw [← Ny105.out] at ho14 | (simp only [Int.reduceToNat] at ho14;rw [← Ny105.out] at ho14));have HO107 := m0_ (Kd.R_lower ho14 (below_size (by exact HB.out)));replace HB := m0_ (below_step (by exact HB.out) hb);clear hb ho14;have hcv15 := own_string (P := Tryd.prog) Tryd.underlying22 Tryd.underlying5 Tryd.underlying9 (Kd.own_of_R HO107.out)))
     go_ret
     exact ⟨by first | rfl | (simp [errW_none, errW_some] <;> rfl) | (simp [*, errW_none, errW_some] <;> rfl), by repeat (first | (with_reducible first | exact HB.out | apply below_alloc | apply pw_below_drewN | apply below_drew1) | exact HB.out)⟩
    ·rw [if_neg c12] at H
     exact absurd H (by simp)
   rw [if_pos c7] at H
   have c7b0 : decide (9 < x0_1) = true := decide_eq_true c7
   clear c7
   obtain ⟨y102, hy102⟩ : ∃ y_ : List Int, y_ = (([(wrap64 (48 + (Int.tmod x0_1 10))) % 256] : List Int)) := ⟨_, rfl⟩
   replace H : (if (strOfNums y102).size + x3_1.size ≤ 9223372036854775807 then (spec_l14Dec.l0 k1 (wrap64 (Int.tdiv x0_1 10)) ((strOfNums y102) ++ x3_1)) else (none)) = some r := by first | (rw [hy102];with_reducible exact H) | (have H2_ := (Option.bind_some _ _).symm.trans H;rw [hy102];with_reducible exact H2_) | (have H2_ := (Option.bind_some _ _).symm.trans H;with_reducible exact H2_) | with_reducible exact H | (rw [hy102];exact H) | exact H
   have Ny102 := m0_ hy102
   clear hy102
   by_cases c8 : (strOfNums y102).size + x3_1.size ≤ 9223372036854775807
   ·rw [if_pos c8] at H
    have c8b0 := eq_true c8
    have c8b1 : decide ((strOfNums y102).size + x3_1.size ≤ 9223372036854775807) = true := decide_eq_true c8
    try have c8b2 : (9223372036854775807 < (strOfNums y102).size + x3_1.size) = False := eq_false (Nat.not_lt.2 c8)
    have H' := m0_ H
    clear H
    go_wp2_with (first | ((with_reducible refine gate_dst (N := 18) rfl ?_);refine Kd.R_lit (Kd.int .u8) _ 5 ?hg (N := 18) ?hd (xs := ([(wrap64 (48 + (Int.tmod x0_1 10))) % 256] : List Int)) (inner := [.int .u8 ((wrap64 (48 + (Int.tmod x0_1 10))) % 256)]) (ok := fun _ => True) (okp := fun _ => True) ?hr ?hp (fun _ hk => hk) trivial (Below.refl _ _) (Nat.le_refl _) (by simp) ?_;(case hd => rfl);(case hg => rfl);(case hr => first | (go_simp;done) | (go_simp;rfl));(case hp => exact (Reps.one (show Kd.M (Kd.int .u8) _ _ _ ((wrap64 (48 + (Int.tmod x0_1 10))) % 256) [.int .u8 ((wrap64 (48 + (Int.tmod x0_1 10))) % 256)] from rfl) (Reps.none _ _)));intro v103 w9 ho10 hb hg_ hnew_;clear hg_ hnew_;(first | rw [← Ny102.out] at ho10 | (simp only [Int.reduceToNat] at ho10;rw [← Ny102.out] at ho10));have HO104 := m0_ (Kd.R_lower ho10 (below_size (by exact HB.out)));replace HB := m0_ (below_step (by exact HB.out) hb);clear hb ho10;have hcv11 := own_string (P := Tryd.prog) Tryd.underlying22 Tryd.underlying5 Tryd.underlying9 (Kd.own_of_R HO104.out)))
    go_roundg k1
    case measure => have := HK1.out;omega
    case rel => exact ⟨(wrap64 (Int.tdiv x0_1 10)), ((strOfNums y102) ++ x3_1), (by first | rfl | (simp;done) | (simp [*];done)), (by first | rfl | (simp;done) | (simp [*];done)), H', ⟨by have := HK1.out;omega⟩, ⟨by repeat (first | (with_reducible first | exact HB.out | apply below_alloc | apply pw_below_drewN | apply below_drew1) | exact HB.out)⟩⟩
   ·rw [if_neg c8] at H
    exact absurd H (by simp)

mutual
def spec_EvsText.l0 : Nat → List (S35) → ByteArray → Int → Option (ByteArray)
 | 0, _, _, _ => none
 | k + 1, x0, x3, x4 => if x4 < (x0.length : Int) then (if x4 > 0 then (if x3.size + 1 ≤ 9223372036854775807 then (spec_EvsText.j1 k x0 (x3 ++ (⟨#[32]⟩ : ByteArray)) x4) else (none)) else (spec_EvsText.j1 k x0 x3 x4)) else (some x3)
def spec_EvsText.j1 : Nat → List (S35) → ByteArray → Int → Option (ByteArray)
 | 0, _, _, _ => none
 | k + 1, x0, x3, x4 => if 0 ≤ x4 then (if x4 < (x0.length : Int) then ((spec_l1Letter.f ((rd_T35 x0 x4).f0)).bind fun t102 => (if x3.size + t102.size ≤ 9223372036854775807 then ((spec_l14Dec.f k ((rd_T35 x0 x4).f1)).bind fun t104 => (if (x3 ++ t102).size + t104.size ≤ 9223372036854775807 then (if ((rd_T35 x0 x4).f2) = 0 then (spec_EvsText.l0 k x0 ((x3 ++ t102) ++ t104) (wrap64 (x4 + 1))) else (if ((x3 ++ t102) ++ t104).size + 1 ≤ 9223372036854775807 then ((spec_l14Dec.f k ((rd_T35 x0 x4).f2)).bind fun t107 => (if (((x3 ++ t102) ++ t104) ++ (⟨#[61]⟩ : ByteArray)).size + t107.size ≤ 9223372036854775807 then (spec_EvsText.l0 k x0 ((((x3 ++ t102) ++ t104) ++ (⟨#[61]⟩ : ByteArray)) ++ t107) (wrap64 (x4 + 1))) else (none))) else (none))) else (none))) else (none))) else (none)) else (none)
end
def spec_EvsText.f (k : Nat) (l0 : List (S35)) : Option (ByteArray) := spec_EvsText.l0 k l0 (⟨#[]⟩ : ByteArray) 0
def spec_EvsText.T7 : Bool × List (List Nat × List Nat) := (true, [([], []), ([], []), ([], []), ([1, 2], [1, 2]), ([3], [3]), ([4], [4]), ([5], [5]), ([0, 6], [0, 6]), ([], []), ([], []), ([8, 9], [8, 9]), ([10], [10]), ([11], [11]), ([12, 6], [12]), ([7, 13], [7, 13]), ([14, 13, 0, 1, 2, 3, 4, 5, 6, 7, 8, 9, 10, 11, 12, 13, 14], [0, 14])])
def spec_EvsText.B7 : List Nat := [0, 0, 0, 6, 14, 30, 62, 127, 0, 0, 768, 1792, 3840, 8062, 16383, 32767]
theorem spec_EvsText.tab7 : rtab .any (opsOf Tryd.f9 7) = spec_EvsText.T7 := by kernel_rfl
theorem spec_EvsText.bits7 : waitsOk spec_EvsText.T7.2 spec_EvsText.B7 = true := by kernel_rfl
set_option maxHeartbeats 8000000 in
set_option maxRecDepth 100000 in
theorem spec_EvsText.calls (k : Nat) (A0 : Option Addr) (c0 : Nat) (l0 : List (S35)) (r : ByteArray) (w : World) (hr0 : Kd.C k35 w A0 l0.length l0) (hc0 : l0.length ≤ c0) (h : spec_EvsText.f k l0 = some r) :
  Calls Tryd.prog 9 #[.slice A0 l0.length c0] w fun e w' => e = .returned (.string r) ∧ Below w.heap.size w w' := by
 have HR0 := m0_ hr0
 have HC0 := m0_ hc0
 clear hr0 hc0
 have HB := m0_ (Below.refl w.heap.size w)
 have H : (spec_EvsText.l0 k l0 (⟨#[]⟩ : ByteArray) 0) = some r := h
 clear h
 have H' := m0_ H
 clear H
 go_enter Tryd.func9, Tryd.ntmps9
 go_wp2
 go_loopg [3, 4] k (fun kq v3 v4 w' => ∃ (x3_1 : ByteArray) (x4_1 : Int), v3 = .string x3_1 ∧ v4 = .int .i64 x4_1 ∧ Aside0 (spec_EvsText.l0 kq l0 x3_1 x4_1 = some r) ∧ Aside0 (kq ≤ k) ∧ Aside0 (Below w.heap.size w w'))
 case atStart => exact ⟨((⟨#[]⟩ : ByteArray)), (0), (by first | rfl | (simp;done) | (simp [*];done)), (by first | rfl | (simp;done) | (simp [*];done)), H', ⟨Nat.le_refl _⟩, ⟨by repeat (first | (with_reducible first | exact HB.out | apply below_alloc | apply pw_below_drewN | apply below_drew1) | exact HB.out)⟩⟩
 case round =>
  clear H'
  obtain ⟨x3_1, x4_1, rfl, rfl, HA, HK1, HB⟩ := hrel
  cases gk with
  | zero => exact absurd HA.out (by simp [spec_EvsText.l0])
  | succ k1 =>
   have H := HA.out
   clear HA
   simp only [spec_EvsText.l0] at H
   by_cases c2 : x4_1 < (l0.length : Int)
   rotate_left
   ·rw [if_neg c2] at H
    have c2b0 : decide (x4_1 < (l0.length : Int)) = false := decide_eq_false c2
    clear c2
    obtain rfl := Option.some.inj H
    go_wp2
    go_ret
    exact ⟨by first | rfl | (simp [errW_none, errW_some] <;> rfl) | (simp [*, errW_none, errW_some] <;> rfl), by repeat (first | (with_reducible first | exact HB.out | apply below_alloc | apply pw_below_drewN | apply below_drew1) | exact HB.out)⟩
   rw [if_pos c2] at H
   have c2b0 : decide (x4_1 < (l0.length : Int)) = true := decide_eq_true c2
   clear c2
   have HC3 := m0_ H
   clear H
   go_upto_if 12 with (fail)
   go_cut [3] (fun v3 wc => ∃ (kq : Nat) (x3_2 : ByteArray), v3 = .string x3_2 ∧ Aside0 (spec_EvsText.j1 kq l0 x3_2 x4_1 = some r) ∧ Aside0 (kq ≤ k1) ∧ Aside0 (Below w.heap.size w wc))
   case first =>
    have H := HC3.out
    clear HC3
    by_cases c4 : x4_1 > 0
    rotate_left
    ·rw [if_neg c4] at H
     have c4b0 : decide (0 < x4_1) = false := decide_eq_false c4
     clear c4
     (first | rw [c4b0] | (simp only [i64_w, i32_w];rw [c4b0]) | skip)
     have H' := m0_ H
     clear H
     go_wp2
     go_meet
     case rel => exact ⟨_, (x3_1), (by first | rfl | (simp;done) | (simp [*];done)), H', ⟨by have := HK1.out;first | omega | exact Nat.le_refl _⟩, ⟨by repeat (first | (with_reducible first | exact HB.out | apply below_alloc | apply pw_below_drewN | apply below_drew1) | exact HB.out)⟩⟩
    rw [if_pos c4] at H
    have c4b0 : decide (0 < x4_1) = true := decide_eq_true c4
    clear c4
    (first | rw [c4b0] | (simp only [i64_w, i32_w];rw [c4b0]) | skip)
    by_cases c5 : x3_1.size + 1 ≤ 9223372036854775807
    ·rw [if_pos c5] at H
     have c5b0 := eq_true c5
     have c5b1 : decide (x3_1.size + 1 ≤ 9223372036854775807) = true := decide_eq_true c5
     try have c5b2 : (9223372036854775807 < x3_1.size + 1) = False := eq_false (Nat.not_lt.2 c5)
     have H' := m0_ H
     clear H
     go_wp2
     go_meet
     case rel => exact ⟨_, (x3_1 ++ (⟨#[32]⟩ : ByteArray)), (by first | rfl | (simp;done) | (simp [*];done)), H', ⟨by have := HK1.out;first | omega | exact Nat.le_refl _⟩, ⟨by repeat (first | (with_reducible first | exact HB.out | apply below_alloc | apply pw_below_drewN | apply below_drew1) | exact HB.out)⟩⟩
    ·rw [if_neg c5] at H
     exact absurd H (by simp)
   case rest =>
    clear HC3
    try clear c2
    try clear c2b0
    try clear p2
    try clear c4
    try clear c4b0
    try clear c5
    try clear c5b0
    try clear c5b1
    try clear c5b2
    obtain ⟨kq, x3_2, rfl, HA, HJ2, HB⟩ := hcut
    cases kq with
    | zero => exact absurd HA.out (by simp [spec_EvsText.j1])
    | succ kj2 =>
     have H := HA.out
     clear HA
     simp only [spec_EvsText.j1] at H
     by_cases c6 : 0 ≤ x4_1
     rotate_left
     ·rw [if_neg c6] at H
      exact absurd H (by simp)
     rw [if_pos c6] at H
     have c6b0 : decide (0 ≤ x4_1) = true := decide_eq_true c6
     clear c6
     by_cases c7 : x4_1 < (l0.length : Int)
     rotate_left
     ·rw [if_neg c7] at H
      exact absurd H (by simp)
     rw [if_pos c7] at H
     have c7b0 : decide (x4_1 < (l0.length : Int)) = true := decide_eq_true c7
     clear c7
     replace H := Option.bind_eq_some_iff.mp H
     obtain ⟨t102, A80, H⟩ := H
     replace H : (if x3_2.size + t102.size ≤ 9223372036854775807 then ((spec_l14Dec.f kj2 ((rd_T35 l0 x4_1).f1)).bind fun t104 => (if (x3_2 ++ t102).size + t104.size ≤ 9223372036854775807 then (if ((rd_T35 l0 x4_1).f2) = 0 then (spec_EvsText.l0 kj2 l0 ((x3_2 ++ t102) ++ t104) (wrap64 (x4_1 + 1))) else (if ((x3_2 ++ t102) ++ t104).size + 1 ≤ 9223372036854775807 then ((spec_l14Dec.f kj2 ((rd_T35 l0 x4_1).f2)).bind fun t107 => (if (((x3_2 ++ t102) ++ t104) ++ (⟨#[61]⟩ : ByteArray)).size + t107.size ≤ 9223372036854775807 then (spec_EvsText.l0 kj2 l0 ((((x3_2 ++ t102) ++ t104) ++ (⟨#[61]⟩ : ByteArray)) ++ t107) (wrap64 (x4_1 + 1))) else (none))) else (none))) else (none))) else (none)) = some r := H
     have A8 := m0_ A80
     clear A80
     by_cases c9 : x3_2.size + t102.size ≤ 9223372036854775807
     rotate_left
     ·rw [if_neg c9] at H
      exact absurd H (by simp)
     rw [if_pos c9] at H
     have c9b0 := eq_true c9
     have c9b1 : decide (x3_2.size + t102.size ≤ 9223372036854775807) = true := decide_eq_true c9
     try have c9b2 : (9223372036854775807 < x3_2.size + t102.size) = False := eq_false (Nat.not_lt.2 c9)
     replace H := Option.bind_eq_some_iff.mp H
     obtain ⟨t104, A100, H⟩ := H
     replace H : (if (x3_2 ++ t102).size + t104.size ≤ 9223372036854775807 then (if ((rd_T35 l0 x4_1).f2) = 0 then (spec_EvsText.l0 kj2 l0 ((x3_2 ++ t102) ++ t104) (wrap64 (x4_1 + 1))) else (if ((x3_2 ++ t102) ++ t104).size + 1 ≤ 9223372036854775807 then ((spec_l14Dec.f kj2 ((rd_T35 l0 x4_1).f2)).bind fun t107 => (if (((x3_2 ++ t102) ++ t104) ++ (⟨#[61]⟩ : ByteArray)).size + t107.size ≤ 9223372036854775807 then (spec_EvsText.l0 kj2 l0 ((((x3_2 ++ t102) ++ t104) ++ (⟨#[61]⟩ : ByteArray)) ++ t107) (wrap64 (x4_1 + 1))) else (none))) else (none))) else (none)) = some r := H
     have A10 := m0_ A100
     clear A100
     by_cases c11 : (x3_2 ++ t102).size + t104.size ≤ 9223372036854775807
     rotate_left
     ·rw [if_neg c11] at H
      exact absurd H (by simp)
     rw [if_pos c11] at H
     have c11b0 := eq_true c11
     have c11b1 : decide ((x3_2 ++ t102).size + t104.size ≤ 9223372036854775807) = true := decide_eq_true c11
     have c11z : (x3_2 ++ t102).size + t104.size ≤ 9223372036854775807 := c11
     simp only [ByteArray.size_append, show (⟨#[32]⟩ : ByteArray).size = 1 from rfl] at c11z
     have c11z0 := eq_true c11z
     have c11z1 := decide_eq_true c11z
     have c11z2 := eq_false (Nat.not_lt.2 c11z)
     try have c11b2 : (9223372036854775807 < (x3_2 ++ t102).size + t104.size) = False := eq_false (Nat.not_lt.2 c11)
     by_cases c12 : ((rd_T35 l0 x4_1).f2) = 0
     ·rw [if_pos c12] at H
      have c12b0 : (((rd_T35 l0 x4_1).f2) == 0) = true := beq_iff_eq.mpr c12
      have c12b1 : (((rd_T35 l0 x4_1).f2) != 0) = false := bne_eq_false_iff_eq.mpr c12
      clear c12
      have H' := m0_ H
      clear H
      try go_wp2
      replace HB := m0_ (below_drew1 HB.out)
      have p101 : 0 ≤ (x4_1 : Int) := of_decide_eq_true (by first | (with_reducible assumption) | assumption)
      have q101 : x4_1 < (l0.length : Int) := of_decide_eq_true (by first | (with_reducible assumption) | assumption)
      obtain ⟨ad101, e101, hx101_0, hx101_1, hx101_2⟩ := at_T35 HR0.out x4_1 p101 q101
      have hw101_2 := hx101_2
      have hw101_1 := hx101_1
      have hw101_0 := hx101_0
      cases e101
      replace hx101_0 := (HB.out.cell (World.block_lt_of_cell? w _ hx101_0)).trans hx101_0
      replace hx101_1 := (HB.out.cell (World.block_lt_of_cell? w _ hx101_1)).trans hx101_1
      replace hx101_2 := (HB.out.cell (World.block_lt_of_cell? w _ hx101_2)).trans hx101_2
      replace p101 := eq_true p101
      replace q101 := eq_true q101
      have p103 : 0 ≤ (x4_1 : Int) := of_decide_eq_true (by first | (with_reducible assumption) | assumption)
      have q103 : x4_1 < (l0.length : Int) := of_decide_eq_true (by first | (with_reducible assumption) | assumption)
      obtain ⟨ad103, e103, hx103_0, hx103_1, hx103_2⟩ := at_T35 HR0.out x4_1 p103 q103
      have hw103_2 := hx103_2
      have hw103_1 := hx103_1
      have hw103_0 := hx103_0
      obtain rfl : ad101 = ad103 := (by injection e103)
      replace hx103_0 := (HB.out.cell (World.block_lt_of_cell? w _ hx103_0)).trans hx103_0
      replace hx103_1 := (HB.out.cell (World.block_lt_of_cell? w _ hx103_1)).trans hx103_1
      replace hx103_2 := (HB.out.cell (World.block_lt_of_cell? w _ hx103_2)).trans hx103_2
      replace p103 := eq_true p103
      replace q103 := eq_true q103
      refine start_ (n := 16) (S := fun w' => w'.cell? (ad101.add ((x4_1).toNat * 3)) = some (.int .i64 ((rd_T35 l0 x4_1).f0)) ∧ w'.cell? ⟨(ad101.add ((x4_1).toNat * 3)).block, (ad101.add ((x4_1).toNat * 3)).off + 1, none⟩ = some (.int .i64 ((rd_T35 l0 x4_1).f1)) ∧ w'.cell? ⟨(ad101.add ((x4_1).toNat * 3)).block, (ad101.add ((x4_1).toNat * 3)).off + 2, none⟩ = some (.int .i64 ((rd_T35 l0 x4_1).f2)) ∧ w'.cell? (ad101.add ((x4_1).toNat * 3)) = some (.int .i64 ((rd_T35 l0 x4_1).f0)) ∧ w'.cell? ⟨(ad101.add ((x4_1).toNat * 3)).block, (ad101.add ((x4_1).toNat * 3)).off + 1, none⟩ = some (.int .i64 ((rd_T35 l0 x4_1).f1)) ∧ w'.cell? ⟨(ad101.add ((x4_1).toNat * 3)).block, (ad101.add ((x4_1).toNat * 3)).off + 2, none⟩ = some (.int .i64 ((rd_T35 l0 x4_1).f2))) (ds := []) #[false, false, false, false, false, false, false, false, false, false, false, false, false, false, false, false] (by kernel_rfl) rfl rfl ⟨((HB.out.cell (World.block_lt_of_cell? w _ hw101_0)).trans hw101_0), ((HB.out.cell (World.block_lt_of_cell? w _ hw101_1)).trans hw101_1), ((HB.out.cell (World.block_lt_of_cell? w _ hw101_2)).trans hw101_2), ((HB.out.cell (World.block_lt_of_cell? w _ hw103_0)).trans hw103_0), ((HB.out.cell (World.block_lt_of_cell? w _ hw103_1)).trans hw103_1), ((HB.out.cell (World.block_lt_of_cell? w _ hw103_2)).trans hw103_2)⟩ (fun hHeld => ?_);refine with_tabW spec_EvsText.tab7 spec_EvsText.bits7 (fun HT_ HW_ => ?_)
      generalize wc.drew = w13 at HB hx101_0 hx101_1 hx101_2 hx103_0 hx103_1 hx103_2 hHeld ⊢
      refine pv_ 0 15 #[true, false, false, false, false, false, false, false, false, false, false, false, false, false, false, false] (any_of HT_.out (by kernel_rfl)) ?_
      refine pv_ 1 16 #[true, true, false, false, false, false, false, false, false, false, false, false, false, false, false, false] (any_of HT_.out (by kernel_rfl)) ?_
      refine pv_ 2 17 #[true, true, true, false, false, false, false, false, false, false, false, false, false, false, false, false] (any_of HT_.out (by kernel_rfl)) ?_
      refine pv_ 3 18 #[true, true, true, true, false, false, false, false, false, false, false, false, false, false, false, false] (any_of HT_.out (by kernel_rfl)) ?_
      refine pv_ 4 19 #[true, true, true, true, true, false, false, false, false, false, false, false, false, false, false, false] (any_of HT_.out (by kernel_rfl)) ?_
      refine pv_ 8 23 #[true, true, true, true, true, false, false, false, true, false, false, false, false, false, false, false] (any_of HT_.out (by kernel_rfl)) ?_
      refine pv_ 9 24 #[true, true, true, true, true, false, false, false, true, true, false, false, false, false, false, false] (any_of HT_.out (by kernel_rfl)) ?_
      refine pv_ 10 25 #[true, true, true, true, true, false, false, false, true, true, true, false, false, false, false, false] (any_of HT_.out (by kernel_rfl)) ?_
      refine pv_ 11 26 #[true, true, true, true, true, false, false, false, true, true, true, true, false, false, false, false] (any_of HT_.out (by kernel_rfl)) ?_
      refine take_ (i := 5) (N := some 20) (v := ?_) (a' := ?_) #[true, true, true, true, true, true, false, false, true, true, true, true, false, false, false, false] rfl rfl (take_ofW HT_.out HW_.out (by kernel_rfl)) (fun _ _ _ h => h) (Or.inl ⟨by rfl, ?_⟩) hHeld ?_ ?_
      rotate_left
      ·rintro w' ⟨s0, s1, s2, s3, s4, s5⟩
       go_simp
       with_reducible rfl
      rotate_left
      ·simp only [Act.put, List.setIfInBounds_toArray, List.set_cons_zero, List.set_cons_succ, i64_w, i32_w]
       rfl
      refine take_ (i := 12) (N := some 27) (v := ?_) (a' := ?_) #[true, true, true, true, true, true, false, false, true, true, true, true, true, false, false, false] rfl rfl (take_ofW HT_.out HW_.out (by kernel_rfl)) (fun _ _ _ h => h) (Or.inl ⟨by rfl, ?_⟩) hHeld ?_ ?_
      rotate_left
      ·rintro w' ⟨s0, s1, s2, s3, s4, s5⟩
       go_simp
       with_reducible rfl
      rotate_left
      ·simp only [Act.put, List.setIfInBounds_toArray, List.set_cons_zero, List.set_cons_succ, i64_w, i32_w]
       rfl
      refine one_ (i := 6) (N := some 21) #[true, true, true, true, true, true, true, false, true, true, true, true, true, false, false, false] rfl rfl (one_of HT_.out (by kernel_rfl)) (by decide) (fun K hK => ?_)
      refine goes_ Tryd.func32 (by kernel_rfl) rfl #[.int .i64 ((rd_T35 l0 x4_1).f0)] (by rfl) rfl rfl (by (try simp only [List.map_toArray, List.map_cons, List.map_nil]);first | done | rfl | (simp only [List.length_drop, List.length_take];rfl)) ?_
      with_reducible refine (spec_l1Letter.calls ((rd_T35 l0 x4_1).f0) t102 _ A8.out).mono ?_
      rintro e w' ⟨rfl, ⟨nd, rfl⟩⟩
      refine ⟨_, rfl, ?_⟩
      refine hK.out _ _ ⟨((HB.out.cell (World.block_lt_of_cell? w _ hw101_0)).trans hw101_0), ((HB.out.cell (World.block_lt_of_cell? w _ hw101_1)).trans hw101_1), ((HB.out.cell (World.block_lt_of_cell? w _ hw101_2)).trans hw101_2), ((HB.out.cell (World.block_lt_of_cell? w _ hw103_0)).trans hw103_0), ((HB.out.cell (World.block_lt_of_cell? w _ hw103_1)).trans hw103_1), ((HB.out.cell (World.block_lt_of_cell? w _ hw103_2)).trans hw103_2)⟩ (fun hHeld => ?_)
      clear hK K
      refine norm_ (a' := ?_) ?_ ?_
      rotate_left
      ·show Act.put _ (some 21) _ = _
       simp only [Act.put, List.setIfInBounds_toArray, List.set_cons_zero, List.set_cons_succ, i64_w, i32_w]
       rfl
      refine pv_ 7 22 #[true, true, true, true, true, true, true, true, true, true, true, true, true, false, false, false] (any_of HT_.out (by kernel_rfl)) ?_
      refine one_ (i := 13) (N := some 28) #[true, true, true, true, true, true, true, true, true, true, true, true, true, true, false, false] rfl rfl (one_of HT_.out (by kernel_rfl)) (by decide) (fun K hK => ?_)
      refine goes_ Tryd.func33 (by kernel_rfl) rfl #[.int .i64 ((rd_T35 l0 x4_1).f1)] (by rfl) rfl rfl (by (try simp only [List.map_toArray, List.map_cons, List.map_nil]);first | done | rfl | (simp only [List.length_drop, List.length_take];rfl)) ?_
      with_reducible refine (spec_l14Dec.calls kj2 ((rd_T35 l0 x4_1).f1) t104 _ A10.out).mono ?_
      rintro e w14 ⟨rfl, hb⟩
      refine ⟨_, rfl, ?_⟩
      replace HB := m0_ (below_step (by repeat (first | (with_reducible first | exact HB.out | apply below_alloc | apply pw_below_drewN | apply below_drew1) | exact HB.out)) hb)
      (try clear hb)
      (try clear hb2)
      (try clear hk)
      (try clear hi)
      refine hK.out _ _ ⟨((HB.out.cell (World.block_lt_of_cell? w _ hw101_0)).trans hw101_0), ((HB.out.cell (World.block_lt_of_cell? w _ hw101_1)).trans hw101_1), ((HB.out.cell (World.block_lt_of_cell? w _ hw101_2)).trans hw101_2), ((HB.out.cell (World.block_lt_of_cell? w _ hw103_0)).trans hw103_0), ((HB.out.cell (World.block_lt_of_cell? w _ hw103_1)).trans hw103_1), ((HB.out.cell (World.block_lt_of_cell? w _ hw103_2)).trans hw103_2)⟩ (fun hHeld => ?_)
      clear hK K
      refine norm_ (a' := ?_) ?_ ?_
      rotate_left
      ·show Act.put _ (some 28) _ = _
       simp only [Act.put, List.setIfInBounds_toArray, List.set_cons_zero, List.set_cons_succ, i64_w, i32_w]
       rfl
      refine pv_ 14 29 #[true, true, true, true, true, true, true, true, true, true, true, true, true, true, true, false] (any_of HT_.out (by kernel_rfl)) ?_
      refine pv_ 15 3 #[true, true, true, true, true, true, true, true, true, true, true, true, true, true, true, true] (any_of HT_.out (by kernel_rfl)) ?_
      refine done_ (done_of HT_.out (by kernel_rfl)) ?_
      have p105 : 0 ≤ (x4_1 : Int) := of_decide_eq_true (by first | (with_reducible assumption) | assumption)
      have q105 : x4_1 < (l0.length : Int) := of_decide_eq_true (by first | (with_reducible assumption) | assumption)
      obtain ⟨ad105, e105, hx105_0, hx105_1, hx105_2⟩ := at_T35 HR0.out x4_1 p105 q105
      obtain rfl : ad101 = ad105 := (by injection e105)
      replace hx105_0 := (HB.out.cell (World.block_lt_of_cell? w _ hx105_0)).trans hx105_0
      replace hx105_1 := (HB.out.cell (World.block_lt_of_cell? w _ hx105_1)).trans hx105_1
      replace hx105_2 := (HB.out.cell (World.block_lt_of_cell? w _ hx105_2)).trans hx105_2
      replace p105 := eq_true p105
      replace q105 := eq_true q105
      try go_wp2
      go_roundg kj2
      case measure => have := HK1.out;have := HJ2.out;omega
      case rel => exact ⟨((x3_2 ++ t102) ++ t104), (wrap64 (x4_1 + 1)), (by first | rfl | (simp;done) | (simp [*];done)), (by first | rfl | (simp;done) | (simp [*];done)), H', ⟨by have := HK1.out;have := HJ2.out;omega⟩, ⟨by repeat (first | (with_reducible first | exact HB.out | apply below_alloc | apply pw_below_drewN | apply below_drew1) | exact HB.out)⟩⟩
     rw [if_neg c12] at H
     have c12b0 : (((rd_T35 l0 x4_1).f2) == 0) = false := beq_eq_false_iff_ne.mpr c12
     have c12b1 : (((rd_T35 l0 x4_1).f2) != 0) = true := bne_iff_ne.mpr c12
     by_cases c15 : ((x3_2 ++ t102) ++ t104).size + 1 ≤ 9223372036854775807
     rotate_left
     ·rw [if_neg c15] at H
      exact absurd H (by simp)
     rw [if_pos c15] at H
     have c15b0 := eq_true c15
     have c15b1 : decide (((x3_2 ++ t102) ++ t104).size + 1 ≤ 9223372036854775807) = true := decide_eq_true c15
     have c15z : ((x3_2 ++ t102) ++ t104).size + 1 ≤ 9223372036854775807 := c15
     simp only [ByteArray.size_append, show (⟨#[32]⟩ : ByteArray).size = 1 from rfl] at c15z
     have c15z0 := eq_true c15z
     have c15z1 := decide_eq_true c15z
     have c15z2 := eq_false (Nat.not_lt.2 c15z)
     try have c15b2 : (9223372036854775807 < ((x3_2 ++ t102) ++ t104).size + 1) = False := eq_false (Nat.not_lt.2 c15)
     replace H := Option.bind_eq_some_iff.mp H
     obtain ⟨t107, A160, H⟩ := H
     replace H : (if (((x3_2 ++ t102) ++ t104) ++ (⟨#[61]⟩ : ByteArray)).size + t107.size ≤ 9223372036854775807 then (spec_EvsText.l0 kj2 l0 ((((x3_2 ++ t102) ++ t104) ++ (⟨#[61]⟩ : ByteArray)) ++ t107) (wrap64 (x4_1 + 1))) else (none)) = some r := H
     have A16 := m0_ A160
     clear A160
     by_cases c17 : (((x3_2 ++ t102) ++ t104) ++ (⟨#[61]⟩ : ByteArray)).size + t107.size ≤ 9223372036854775807
     rotate_left
     ·rw [if_neg c17] at H
      exact absurd H (by simp)
     rw [if_pos c17] at H
     have c17b0 := eq_true c17
     have c17b1 : decide ((((x3_2 ++ t102) ++ t104) ++ (⟨#[61]⟩ : ByteArray)).size + t107.size ≤ 9223372036854775807) = true := decide_eq_true c17
     have c17z : (((x3_2 ++ t102) ++ t104) ++ (⟨#[61]⟩ : ByteArray)).size + t107.size ≤ 9223372036854775807 := c17
     simp only [ByteArray.size_append, show (⟨#[32]⟩ : ByteArray).size = 1 from rfl, show (⟨#[61]⟩ : ByteArray).size = 1 from rfl] at c17z
     have c17z0 := eq_true c17z
     have c17z1 := decide_eq_true c17z
     have c17z2 := eq_false (Nat.not_lt.2 c17z)
     try have c17b2 : (9223372036854775807 < (((x3_2 ++ t102) ++ t104) ++ (⟨#[61]⟩ : ByteArray)).size + t107.size) = False := eq_false (Nat.not_lt.2 c17)
     have H' := m0_ H
     clear H
     try go_wp2
     replace HB := m0_ (below_drew1 HB.out)
     have p101 : 0 ≤ (x4_1 : Int) := of_decide_eq_true (by first | (with_reducible assumption) | assumption)
     have q101 : x4_1 < (l0.length : Int) := of_decide_eq_true (by first | (with_reducible assumption) | assumption)
     obtain ⟨ad101, e101, hx101_0, hx101_1, hx101_2⟩ := at_T35 HR0.out x4_1 p101 q101
     have hw101_2 := hx101_2
     have hw101_1 := hx101_1
     have hw101_0 := hx101_0
     cases e101
     replace hx101_0 := (HB.out.cell (World.block_lt_of_cell? w _ hx101_0)).trans hx101_0
     replace hx101_1 := (HB.out.cell (World.block_lt_of_cell? w _ hx101_1)).trans hx101_1
     replace hx101_2 := (HB.out.cell (World.block_lt_of_cell? w _ hx101_2)).trans hx101_2
     replace p101 := eq_true p101
     replace q101 := eq_true q101
     have p103 : 0 ≤ (x4_1 : Int) := of_decide_eq_true (by first | (with_reducible assumption) | assumption)
     have q103 : x4_1 < (l0.length : Int) := of_decide_eq_true (by first | (with_reducible assumption) | assumption)
     obtain ⟨ad103, e103, hx103_0, hx103_1, hx103_2⟩ := at_T35 HR0.out x4_1 p103 q103
     have hw103_2 := hx103_2
     have hw103_1 := hx103_1
     have hw103_0 := hx103_0
     obtain rfl : ad101 = ad103 := (by injection e103)
     replace hx103_0 := (HB.out.cell (World.block_lt_of_cell? w _ hx103_0)).trans hx103_0
     replace hx103_1 := (HB.out.cell (World.block_lt_of_cell? w _ hx103_1)).trans hx103_1
     replace hx103_2 := (HB.out.cell (World.block_lt_of_cell? w _ hx103_2)).trans hx103_2
     replace p103 := eq_true p103
     replace q103 := eq_true q103
     refine start_ (n := 16) (S := fun w' => w'.cell? (ad101.add ((x4_1).toNat * 3)) = some (.int .i64 ((rd_T35 l0 x4_1).f0)) ∧ w'.cell? ⟨(ad101.add ((x4_1).toNat * 3)).block, (ad101.add ((x4_1).toNat * 3)).off + 1, none⟩ = some (.int .i64 ((rd_T35 l0 x4_1).f1)) ∧ w'.cell? ⟨(ad101.add ((x4_1).toNat * 3)).block, (ad101.add ((x4_1).toNat * 3)).off + 2, none⟩ = some (.int .i64 ((rd_T35 l0 x4_1).f2)) ∧ w'.cell? (ad101.add ((x4_1).toNat * 3)) = some (.int .i64 ((rd_T35 l0 x4_1).f0)) ∧ w'.cell? ⟨(ad101.add ((x4_1).toNat * 3)).block, (ad101.add ((x4_1).toNat * 3)).off + 1, none⟩ = some (.int .i64 ((rd_T35 l0 x4_1).f1)) ∧ w'.cell? ⟨(ad101.add ((x4_1).toNat * 3)).block, (ad101.add ((x4_1).toNat * 3)).off + 2, none⟩ = some (.int .i64 ((rd_T35 l0 x4_1).f2))) (ds := []) #[false, false, false, false, false, false, false, false, false, false, false, false, false, false, false, false] (by kernel_rfl) rfl rfl ⟨((HB.out.cell (World.block_lt_of_cell? w _ hw101_0)).trans hw101_0), ((HB.out.cell (World.block_lt_of_cell? w _ hw101_1)).trans hw101_1), ((HB.out.cell (World.block_lt_of_cell? w _ hw101_2)).trans hw101_2), ((HB.out.cell (World.block_lt_of_cell? w _ hw103_0)).trans hw103_0), ((HB.out.cell (World.block_lt_of_cell? w _ hw103_1)).trans hw103_1), ((HB.out.cell (World.block_lt_of_cell? w _ hw103_2)).trans hw103_2)⟩ (fun hHeld => ?_);refine with_tabW spec_EvsText.tab7 spec_EvsText.bits7 (fun HT_ HW_ => ?_)
     generalize wc.drew = w18 at HB hx101_0 hx101_1 hx101_2 hx103_0 hx103_1 hx103_2 hHeld ⊢
     refine pv_ 0 15 #[true, false, false, false, false, false, false, false, false, false, false, false, false, false, false, false] (any_of HT_.out (by kernel_rfl)) ?_
     refine pv_ 1 16 #[true, true, false, false, false, false, false, false, false, false, false, false, false, false, false, false] (any_of HT_.out (by kernel_rfl)) ?_
     refine pv_ 2 17 #[true, true, true, false, false, false, false, false, false, false, false, false, false, false, false, false] (any_of HT_.out (by kernel_rfl)) ?_
     refine pv_ 3 18 #[true, true, true, true, false, false, false, false, false, false, false, false, false, false, false, false] (any_of HT_.out (by kernel_rfl)) ?_
     refine pv_ 4 19 #[true, true, true, true, true, false, false, false, false, false, false, false, false, false, false, false] (any_of HT_.out (by kernel_rfl)) ?_
     refine pv_ 8 23 #[true, true, true, true, true, false, false, false, true, false, false, false, false, false, false, false] (any_of HT_.out (by kernel_rfl)) ?_
     refine pv_ 9 24 #[true, true, true, true, true, false, false, false, true, true, false, false, false, false, false, false] (any_of HT_.out (by kernel_rfl)) ?_
     refine pv_ 10 25 #[true, true, true, true, true, false, false, false, true, true, true, false, false, false, false, false] (any_of HT_.out (by kernel_rfl)) ?_
     refine pv_ 11 26 #[true, true, true, true, true, false, false, false, true, true, true, true, false, false, false, false] (any_of HT_.out (by kernel_rfl)) ?_
     refine take_ (i := 5) (N := some 20) (v := ?_) (a' := ?_) #[true, true, true, true, true, true, false, false, true, true, true, true, false, false, false, false] rfl rfl (take_ofW HT_.out HW_.out (by kernel_rfl)) (fun _ _ _ h => h) (Or.inl ⟨by rfl, ?_⟩) hHeld ?_ ?_
     rotate_left
     ·rintro w' ⟨s0, s1, s2, s3, s4, s5⟩
      go_simp
      with_reducible rfl
     rotate_left
     ·simp only [Act.put, List.setIfInBounds_toArray, List.set_cons_zero, List.set_cons_succ, i64_w, i32_w]
      rfl
     refine take_ (i := 12) (N := some 27) (v := ?_) (a' := ?_) #[true, true, true, true, true, true, false, false, true, true, true, true, true, false, false, false] rfl rfl (take_ofW HT_.out HW_.out (by kernel_rfl)) (fun _ _ _ h => h) (Or.inl ⟨by rfl, ?_⟩) hHeld ?_ ?_
     rotate_left
     ·rintro w' ⟨s0, s1, s2, s3, s4, s5⟩
      go_simp
      with_reducible rfl
     rotate_left
     ·simp only [Act.put, List.setIfInBounds_toArray, List.set_cons_zero, List.set_cons_succ, i64_w, i32_w]
      rfl
     refine one_ (i := 6) (N := some 21) #[true, true, true, true, true, true, true, false, true, true, true, true, true, false, false, false] rfl rfl (one_of HT_.out (by kernel_rfl)) (by decide) (fun K hK => ?_)
     refine goes_ Tryd.func32 (by kernel_rfl) rfl #[.int .i64 ((rd_T35 l0 x4_1).f0)] (by rfl) rfl rfl (by (try simp only [List.map_toArray, List.map_cons, List.map_nil]);first | done | rfl | (simp only [List.length_drop, List.length_take];rfl)) ?_
     with_reducible refine (spec_l1Letter.calls ((rd_T35 l0 x4_1).f0) t102 _ A8.out).mono ?_
     rintro e w' ⟨rfl, ⟨nd, rfl⟩⟩
     refine ⟨_, rfl, ?_⟩
     refine hK.out _ _ ⟨((HB.out.cell (World.block_lt_of_cell? w _ hw101_0)).trans hw101_0), ((HB.out.cell (World.block_lt_of_cell? w _ hw101_1)).trans hw101_1), ((HB.out.cell (World.block_lt_of_cell? w _ hw101_2)).trans hw101_2), ((HB.out.cell (World.block_lt_of_cell? w _ hw103_0)).trans hw103_0), ((HB.out.cell (World.block_lt_of_cell? w _ hw103_1)).trans hw103_1), ((HB.out.cell (World.block_lt_of_cell? w _ hw103_2)).trans hw103_2)⟩ (fun hHeld => ?_)
     clear hK K
     refine norm_ (a' := ?_) ?_ ?_
     rotate_left
     ·show Act.put _ (some 21) _ = _
      simp only [Act.put, List.setIfInBounds_toArray, List.set_cons_zero, List.set_cons_succ, i64_w, i32_w]
      rfl
     refine pv_ 7 22 #[true, true, true, true, true, true, true, true, true, true, true, true, true, false, false, false] (any_of HT_.out (by kernel_rfl)) ?_
     refine one_ (i := 13) (N := some 28) #[true, true, true, true, true, true, true, true, true, true, true, true, true, true, false, false] rfl rfl (one_of HT_.out (by kernel_rfl)) (by decide) (fun K hK => ?_)
     refine goes_ Tryd.func33 (by kernel_rfl) rfl #[.int .i64 ((rd_T35 l0 x4_1).f1)] (by rfl) rfl rfl (by (try simp only [List.map_toArray, List.map_cons, List.map_nil]);first | done | rfl | (simp only [List.length_drop, List.length_take];rfl)) ?_
     with_reducible refine (spec_l14Dec.calls kj2 ((rd_T35 l0 x4_1).f1) t104 _ A10.out).mono ?_
     rintro e w19 ⟨rfl, hb⟩
     refine ⟨_, rfl, ?_⟩
     replace HB := m0_ (below_step (by repeat (first | (with_reducible first | exact HB.out | apply below_alloc | apply pw_below_drewN | apply below_drew1) | exact HB.out)) hb)
     (try clear hb)
     (try clear hb2)
     (try clear hk)
     (try clear hi)
     refine hK.out _ _ ⟨((HB.out.cell (World.block_lt_of_cell? w _ hw101_0)).trans hw101_0), ((HB.out.cell (World.block_lt_of_cell? w _ hw101_1)).trans hw101_1), ((HB.out.cell (World.block_lt_of_cell? w _ hw101_2)).trans hw101_2), ((HB.out.cell (World.block_lt_of_cell? w _ hw103_0)).trans hw103_0), ((HB.out.cell (World.block_lt_of_cell? w _ hw103_1)).trans hw103_1), ((HB.out.cell (World.block_lt_of_cell? w _ hw103_2)).trans hw103_2)⟩ (fun hHeld => ?_)
     clear hK K
     refine norm_ (a' := ?_) ?_ ?_
     rotate_left
     ·show Act.put _ (some 28) _ = _
      simp only [Act.put, List.setIfInBounds_toArray, List.set_cons_zero, List.set_cons_succ, i64_w, i32_w]
      rfl
     refine pv_ 14 29 #[true, true, true, true, true, true, true, true, true, true, true, true, true, true, true, false] (any_of HT_.out (by kernel_rfl)) ?_
     refine pv_ 15 3 #[true, true, true, true, true, true, true, true, true, true, true, true, true, true, true, true] (any_of HT_.out (by kernel_rfl)) ?_
     refine done_ (done_of HT_.out (by kernel_rfl)) ?_
     have p105 : 0 ≤ (x4_1 : Int) := of_decide_eq_true (by first | (with_reducible assumption) | assumption)
     have q105 : x4_1 < (l0.length : Int) := of_decide_eq_true (by first | (with_reducible assumption) | assumption)
     obtain ⟨ad105, e105, hx105_0, hx105_1, hx105_2⟩ := at_T35 HR0.out x4_1 p105 q105
     obtain rfl : ad101 = ad105 := (by injection e105)
     replace hx105_0 := (HB.out.cell (World.block_lt_of_cell? w _ hx105_0)).trans hx105_0
     replace hx105_1 := (HB.out.cell (World.block_lt_of_cell? w _ hx105_1)).trans hx105_1
     replace hx105_2 := (HB.out.cell (World.block_lt_of_cell? w _ hx105_2)).trans hx105_2
     replace p105 := eq_true p105
     replace q105 := eq_true q105
     have p106 : 0 ≤ (x4_1 : Int) := of_decide_eq_true (by first | (with_reducible assumption) | assumption)
     have q106 : x4_1 < (l0.length : Int) := of_decide_eq_true (by first | (with_reducible assumption) | assumption)
     obtain ⟨ad106, e106, hx106_0, hx106_1, hx106_2⟩ := at_T35 HR0.out x4_1 p106 q106
     obtain rfl : ad101 = ad106 := (by injection e106)
     replace hx106_0 := (HB.out.cell (World.block_lt_of_cell? w _ hx106_0)).trans hx106_0
     replace hx106_1 := (HB.out.cell (World.block_lt_of_cell? w _ hx106_1)).trans hx106_1
     replace hx106_2 := (HB.out.cell (World.block_lt_of_cell? w _ hx106_2)).trans hx106_2
     replace p106 := eq_true p106
     replace q106 := eq_true q106
     try go_wp2_with (first | ((with_reducible refine gate_callee (f := 33) rfl ?_);refine goesL_ (some 43) rfl rfl Tryd.func33 (by kernel_rfl) rfl #[.int .i64 ((rd_T35 l0 x4_1).f2)] rfl (by (try simp only [List.map_toArray, List.map_cons, List.map_nil]);first | done | rfl | (simp only [List.length_drop, List.length_take];rfl)) ?_;(with_reducible refine (spec_l14Dec.calls kj2 ((rd_T35 l0 x4_1).f2) t107 _ A16.out).mono ?_);rintro e w20 ⟨rfl, hb⟩;refine ⟨_, rfl, ?_⟩;replace HB := m0_ (below_step (by repeat (first | (with_reducible first | exact HB.out | apply below_alloc | apply pw_below_drewN | apply below_drew1) | exact HB.out)) hb);(try clear hb);(try clear hb2);(try clear hk);(try clear hi)))
     go_roundg kj2
     case measure => have := HK1.out;have := HJ2.out;omega
     case rel => exact ⟨((((x3_2 ++ t102) ++ t104) ++ (⟨#[61]⟩ : ByteArray)) ++ t107), (wrap64 (x4_1 + 1)), (by first | rfl | (simp;done) | (simp [*];done)), (by first | rfl | (simp;done) | (simp [*];done)), H', ⟨by have := HK1.out;have := HJ2.out;omega⟩, ⟨by repeat (first | (with_reducible first | exact HB.out | apply below_alloc | apply pw_below_drewN | apply below_drew1) | exact HB.out)⟩⟩

def spec_DrawEvsRead.j0 : Nat → ByteArray → Bool → List Int → Int → Option (ByteArray)
 | 0, _, _, _, _ => none
 | k + 1, x4, x18, x104000, x104001 => if x18 = true then (some x4) else ((spec_l14Rd_pick.f k x104000 x104001 (x4.size : Int)).bind fun bt111 => (if 0 ≤ bt111.1 then (if bt111.1 ≤ (x4.size : Int) then ((spec_l14Rd_of.f k x104000 bt111.2 (([(⟨#[]⟩ : ByteArray), (⟨#[32]⟩ : ByteArray), (⟨#[48]⟩ : ByteArray), (⟨#[61]⟩ : ByteArray), (⟨#[102]⟩ : ByteArray), (⟨#[45]⟩ : ByteArray), (⟨#[61, 48]⟩ : ByteArray)] : List ByteArray))).bind fun bt116 => (if (x4.extract 0 (bt111.1 : Int).toNat).size + bt116.1.size ≤ 9223372036854775807 then ((spec_l14Rd_pick.f k x104000 bt116.2 2).bind fun bt118 => (if 0 ≤ (wrap64 (bt111.1 + bt118.1)) then (if (wrap64 (bt111.1 + bt118.1)) ≤ (x4.size : Int) then (if ((x4.extract 0 (bt111.1 : Int).toNat) ++ bt116.1).size + (x4.extract ((wrap64 (bt111.1 + bt118.1)) : Int).toNat x4.size).size ≤ 9223372036854775807 then (some (((x4.extract 0 (bt111.1 : Int).toNat) ++ bt116.1) ++ (x4.extract ((wrap64 (bt111.1 + bt118.1)) : Int).toNat x4.size))) else (none)) else (none)) else (none))) else (none))) else (none)) else (none)))
def spec_DrawEvsRead.f (k : Nat) (l0 : List Int) : Option (ByteArray) := (spec_l14Open.f l0).bind fun bt101 => ((spec_l1Bent.f k bt101.1 bt101.2).bind fun bt104 => ((spec_EvsText.f k bt104.1).bind fun t108 => (if (t108.size : Int) = 0 then (spec_DrawEvsRead.j0 k t108 true bt101.1 bt104.2) else ((spec_l14Rd_pick.f k bt101.1 bt104.2 2).bind fun bt109 => (spec_DrawEvsRead.j0 k t108 (bt109.1 == 0) bt101.1 bt109.2)))))
def spec_DrawEvsRead.T6 : Bool × List (List Nat × List Nat) := (true, [([], []), ([], []), ([0, 1], [0, 1]), ([], []), ([], []), ([3, 4], [3, 4]), ([2, 5], [2, 5]), ([], []), ([], []), ([], []), ([9, 5], [9]), ([8, 10], [8, 10]), ([7, 11], [7, 11]), ([6, 12], [6, 12]), ([13, 10, 0, 1, 2, 3, 4, 5, 6, 7, 8, 9, 10, 11, 12, 13], [13])])
def spec_DrawEvsRead.B6 : List Nat := [0, 0, 3, 0, 0, 24, 63, 0, 0, 0, 568, 1848, 4024, 8191, 16383]
theorem spec_DrawEvsRead.tab6 : rtab .any (opsOf Tryd.f13 6) = spec_DrawEvsRead.T6 := by kernel_rfl
theorem spec_DrawEvsRead.bits6 : waitsOk spec_DrawEvsRead.T6.2 spec_DrawEvsRead.B6 = true := by kernel_rfl
set_option maxHeartbeats 8000000 in
set_option maxRecDepth 100000 in
theorem spec_DrawEvsRead.calls (k : Nat) (A0 : Option Addr) (c0 : Nat) (l0 : List Int) (r : ByteArray) (w : World) (hr0 : Kd.C (Kd.int .u8) w A0 l0.length l0) (hc0 : l0.length ≤ c0) (h : spec_DrawEvsRead.f k l0 = some r) :
  Calls Tryd.prog 13 #[.slice A0 l0.length c0] w fun e w' => e = .returned (.string r) ∧ Below w.heap.size w w' := by
 have HR0 := m0_ hr0
 have HC0 := m0_ hc0
 clear hr0 hc0
 have HB := m0_ (Below.refl w.heap.size w)
 have H : ((spec_l14Open.f l0).bind fun bt101 => ((spec_l1Bent.f k bt101.1 bt101.2).bind fun bt104 => ((spec_EvsText.f k bt104.1).bind fun t108 => (if (t108.size : Int) = 0 then (spec_DrawEvsRead.j0 k t108 true bt101.1 bt104.2) else ((spec_l14Rd_pick.f k bt101.1 bt104.2 2).bind fun bt109 => (spec_DrawEvsRead.j0 k t108 (bt109.1 == 0) bt101.1 bt109.2)))))) = some r := h
 clear h
 replace H := Option.bind_eq_some_iff.mp H
 obtain ⟨⟨t101, t102⟩, A20, H⟩ := H
 replace H : ((spec_l1Bent.f k t101 t102).bind fun bt104 => ((spec_EvsText.f k bt104.1).bind fun t108 => (if (t108.size : Int) = 0 then (spec_DrawEvsRead.j0 k t108 true t101 bt104.2) else ((spec_l14Rd_pick.f k t101 bt104.2 2).bind fun bt109 => (spec_DrawEvsRead.j0 k t108 (bt109.1 == 0) t101 bt109.2))))) = some r := H
 have A2 := m0_ A20
 clear A20
 replace H := Option.bind_eq_some_iff.mp H
 obtain ⟨⟨t104, t107⟩, A30, H⟩ := H
 replace H : ((spec_EvsText.f k t104).bind fun t108 => (if (t108.size : Int) = 0 then (spec_DrawEvsRead.j0 k t108 true t101 t107) else ((spec_l14Rd_pick.f k t101 t107 2).bind fun bt109 => (spec_DrawEvsRead.j0 k t108 (bt109.1 == 0) t101 bt109.2)))) = some r := H
 have A3 := m0_ A30
 clear A30
 replace H := Option.bind_eq_some_iff.mp H
 obtain ⟨t108, A40, H⟩ := H
 replace H : (if (t108.size : Int) = 0 then (spec_DrawEvsRead.j0 k t108 true t101 t107) else ((spec_l14Rd_pick.f k t101 t107 2).bind fun bt109 => (spec_DrawEvsRead.j0 k t108 (bt109.1 == 0) t101 bt109.2))) = some r := H
 have A4 := m0_ A40
 clear A40
 have HC5 := m0_ H
 clear H
 go_enter Tryd.func13, Tryd.ntmps13
 go_upto_region 3 with (first | ((with_reducible refine gate_callee (f := 27) rfl ?_);refine goesL_ (some 7) rfl rfl Tryd.func27 (by kernel_rfl) rfl #[.slice A0 l0.length c0] rfl (by (try simp only [List.map_toArray, List.map_cons, List.map_nil]);first | done | rfl | (simp only [List.length_drop, List.length_take];rfl)) ?_;(with_reducible refine (spec_l14Open.calls _ _ l0 t101 t102 w _ ?side1 ?side2 ?side3 A2.out).mono ?_);(case side1 => repeat (first | (with_reducible first | exact HB.out | apply below_alloc | apply pw_below_drewN | apply below_drew1) | exact HB.out));(case side2 => exact HR0.out);(case side3 => exact HC0.out);rintro e w6 ⟨g103, rfl, hi, hb, hb2⟩;refine ⟨_, rfl, ?_⟩;replace HB := m0_ (hb);have HI103 := m0_ (hi);(try clear hb);(try clear hb2);(try clear hk);(try clear hi)) | ((with_reducible refine gate_callee (f := 26) rfl ?_);refine goesL_ (some 9) rfl rfl Tryd.func26 (by kernel_rfl) rfl #[.pointer (some ⟨g103, 0, none⟩)] rfl (by (try simp only [List.map_toArray, List.map_cons, List.map_nil]);first | done | rfl | (simp only [List.length_drop, List.length_take];rfl)) ?_;(with_reducible refine (spec_l1Bent.calls k g103 t101 t102 t104 t107 w _ ?side1 ?side2 A3.out).mono ?_);(case side1 => repeat (first | (with_reducible first | exact HI103.out | apply IsS69.alloc | apply IsS69.drewN | apply IsS69.drew | apply IsS69.set_1) | exact HI103.out));(case side2 => repeat (first | (with_reducible first | exact HB.out | apply below_alloc | apply pw_below_drewN | apply below_drew1 | refine below_set ?_ (IsS69.ge HI103.out)) | exact HB.out));rintro e w7 ⟨v105, rfl, ho0, hi, hb, hk⟩;refine ⟨_, rfl, ?_⟩;have HO106 := m0_ (Kd.R_lower ho0 (below_size (by repeat (first | (with_reducible first | exact HB.out | apply below_alloc | apply pw_below_drewN | apply below_drew1 | refine below_set ?_ (IsS69.ge HI103.out)) | exact HB.out))));replace HB := m0_ (hb);replace HI103 := m0_ (hi);(try clear hb);(try clear hb2);(try clear hk);(try clear hi);(try clear ho0);obtain ⟨Ao8, co8, eo8⟩ := Kd.R_slice HO106.out;subst eo8) | ((with_reducible refine gate_callee (f := 9) rfl ?_);refine goesL_ (some 10) rfl rfl Tryd.func9 (by kernel_rfl) rfl #[.slice Ao8 t104.length co8] rfl (by (try simp only [List.map_toArray, List.map_cons, List.map_nil]);first | done | rfl | (simp only [List.length_drop, List.length_take];rfl)) ?_;(with_reducible refine (spec_EvsText.calls k _ _ t104 t108 _ ?side1 ?side2 A4.out).mono ?_);(case side1 => repeat (first | exact (Kd.R_reads' HO106.out).2.2 | (with_reducible refine Kd.C_alloc ?_ _) | (with_reducible refine Kd.C_drewN ?_ _) | (with_reducible refine Kd.C_drew ?_)));(case side2 => exact (Kd.R_reads' HO106.out).2.1);rintro e w9 ⟨rfl, hb⟩;refine ⟨_, rfl, ?_⟩;replace HO106 := m0_ (Kd.R_below (by exact HO106.out) hb);replace HB := m0_ (below_step (by repeat (first | (with_reducible first | exact HB.out | apply below_alloc | apply pw_below_drewN | apply below_drew1 | refine below_set ?_ (IsS69.ge HI103.out)) | exact HB.out)) hb);replace HI103 := m0_ (IsS69.below (by repeat (first | (with_reducible first | exact HI103.out | apply IsS69.alloc | apply IsS69.drewN | apply IsS69.drew | apply IsS69.set_1) | exact HI103.out)) hb);(try clear hb);(try clear hb2);(try clear hk);(try clear hi)))
 (try simp only [Act.put, List.setIfInBounds_toArray, List.set_cons_zero, List.set_cons_succ])
 go_cut [18] (fun v18 wc => ∃ (kq : Nat) (x18_4 : Bool) (x104001_4 : Int), v18 = .bool x18_4 ∧ Aside0 (spec_DrawEvsRead.j0 kq t108 x18_4 t101 x104001_4 = some r) ∧ Aside0 (kq ≤ k) ∧ Aside0 (IsS69 w wc g103 t101 x104001_4) ∧ Aside0 (Below w.heap.size w wc))
 case first =>
  have H := HC5.out
  clear HC5
  by_cases c10 : (t108.size : Int) = 0
  ·rw [if_pos c10] at H
   have c10b0 : ((t108.size : Int) == 0) = true := beq_iff_eq.mpr c10
   have c10b1 : ((t108.size : Int) != 0) = false := bne_eq_false_iff_eq.mpr c10
   clear c10
   (first | rw [c10b0] | (simp only [i64_w, i32_w];rw [c10b0]) | skip)
   have H' := m0_ H
   clear H
   go_wp2
   go_meet
   case rel => exact ⟨_, (true), (t107), (by first | rfl | (simp;done) | (simp [*];done)), H', ⟨by first | omega | exact Nat.le_refl _⟩, ⟨by repeat (first | (with_reducible first | exact HI103.out | apply IsS69.alloc | apply IsS69.drewN | apply IsS69.drew | apply IsS69.set_1) | exact HI103.out)⟩, ⟨by repeat (first | (with_reducible first | exact HB.out | apply below_alloc | apply pw_below_drewN | apply below_drew1 | refine below_set ?_ (IsS69.ge HI103.out)) | exact HB.out)⟩⟩
  rw [if_neg c10] at H
  have c10b0 : ((t108.size : Int) == 0) = false := beq_eq_false_iff_ne.mpr c10
  have c10b1 : ((t108.size : Int) != 0) = true := bne_iff_ne.mpr c10
  (first | rw [c10b0] | (simp only [i64_w, i32_w];rw [c10b0]) | skip)
  replace H := Option.bind_eq_some_iff.mp H
  obtain ⟨⟨t109, t110⟩, A110, H⟩ := H
  replace H : (spec_DrawEvsRead.j0 k t108 (t109 == 0) t101 t110) = some r := H
  have A11 := m0_ A110
  clear A110
  have H' := m0_ H
  clear H
  go_wp2_with (first | (go_at_call 35;(with_reducible refine (spec_l14Rd_pick.calls k g103 t101 t107 2 t109 t110 w _ ?side1 ?side2 A11.out).mono ?_);(case side1 => repeat (first | (with_reducible first | exact HI103.out | apply IsS69.alloc | apply IsS69.drewN | apply IsS69.drew | apply IsS69.set_1) | exact HI103.out));(case side2 => repeat (first | (with_reducible first | exact HB.out | apply below_alloc | apply pw_below_drewN | apply below_drew1 | refine below_set ?_ (IsS69.ge HI103.out)) | exact HB.out));rintro e w12 ⟨rfl, hi, hb, hk⟩;replace HO106 := m0_ (Kd.R_mono (Kd.R_keep (IsS69.apart (show IsS69 w _ g103 t101 t107 from by repeat (first | (with_reducible first | exact HI103.out | apply IsS69.alloc | apply IsS69.drewN | apply IsS69.drew | apply IsS69.set_1) | exact HI103.out)) (by exact HO106.out) (by decide)) hk (fun _ h => h.2)) (fun _ h => h.1));replace HB := m0_ (hb);replace HI103 := m0_ (hi);(try clear hb);(try clear hb2);(try clear hk);(try clear hi)))
  go_meet
  case rel => exact ⟨_, ((t109 == 0)), (t110), (by first | rfl | (simp;done) | (simp [*];done)), H', ⟨by first | omega | exact Nat.le_refl _⟩, ⟨by repeat (first | (with_reducible first | exact HI103.out | apply IsS69.alloc | apply IsS69.drewN | apply IsS69.drew | apply IsS69.set_1) | exact HI103.out)⟩, ⟨by repeat (first | (with_reducible first | exact HB.out | apply below_alloc | apply pw_below_drewN | apply below_drew1 | refine below_set ?_ (IsS69.ge HI103.out)) | exact HB.out)⟩⟩
 case rest =>
  clear HC5
  try clear c1
  try clear c2
  try clear p2
  try clear c9
  try clear c10
  try clear c10b0
  try clear c10b1
  obtain ⟨kq, x18_4, x104001_4, rfl, HA, HJ4, HI103, HB⟩ := hcut
  cases kq with
  | zero => exact absurd HA.out (by simp [spec_DrawEvsRead.j0])
  | succ kj4 =>
   have H := HA.out
   clear HA
   simp only [spec_DrawEvsRead.j0] at H
   by_cases c13 : x18_4 = true
   ·subst c13
    have H1 : (some t108) = some r := by rw [if_pos rfl] at H;exact H
    clear H
    have H := H1
    clear H1
    obtain rfl := Option.some.inj H
    go_wp2
    go_ret
    exact ⟨by first | rfl | (simp [errW_none, errW_some] <;> rfl) | (simp [*, errW_none, errW_some] <;> rfl), by repeat (first | (with_reducible first | exact HB.out | apply below_alloc | apply pw_below_drewN | apply below_drew1 | refine below_set ?_ (IsS69.ge HI103.out)) | exact HB.out)⟩
   replace c13 := Bool.eq_false_iff.mpr c13
   subst c13
   have H1 : ((spec_l14Rd_pick.f kj4 t101 x104001_4 (t108.size : Int)).bind fun bt111 => (if 0 ≤ bt111.1 then (if bt111.1 ≤ (t108.size : Int) then ((spec_l14Rd_of.f kj4 t101 bt111.2 (([(⟨#[]⟩ : ByteArray), (⟨#[32]⟩ : ByteArray), (⟨#[48]⟩ : ByteArray), (⟨#[61]⟩ : ByteArray), (⟨#[102]⟩ : ByteArray), (⟨#[45]⟩ : ByteArray), (⟨#[61, 48]⟩ : ByteArray)] : List ByteArray))).bind fun bt116 => (if (t108.extract 0 (bt111.1 : Int).toNat).size + bt116.1.size ≤ 9223372036854775807 then ((spec_l14Rd_pick.f kj4 t101 bt116.2 2).bind fun bt118 => (if 0 ≤ (wrap64 (bt111.1 + bt118.1)) then (if (wrap64 (bt111.1 + bt118.1)) ≤ (t108.size : Int) then (if ((t108.extract 0 (bt111.1 : Int).toNat) ++ bt116.1).size + (t108.extract ((wrap64 (bt111.1 + bt118.1)) : Int).toNat t108.size).size ≤ 9223372036854775807 then (some (((t108.extract 0 (bt111.1 : Int).toNat) ++ bt116.1) ++ (t108.extract ((wrap64 (bt111.1 + bt118.1)) : Int).toNat t108.size))) else (none)) else (none)) else (none))) else (none))) else (none)) else (none))) = some r := by rw [if_neg (show ¬ (false = true) by decide)] at H;exact H
   clear H
   have H := H1
   clear H1
   replace H := Option.bind_eq_some_iff.mp H
   obtain ⟨⟨t111, t112⟩, A140, H⟩ := H
   replace H : (if 0 ≤ t111 then (if t111 ≤ (t108.size : Int) then ((spec_l14Rd_of.f kj4 t101 t112 (([(⟨#[]⟩ : ByteArray), (⟨#[32]⟩ : ByteArray), (⟨#[48]⟩ : ByteArray), (⟨#[61]⟩ : ByteArray), (⟨#[102]⟩ : ByteArray), (⟨#[45]⟩ : ByteArray), (⟨#[61, 48]⟩ : ByteArray)] : List ByteArray))).bind fun bt116 => (if (t108.extract 0 (t111 : Int).toNat).size + bt116.1.size ≤ 9223372036854775807 then ((spec_l14Rd_pick.f kj4 t101 bt116.2 2).bind fun bt118 => (if 0 ≤ (wrap64 (t111 + bt118.1)) then (if (wrap64 (t111 + bt118.1)) ≤ (t108.size : Int) then (if ((t108.extract 0 (t111 : Int).toNat) ++ bt116.1).size + (t108.extract ((wrap64 (t111 + bt118.1)) : Int).toNat t108.size).size ≤ 9223372036854775807 then (some (((t108.extract 0 (t111 : Int).toNat) ++ bt116.1) ++ (t108.extract ((wrap64 (t111 + bt118.1)) : Int).toNat t108.size))) else (none)) else (none)) else (none))) else (none))) else (none)) else (none)) = some r := H
   have A14 := m0_ A140
   clear A140
   by_cases c15 : 0 ≤ t111
   rotate_left
   ·rw [if_neg c15] at H
    exact absurd H (by simp)
   rw [if_pos c15] at H
   have c15b0 := eq_true c15
   have c15b1 : decide (0 ≤ t111) = true := decide_eq_true c15
   clear c15
   by_cases c16 : t111 ≤ (t108.size : Int)
   rotate_left
   ·rw [if_neg c16] at H
    exact absurd H (by simp)
   rw [if_pos c16] at H
   have c16b0 := eq_true c16
   have c16b1 : decide (t111 ≤ (t108.size : Int)) = true := decide_eq_true c16
   clear c16
   obtain ⟨y113, hy113⟩ : ∃ y_ : List ByteArray, y_ = (([(⟨#[]⟩ : ByteArray), (⟨#[32]⟩ : ByteArray), (⟨#[48]⟩ : ByteArray), (⟨#[61]⟩ : ByteArray), (⟨#[102]⟩ : ByteArray), (⟨#[45]⟩ : ByteArray), (⟨#[61, 48]⟩ : ByteArray)] : List ByteArray)) := ⟨_, rfl⟩
   replace H : ((spec_l14Rd_of.f kj4 t101 t112 y113).bind fun bt116 => (if (t108.extract 0 (t111 : Int).toNat).size + bt116.1.size ≤ 9223372036854775807 then ((spec_l14Rd_pick.f kj4 t101 bt116.2 2).bind fun bt118 => (if 0 ≤ (wrap64 (t111 + bt118.1)) then (if (wrap64 (t111 + bt118.1)) ≤ (t108.size : Int) then (if ((t108.extract 0 (t111 : Int).toNat) ++ bt116.1).size + (t108.extract ((wrap64 (t111 + bt118.1)) : Int).toNat t108.size).size ≤ 9223372036854775807 then (some (((t108.extract 0 (t111 : Int).toNat) ++ bt116.1) ++ (t108.extract ((wrap64 (t111 + bt118.1)) : Int).toNat t108.size))) else (none)) else (none)) else (none))) else (none))) = some r := by first | (rw [hy113];with_reducible exact H) | (have H2_ := (Option.bind_some _ _).symm.trans H;rw [hy113];with_reducible exact H2_) | (have H2_ := (Option.bind_some _ _).symm.trans H;with_reducible exact H2_) | with_reducible exact H | (rw [hy113];exact H) | exact H
   have Ny113 := m0_ hy113
   clear hy113
   replace H := Option.bind_eq_some_iff.mp H
   obtain ⟨⟨t116, t117⟩, A170, H⟩ := H
   replace H : (if (t108.extract 0 (t111 : Int).toNat).size + t116.size ≤ 9223372036854775807 then ((spec_l14Rd_pick.f kj4 t101 t117 2).bind fun bt118 => (if 0 ≤ (wrap64 (t111 + bt118.1)) then (if (wrap64 (t111 + bt118.1)) ≤ (t108.size : Int) then (if ((t108.extract 0 (t111 : Int).toNat) ++ t116).size + (t108.extract ((wrap64 (t111 + bt118.1)) : Int).toNat t108.size).size ≤ 9223372036854775807 then (some (((t108.extract 0 (t111 : Int).toNat) ++ t116) ++ (t108.extract ((wrap64 (t111 + bt118.1)) : Int).toNat t108.size))) else (none)) else (none)) else (none))) else (none)) = some r := H
   have A17 := m0_ A170
   clear A170
   by_cases c18 : (t108.extract 0 (t111 : Int).toNat).size + t116.size ≤ 9223372036854775807
   rotate_left
   ·rw [if_neg c18] at H
    exact absurd H (by simp)
   rw [if_pos c18] at H
   have c18b0 := eq_true c18
   have c18b1 : decide ((t108.extract 0 (t111 : Int).toNat).size + t116.size ≤ 9223372036854775807) = true := decide_eq_true c18
   have c18y0 : (t111 : Int).toNat + t116.size ≤ 9223372036854775807 := by have q_ := c18; have p_0 : (t111 : Int) ≤ (t108.size : Int) := of_decide_eq_true (by first | (with_reducible assumption) | assumption); simp only [ByteArray.size_append, ByteArray.size_extract] at q_ ⊢; omega
   have c18y0a := eq_true c18y0
   have c18y0b := decide_eq_true c18y0
   have c18y0c := eq_false (Nat.not_lt.2 c18y0)
   try have c18b2 : (9223372036854775807 < (t108.extract 0 (t111 : Int).toNat).size + t116.size) = False := eq_false (Nat.not_lt.2 c18)
   replace H := Option.bind_eq_some_iff.mp H
   obtain ⟨⟨t118, t119⟩, A190, H⟩ := H
   replace H : (if 0 ≤ (wrap64 (t111 + t118)) then (if (wrap64 (t111 + t118)) ≤ (t108.size : Int) then (if ((t108.extract 0 (t111 : Int).toNat) ++ t116).size + (t108.extract ((wrap64 (t111 + t118)) : Int).toNat t108.size).size ≤ 9223372036854775807 then (some (((t108.extract 0 (t111 : Int).toNat) ++ t116) ++ (t108.extract ((wrap64 (t111 + t118)) : Int).toNat t108.size))) else (none)) else (none)) else (none)) = some r := H
   have A19 := m0_ A190
   clear A190
   obtain ⟨ji20, hji20⟩ : ∃ j_ : Int, (wrap64 (t111 + t118)) = j_ := ⟨_, rfl⟩
   replace H : (if 0 ≤ (ji20) then (if (ji20) ≤ (t108.size : Int) then (if ((t108.extract 0 (t111 : Int).toNat) ++ t116).size + (t108.extract ((ji20) : Int).toNat t108.size).size ≤ 9223372036854775807 then (some (((t108.extract 0 (t111 : Int).toNat) ++ t116) ++ (t108.extract ((ji20) : Int).toNat t108.size))) else (none)) else (none)) else (none)) = some r := by first | (rw [hji20] at H;exact H) | (simp only [hji20] at H ⊢;exact H)
   (try rw [hji20] at A14)
   (try rw [hji20] at A17)
   (try rw [hji20] at A19)
   have hji20w : (IntKind.i64.wrap (t111 + t118)) = ji20 := (i64_w _).trans hji20
   by_cases c21 : 0 ≤ (ji20)
   rotate_left
   ·rw [if_neg c21] at H
    exact absurd H (by simp)
   rw [if_pos c21] at H
   have c21b0 := eq_true c21
   have c21b1 : decide (0 ≤ (ji20)) = true := decide_eq_true c21
   clear c21
   by_cases c22 : (ji20) ≤ (t108.size : Int)
   rotate_left
   ·rw [if_neg c22] at H
    exact absurd H (by simp)
   rw [if_pos c22] at H
   have c22b0 := eq_true c22
   have c22b1 : decide ((ji20) ≤ (t108.size : Int)) = true := decide_eq_true c22
   clear c22
   by_cases c23 : ((t108.extract 0 (t111 : Int).toNat) ++ t116).size + (t108.extract ((ji20) : Int).toNat t108.size).size ≤ 9223372036854775807
   rotate_left
   ·rw [if_neg c23] at H
    exact absurd H (by simp)
   rw [if_pos c23] at H
   have c23b0 := eq_true c23
   have c23b1 : decide (((t108.extract 0 (t111 : Int).toNat) ++ t116).size + (t108.extract ((ji20) : Int).toNat t108.size).size ≤ 9223372036854775807) = true := decide_eq_true c23
   have c23y0 : (t111 : Int).toNat + t116.size + (t108.extract ((ji20) : Int).toNat t108.size).size ≤ 9223372036854775807 := by have q_ := c23; have p_0 : (t111 : Int) ≤ (t108.size : Int) := of_decide_eq_true (by first | (with_reducible assumption) | assumption); have p_1 : (ji20 : Int) ≤ (t108.size : Int) := of_decide_eq_true (by first | (with_reducible assumption) | assumption); simp only [ByteArray.size_append, ByteArray.size_extract] at q_ ⊢; omega
   have c23y0a := eq_true c23y0
   have c23y0b := decide_eq_true c23y0
   have c23y0c := eq_false (Nat.not_lt.2 c23y0)
   have c23y1 : (t111 : Int).toNat + t116.size + (t108.size - (ji20 : Int).toNat) ≤ 9223372036854775807 := by have q_ := c23; have p_0 : (t111 : Int) ≤ (t108.size : Int) := of_decide_eq_true (by first | (with_reducible assumption) | assumption); have p_1 : (ji20 : Int) ≤ (t108.size : Int) := of_decide_eq_true (by first | (with_reducible assumption) | assumption); simp only [ByteArray.size_append, ByteArray.size_extract] at q_ ⊢; omega
   have c23y1a := eq_true c23y1
   have c23y1b := decide_eq_true c23y1
   have c23y1c := eq_false (Nat.not_lt.2 c23y1)
   have c23z : ((t108.extract 0 (t111 : Int).toNat) ++ t116).size + (t108.extract ((ji20) : Int).toNat t108.size).size ≤ 9223372036854775807 := c23
   simp only [ByteArray.size_append, show (⟨#[32]⟩ : ByteArray).size = 1 from rfl] at c23z
   have c23z0 := eq_true c23z
   have c23z1 := decide_eq_true c23z
   have c23z2 := eq_false (Nat.not_lt.2 c23z)
   try have c23b2 : (9223372036854775807 < ((t108.extract 0 (t111 : Int).toNat) ++ t116).size + (t108.extract ((ji20) : Int).toNat t108.size).size) = False := eq_false (Nat.not_lt.2 c23)
   obtain rfl := Option.some.inj H
   try go_wp2_with (first | ((with_reducible refine gate_callee (f := 35) rfl ?_);refine goesL_ (some 23) rfl rfl Tryd.func35 (by kernel_rfl) rfl #[.pointer (some ⟨g103, 0, none⟩), .int .i64 (t108.size : Int)] rfl (by (try simp only [List.map_toArray, List.map_cons, List.map_nil]);first | done | rfl | (simp only [List.length_drop, List.length_take];rfl)) ?_;(with_reducible refine (spec_l14Rd_pick.calls kj4 g103 t101 x104001_4 (t108.size : Int) t111 t112 w _ ?side1 ?side2 A14.out).mono ?_);(case side1 => repeat (first | (with_reducible first | exact HI103.out | apply IsS69.alloc | apply IsS69.drewN | apply IsS69.drew | apply IsS69.set_1) | exact HI103.out));(case side2 => repeat (first | (with_reducible first | exact HB.out | apply below_alloc | apply pw_below_drewN | apply below_drew1 | refine below_set ?_ (IsS69.ge HI103.out)) | exact HB.out));rintro e w24 ⟨rfl, hi, hb, hk⟩;refine ⟨_, rfl, ?_⟩;replace HB := m0_ (hb);replace HI103 := m0_ (hi);(try clear hb);(try clear hb2);(try clear hk);(try clear hi)))
   replace HI103 := m0_ (IsS69.drew HI103.out)
   replace HB := m0_ (below_drew1 HB.out)
   refine start_ (n := 15) (S := fun w' => True) (ds := []) #[false, false, false, false, false, false, false, false, false, false, false, false, false, false, false] (by kernel_rfl) rfl rfl trivial (fun hHeld => ?_);refine with_tabW spec_DrawEvsRead.tab6 spec_DrawEvsRead.bits6 (fun HT_ HW_ => ?_)
   generalize w24.drew = w25 at HI103 HB hHeld ⊢
   refine pv_ 0 24 #[true, false, false, false, false, false, false, false, false, false, false, false, false, false, false] (any_of HT_.out (by kernel_rfl)) ?_
   refine pv_ 1 25 #[true, true, false, false, false, false, false, false, false, false, false, false, false, false, false] (any_of HT_.out (by kernel_rfl)) ?_
   refine pv_ 2 26 #[true, true, true, false, false, false, false, false, false, false, false, false, false, false, false] (any_of HT_.out (by kernel_rfl)) ?_
   refine pv_ 3 27 #[true, true, true, true, false, false, false, false, false, false, false, false, false, false, false] (any_of HT_.out (by kernel_rfl)) ?_
   refine pv_ 7 31 #[true, true, true, true, false, false, false, true, false, false, false, false, false, false, false] (any_of HT_.out (by kernel_rfl)) ?_
   refine pv_ 8 32 #[true, true, true, true, false, false, false, true, true, false, false, false, false, false, false] (any_of HT_.out (by kernel_rfl)) ?_
   refine pv_ 9 33 #[true, true, true, true, false, false, false, true, true, true, false, false, false, false, false] (any_of HT_.out (by kernel_rfl)) ?_
   refine one_ (i := 4) (N := some 28) #[true, true, true, true, true, false, false, true, true, true, false, false, false, false, false] rfl rfl (one_of HT_.out (by kernel_rfl)) (by decide) (fun K hK => ?_)
   refine Kd.R_lit_step Kd.string _ 9 ?hg (N := 28) ?hd (xs := ([(⟨#[]⟩ : ByteArray), (⟨#[32]⟩ : ByteArray), (⟨#[48]⟩ : ByteArray), (⟨#[61]⟩ : ByteArray), (⟨#[102]⟩ : ByteArray), (⟨#[45]⟩ : ByteArray), (⟨#[61, 48]⟩ : ByteArray)] : List ByteArray)) (inner := [.string (⟨#[]⟩ : ByteArray), .string (⟨#[32]⟩ : ByteArray), .string (⟨#[48]⟩ : ByteArray), .string (⟨#[61]⟩ : ByteArray), .string (⟨#[102]⟩ : ByteArray), .string (⟨#[45]⟩ : ByteArray), .string (⟨#[61, 48]⟩ : ByteArray)]) (ok := fun _ => True) (okp := fun _ => True) ?hr ?hp (fun _ hk => hk) trivial (Below.refl _ _) (Nat.le_refl _) (by simp) ?_;(case hd => rfl);(case hg => rfl);(case hr => first | (go_simp;done) | (go_simp;rfl));(case hp => exact (Reps.one (show Kd.M Kd.string _ _ _ (⟨#[]⟩ : ByteArray) [.string (⟨#[]⟩ : ByteArray)] from rfl) (Reps.one (show Kd.M Kd.string _ _ _ (⟨#[32]⟩ : ByteArray) [.string (⟨#[32]⟩ : ByteArray)] from rfl) (Reps.one (show Kd.M Kd.string _ _ _ (⟨#[48]⟩ : ByteArray) [.string (⟨#[48]⟩ : ByteArray)] from rfl) (Reps.one (show Kd.M Kd.string _ _ _ (⟨#[61]⟩ : ByteArray) [.string (⟨#[61]⟩ : ByteArray)] from rfl) (Reps.one (show Kd.M Kd.string _ _ _ (⟨#[102]⟩ : ByteArray) [.string (⟨#[102]⟩ : ByteArray)] from rfl) (Reps.one (show Kd.M Kd.string _ _ _ (⟨#[45]⟩ : ByteArray) [.string (⟨#[45]⟩ : ByteArray)] from rfl) (Reps.one (show Kd.M Kd.string _ _ _ (⟨#[61, 48]⟩ : ByteArray) [.string (⟨#[61, 48]⟩ : ByteArray)] from rfl) (Reps.none _ _)))))))))
   intro v114 w26 ho27 hb hg_ hnew_
   clear hg_ hnew_
   (first | rw [← Ny113.out] at ho27 | (simp only [Int.reduceToNat] at ho27;rw [← Ny113.out] at ho27))
   have HO115 := m0_ (Kd.R_lower ho27 (below_size (by repeat (first | (with_reducible first | exact HB.out | apply below_alloc | apply pw_below_drewN | apply below_drew1 | refine below_set ?_ (IsS69.ge HI103.out)) | exact HB.out))))
   replace HB := m0_ (below_step (by repeat (first | (with_reducible first | exact HB.out | apply below_alloc | apply pw_below_drewN | apply below_drew1 | refine below_set ?_ (IsS69.ge HI103.out)) | exact HB.out)) hb)
   replace HI103 := m0_ (IsS69.below (by repeat (first | (with_reducible first | exact HI103.out | apply IsS69.alloc | apply IsS69.drewN | apply IsS69.drew | apply IsS69.set_1) | exact HI103.out)) hb)
   clear hb ho27
   obtain ⟨Ao28, co28, eo28⟩ := Kd.R_slice HO115.out
   (first | subst eo28 | (injection eo28 with f1_ f2_ f3_;have f4_ := f1_.symm;have f5_ := f3_.symm;clear f1_ f2_ f3_;subst f4_;subst f5_))
   refine hK.out _ _ trivial (fun hHeld => ?_)
   clear hK K
   refine norm_ (a' := ?_) ?_ ?_
   rotate_left
   ·show Act.put _ (some 28) _ = _
    simp only [Act.put, List.setIfInBounds_toArray, List.set_cons_zero, List.set_cons_succ, i64_w, i32_w]
    rfl
   refine one_ (i := 5) (N := some 29) #[true, true, true, true, true, true, false, true, true, true, false, false, false, false, false] rfl rfl (one_of HT_.out (by kernel_rfl)) (by decide) (fun K hK => ?_)
   refine goes_ Tryd.func36 (by kernel_rfl) rfl #[.pointer (some ⟨g103, 0, none⟩), .slice Ao28 y113.length co28] (by rfl) rfl rfl (by (try simp only [List.map_toArray, List.map_cons, List.map_nil]);first | done | rfl | (simp only [List.length_drop, List.length_take];rfl)) ?_
   with_reducible refine (spec_l14Rd_of.calls kj4 g103 t101 t112 _ _ y113 t116 t117 w _ ?side1 ?side2 ?side3 ?side4 ?side5 A17.out).mono ?_
   (case side1 => repeat (first | (with_reducible first | exact HI103.out | apply IsS69.alloc | apply IsS69.drewN | apply IsS69.drew | apply IsS69.set_1) | exact HI103.out))
   (case side2 => repeat (first | (with_reducible first | exact HB.out | apply below_alloc | apply pw_below_drewN | apply below_drew1 | refine below_set ?_ (IsS69.ge HI103.out)) | exact HB.out))
   (case side3 => repeat (first | exact (Kd.R_reads' HO115.out).2.2 | (with_reducible refine Kd.C_alloc ?_ _) | (with_reducible refine Kd.C_drewN ?_ _) | (with_reducible refine Kd.C_drew ?_)))
   (case side4 => exact (Kd.R_reads' HO115.out).2.1)
   (case side5 => exact far_slice (IsS69.own_ne HI103.out HO115.out (by decide)))
   rintro e w29 ⟨rfl, hi, hb, hk⟩
   refine ⟨_, rfl, ?_⟩
   replace HO115 := m0_ (Kd.R_mono (Kd.R_keep (IsS69.apart (show IsS69 w _ g103 t101 t112 from by repeat (first | (with_reducible first | exact HI103.out | apply IsS69.alloc | apply IsS69.drewN | apply IsS69.drew | apply IsS69.set_1) | exact HI103.out)) (by exact HO115.out) (by decide)) hk (fun _ h => h.2)) (fun _ h => h.1))
   replace HB := m0_ (hb)
   replace HI103 := m0_ (hi)
   (try clear hb)
   (try clear hb2)
   (try clear hk)
   (try clear hi)
   refine hK.out _ _ trivial (fun hHeld => ?_)
   clear hK K
   refine norm_ (a' := ?_) ?_ ?_
   rotate_left
   ·show Act.put _ (some 29) _ = _
    simp only [Act.put, List.setIfInBounds_toArray, List.set_cons_zero, List.set_cons_succ, i64_w, i32_w]
    rfl
   refine pv_ 6 30 #[true, true, true, true, true, true, true, true, true, true, false, false, false, false, false] (any_of HT_.out (by kernel_rfl)) ?_
   refine one_ (i := 10) (N := some 34) #[true, true, true, true, true, true, true, true, true, true, true, false, false, false, false] rfl rfl (one_of HT_.out (by kernel_rfl)) (by decide) (fun K hK => ?_)
   refine goes_ Tryd.func35 (by kernel_rfl) rfl #[.pointer (some ⟨g103, 0, none⟩), .int .i64 2] (by rfl) rfl rfl (by (try simp only [List.map_toArray, List.map_cons, List.map_nil]);first | done | rfl | (simp only [List.length_drop, List.length_take];rfl)) ?_
   with_reducible refine (spec_l14Rd_pick.calls kj4 g103 t101 t117 2 t118 t119 w _ ?side1 ?side2 A19.out).mono ?_
   (case side1 => repeat (first | (with_reducible first | exact HI103.out | apply IsS69.alloc | apply IsS69.drewN | apply IsS69.drew | apply IsS69.set_1) | exact HI103.out))
   (case side2 => repeat (first | (with_reducible first | exact HB.out | apply below_alloc | apply pw_below_drewN | apply below_drew1 | refine below_set ?_ (IsS69.ge HI103.out)) | exact HB.out))
   rintro e w30 ⟨rfl, hi, hb, hk⟩
   refine ⟨_, rfl, ?_⟩
   replace HO115 := m0_ (Kd.R_mono (Kd.R_keep (IsS69.apart (show IsS69 w _ g103 t101 t117 from by repeat (first | (with_reducible first | exact HI103.out | apply IsS69.alloc | apply IsS69.drewN | apply IsS69.drew | apply IsS69.set_1) | exact HI103.out)) (by exact HO115.out) (by decide)) hk (fun _ h => h.2)) (fun _ h => h.1))
   replace HB := m0_ (hb)
   replace HI103 := m0_ (hi)
   (try clear hb)
   (try clear hb2)
   (try clear hk)
   (try clear hi)
   refine hK.out _ _ trivial (fun hHeld => ?_)
   clear hK K
   refine norm_ (a' := ?_) ?_ ?_
   rotate_left
   ·show Act.put _ (some 34) _ = _
    simp only [Act.put, List.setIfInBounds_toArray, List.set_cons_zero, List.set_cons_succ, i64_w, i32_w]
    rfl
   refine pv_ 11 35 #[true, true, true, true, true, true, true, true, true, true, true, true, false, false, false] (any_of HT_.out (by kernel_rfl)) ?_
   refine pv_ 12 36 #[true, true, true, true, true, true, true, true, true, true, true, true, true, false, false] (any_of HT_.out (by kernel_rfl)) ?_
   refine pv_ 13 37 #[true, true, true, true, true, true, true, true, true, true, true, true, true, true, false] (any_of HT_.out (by kernel_rfl)) ?_
   refine pv_ 14 2 #[true, true, true, true, true, true, true, true, true, true, true, true, true, true, true] (any_of HT_.out (by kernel_rfl)) ?_
   refine done_ (done_of HT_.out (by kernel_rfl)) ?_
   try go_wp2
   go_ret
   exact ⟨by first | rfl | (simp [errW_none, errW_some] <;> rfl) | (simp only [← hji20];first | rfl | (simp [errW_none, errW_some] <;> rfl)) | (simp [*, errW_none, errW_some] <;> rfl), by repeat (first | (with_reducible first | exact HB.out | apply below_alloc | apply pw_below_drewN | apply below_drew1 | refine below_set ?_ (IsS69.ge HI103.out)) | exact HB.out)⟩

def spec_l14Cut.l0 : Nat → ByteArray → Int → List ByteArray → Int → Int → Option (List ByteArray)
 | 0, _, _, _, _, _ => none
 | k + 1, x0, x1, x5, x6, x7 => if x7 ≤ (x0.size : Int) then (if x7 = (x0.size : Int) then (if 0 ≤ x6 then (if x6 ≤ x7 then (if x5.length < 8796093022208 then (spec_l14Cut.l0 k x0 x1 (x5 ++ [x0.extract (x6 : Int).toNat (x7 : Int).toNat]) (wrap64 (x7 + 1)) (wrap64 (x7 + 1))) else (none)) else (none)) else (none)) else (if 0 ≤ x7 then (if x7 < (x0.size : Int) then (if (bt x0 x7) = x1 then (if 0 ≤ x6 then (if x6 ≤ x7 then (if x5.length < 8796093022208 then (spec_l14Cut.l0 k x0 x1 (x5 ++ [x0.extract (x6 : Int).toNat (x7 : Int).toNat]) (wrap64 (x7 + 1)) (wrap64 (x7 + 1))) else (none)) else (none)) else (none)) else (spec_l14Cut.l0 k x0 x1 x5 x6 (wrap64 (x7 + 1)))) else (none)) else (none))) else (some x5)
def spec_l14Cut.f (k : Nat) (a0 : ByteArray) (a1 : Int) : Option (List ByteArray) := spec_l14Cut.l0 k a0 a1 (([] : List ByteArray)) 0 0
set_option maxHeartbeats 8000000 in
set_option maxRecDepth 100000 in
theorem spec_l14Cut.calls (k : Nat) (a0 : ByteArray) (a1 : Int) (r : List ByteArray) (w : World) (h : spec_l14Cut.f k a0 a1 = some r) :
  Calls Tryd.prog 37 #[.string a0, .int .u8 a1] w fun e w' => ∃ v0_ : Value, e = .returned (v0_) ∧ Kd.R Kd.string 9 w' w.heap.size (fun _ => True) v0_ r ∧ Below w.heap.size w w' := by
 have HB := m0_ (Below.refl w.heap.size w)
 have H : (spec_l14Cut.l0 k a0 a1 (([] : List ByteArray)) 0 0) = some r := h
 clear h
 obtain ⟨y101, hy101⟩ : ∃ y_ : List ByteArray, y_ = (([] : List ByteArray)) := ⟨_, rfl⟩
 replace H : (spec_l14Cut.l0 k a0 a1 y101 0 0) = some r := by first | (rw [hy101];with_reducible exact H) | (have H2_ := (Option.bind_some _ _).symm.trans H;rw [hy101];with_reducible exact H2_) | (have H2_ := (Option.bind_some _ _).symm.trans H;with_reducible exact H2_) | with_reducible exact H | (rw [hy101];exact H) | exact H
 have Ny101 := m0_ hy101
 clear hy101
 have H' := m0_ H
 clear H
 go_enter Tryd.func37, Tryd.ntmps37
 go_wp2_with (first | ((with_reducible refine gate_dst (N := 8) rfl ?_);refine Kd.R_lit Kd.string _ 9 ?hg (N := 8) ?hd (xs := ([] : List ByteArray)) (inner := []) (ok := fun _ => True) (okp := fun _ => True) ?hr ?hp (fun _ hk => hk) trivial (Below.refl _ _) (Nat.le_refl _) (by simp) ?_;(case hd => rfl);(case hg => rfl);(case hr => first | (go_simp;done) | (go_simp;rfl));(case hp => exact (Reps.none _ _));intro v102 w3 ho4 hb hg_ hnew_;clear hg_ hnew_;(first | rw [← Ny101.out] at ho4 | (simp only [Int.reduceToNat] at ho4;rw [← Ny101.out] at ho4));have HO103 := m0_ (Kd.R_lower ho4 (below_size (by exact HB.out)));replace HB := m0_ (below_step (by exact HB.out) hb);clear hb ho4))
 go_loopg [5, 6, 7] k (fun kq v5 v6 v7 w' => ∃ (x5_1 : List ByteArray) (x6_1 : Int) (x7_1 : Int), v6 = .int .i64 x6_1 ∧ v7 = .int .i64 x7_1 ∧ Aside0 (spec_l14Cut.l0 kq a0 a1 x5_1 x6_1 x7_1 = some r) ∧ Aside0 (kq ≤ k) ∧ Aside0 (Kd.R Kd.string 9 w' w.heap.size (fun _ => True) v5 x5_1) ∧ Aside0 (Below w.heap.size w w'))
 case atStart => exact ⟨(y101), (0), (0), (by first | rfl | (simp;done) | (simp [*];done)), (by first | rfl | (simp;done) | (simp [*];done)), H', ⟨Nat.le_refl _⟩, ⟨by (with_reducible repeat (first | apply Kd.R_alloc | apply Kd.R_drewN | apply Kd.R_drew));exact HO103.out⟩, ⟨by repeat (first | (with_reducible first | exact HB.out | apply below_alloc | apply pw_below_drewN | apply below_drew1) | exact HB.out)⟩⟩
 case round =>
  clear H'
  try clear p2
  try clear c3
  obtain ⟨x5_1, x6_1, x7_1, rfl, rfl, HA, HK1, HO_5, HB⟩ := hrel
  cases gk with
  | zero => exact absurd HA.out (by simp [spec_l14Cut.l0])
  | succ k1 =>
   have H := HA.out
   clear HA
   simp only [spec_l14Cut.l0] at H
   by_cases c5 : x7_1 ≤ (a0.size : Int)
   rotate_left
   ·rw [if_neg c5] at H
    have c5b0 : decide (x7_1 ≤ (a0.size : Int)) = false := decide_eq_false c5
    clear c5
    obtain rfl := Option.some.inj H
    go_wp2
    go_ret
    exact ⟨_, by first | rfl | (simp [errW_none, errW_some] <;> rfl) | (simp [*, errW_none, errW_some] <;> rfl), by (with_reducible repeat (first | apply Kd.R_alloc | apply Kd.R_drewN | apply Kd.R_drew));exact HO_5.out, by repeat (first | (with_reducible first | exact HB.out | apply below_alloc | apply pw_below_drewN | apply below_drew1) | exact HB.out)⟩
   rw [if_pos c5] at H
   have c5b0 : decide (x7_1 ≤ (a0.size : Int)) = true := decide_eq_true c5
   clear c5
   by_cases c6 : x7_1 = (a0.size : Int)
   ·rw [if_pos c6] at H
    have c6b0 : (x7_1 == (a0.size : Int)) = true := beq_iff_eq.mpr c6
    have c6b1 : (x7_1 != (a0.size : Int)) = false := bne_eq_false_iff_eq.mpr c6
    clear c6
    by_cases c7 : 0 ≤ x6_1
    rotate_left
    ·rw [if_neg c7] at H
     exact absurd H (by simp)
    rw [if_pos c7] at H
    have c7b0 := eq_true c7
    have c7b1 : decide (0 ≤ x6_1) = true := decide_eq_true c7
    clear c7
    by_cases c8 : x6_1 ≤ x7_1
    rotate_left
    ·rw [if_neg c8] at H
     exact absurd H (by simp)
    rw [if_pos c8] at H
    have c8b0 := eq_true c8
    have c8b1 : decide (x6_1 ≤ x7_1) = true := decide_eq_true c8
    clear c8
    have c9b0 := eq_true (of_decide_eq_true (by first | (with_reducible assumption) | assumption) : x7_1 ≤ (a0.size : Int))
    by_cases c10 : x5_1.length < 8796093022208
    ·rw [if_pos c10] at H
     have LMc10 := m0_ c10
     clear c10
     obtain ⟨y104, hy104⟩ : ∃ y_ : List ByteArray, y_ = (x5_1 ++ [a0.extract (x6_1 : Int).toNat (x7_1 : Int).toNat]) := ⟨_, rfl⟩
     replace H : (spec_l14Cut.l0 k1 a0 a1 y104 (wrap64 (x7_1 + 1)) (wrap64 (x7_1 + 1))) = some r := by first | (rw [hy104];with_reducible exact H) | (have H2_ := (Option.bind_some _ _).symm.trans H;rw [hy104];with_reducible exact H2_) | (have H2_ := (Option.bind_some _ _).symm.trans H;with_reducible exact H2_) | with_reducible exact H | (rw [hy104];exact H) | exact H
     have Ny104 := m0_ hy104
     clear hy104
     have H' := m0_ H
     clear H
     go_wp2_with (first | ((with_reducible refine gate_builtin (b := .append) (xs := #[.tmp 26, .tmp 31]) rfl ?_);at_builtin;refine Kd.R_append Kd.string (w0 := w) w.heap.size rfl (.tmp 26) (.tmp 31) 48 9 (.string ⟨#[]⟩) 16 rfl Tryd.underlying48 info9 rfl (by decide) (by omega) u5 x5_1 (a0.extract (x6_1 : Int).toNat (x7_1 : Int).toNat) [.string (a0.extract (x6_1 : Int).toNat (x7_1 : Int).toNat)] (fun _ => True) (fun _ => False) rfl rfl ?aP (fun _ hk => hk.elim) ?aF ?aO ?aB ?aS ?aL ?_;(case aP => exact rfl);(case aB => exact (by exact HB.out));(case aF => exact (fun _ _ => trivial));(case aO => exact (by exact HO_5.out));(case aS => exact (below_size (by exact HB.out)));(case aL => have := LMc10.out;omega);intro v105 w11 ho hb hg hat;rw [← Ny104.out] at ho;have n0_ := m0_ (hb);have n1_ := m0_ (ho);clear HB;clear HO_5;have HB := n0_;have HO106 := n1_;clear n0_ n1_;clear ho hb hg hat))
     go_roundg k1
     case measure => have := HK1.out;omega
     case rel => exact ⟨(y104), (wrap64 (x7_1 + 1)), (wrap64 (x7_1 + 1)), (by first | rfl | (simp;done) | (simp [*];done)), (by first | rfl | (simp;done) | (simp [*];done)), H', ⟨by have := HK1.out;omega⟩, ⟨by (with_reducible repeat (first | apply Kd.R_alloc | apply Kd.R_drewN | apply Kd.R_drew));exact HO106.out⟩, ⟨by repeat (first | (with_reducible first | exact HB.out | apply below_alloc | apply pw_below_drewN | apply below_drew1) | exact HB.out)⟩⟩
    ·rw [if_neg c10] at H
     exact absurd H (by simp)
   rw [if_neg c6] at H
   have c6b0 : (x7_1 == (a0.size : Int)) = false := beq_eq_false_iff_ne.mpr c6
   have c6b1 : (x7_1 != (a0.size : Int)) = true := bne_iff_ne.mpr c6
   by_cases c12 : 0 ≤ x7_1
   rotate_left
   ·rw [if_neg c12] at H
    exact absurd H (by simp)
   rw [if_pos c12] at H
   have c12b0 : decide (0 ≤ x7_1) = true := decide_eq_true c12
   clear c12
   by_cases c13 : x7_1 < (a0.size : Int)
   rotate_left
   ·rw [if_neg c13] at H
    exact absurd H (by simp)
   rw [if_pos c13] at H
   have c13b0 : decide (x7_1 < (a0.size : Int)) = true := decide_eq_true c13
   clear c13
   by_cases c15 : (bt a0 x7_1) = a1
   rotate_left
   ·rw [if_neg c15] at H
    have c15b0 : ((bt a0 x7_1) == a1) = false := beq_eq_false_iff_ne.mpr c15
    have c15b1 : ((bt a0 x7_1) != a1) = true := bne_iff_ne.mpr c15
    have H' := m0_ H
    clear H
    have p14 : 0 ≤ (x7_1 : Int) := of_decide_eq_true (by first | (with_reducible assumption) | assumption)
    have q14 : x7_1 < (a0.size : Int) := of_decide_eq_true (by first | (with_reducible assumption) | assumption)
    have hx14 := bt_at a0 x7_1
    replace p14 := eq_true p14
    replace q14 := eq_true q14
    go_wp2
    go_roundg k1
    case measure => have := HK1.out;omega
    case rel => exact ⟨(x5_1), (x6_1), (wrap64 (x7_1 + 1)), (by first | rfl | (simp;done) | (simp [*];done)), (by first | rfl | (simp;done) | (simp [*];done)), H', ⟨by have := HK1.out;omega⟩, ⟨by (with_reducible repeat (first | apply Kd.R_alloc | apply Kd.R_drewN | apply Kd.R_drew));exact HO_5.out⟩, ⟨by repeat (first | (with_reducible first | exact HB.out | apply below_alloc | apply pw_below_drewN | apply below_drew1) | exact HB.out)⟩⟩
   rw [if_pos c15] at H
   have c15b0 : ((bt a0 x7_1) == a1) = true := beq_iff_eq.mpr c15
   have c15b1 : ((bt a0 x7_1) != a1) = false := bne_eq_false_iff_eq.mpr c15
   clear c15
   by_cases c16 : 0 ≤ x6_1
   rotate_left
   ·rw [if_neg c16] at H
    exact absurd H (by simp)
   rw [if_pos c16] at H
   have c16b0 := eq_true c16
   have c16b1 : decide (0 ≤ x6_1) = true := decide_eq_true c16
   clear c16
   by_cases c17 : x6_1 ≤ x7_1
   rotate_left
   ·rw [if_neg c17] at H
    exact absurd H (by simp)
   rw [if_pos c17] at H
   have c17b0 := eq_true c17
   have c17b1 : decide (x6_1 ≤ x7_1) = true := decide_eq_true c17
   clear c17
   have c18b0 := eq_true (of_decide_eq_true (by first | (with_reducible assumption) | assumption) : x7_1 ≤ (a0.size : Int))
   by_cases c19 : x5_1.length < 8796093022208
   rotate_left
   ·rw [if_neg c19] at H
    exact absurd H (by simp)
   rw [if_pos c19] at H
   have LMc19 := m0_ c19
   clear c19
   obtain ⟨y107, hy107⟩ : ∃ y_ : List ByteArray, y_ = (x5_1 ++ [a0.extract (x6_1 : Int).toNat (x7_1 : Int).toNat]) := ⟨_, rfl⟩
   replace H : (spec_l14Cut.l0 k1 a0 a1 y107 (wrap64 (x7_1 + 1)) (wrap64 (x7_1 + 1))) = some r := by first | (rw [hy107];with_reducible exact H) | (have H2_ := (Option.bind_some _ _).symm.trans H;rw [hy107];with_reducible exact H2_) | (have H2_ := (Option.bind_some _ _).symm.trans H;with_reducible exact H2_) | with_reducible exact H | (rw [hy107];exact H) | exact H
   have Ny107 := m0_ hy107
   clear hy107
   have H' := m0_ H
   clear H
   have p14 : 0 ≤ (x7_1 : Int) := of_decide_eq_true (by first | (with_reducible assumption) | assumption)
   have q14 : x7_1 < (a0.size : Int) := of_decide_eq_true (by first | (with_reducible assumption) | assumption)
   have hx14 := bt_at a0 x7_1
   replace p14 := eq_true p14
   replace q14 := eq_true q14
   go_wp2_with (first | ((with_reducible refine gate_builtin (b := .append) (xs := #[.tmp 26, .tmp 31]) rfl ?_);at_builtin;refine Kd.R_append Kd.string (w0 := w) w.heap.size rfl (.tmp 26) (.tmp 31) 48 9 (.string ⟨#[]⟩) 16 rfl Tryd.underlying48 info9 rfl (by decide) (by omega) u5 x5_1 (a0.extract (x6_1 : Int).toNat (x7_1 : Int).toNat) [.string (a0.extract (x6_1 : Int).toNat (x7_1 : Int).toNat)] (fun _ => True) (fun _ => False) rfl rfl ?aP (fun _ hk => hk.elim) ?aF ?aO ?aB ?aS ?aL ?_;(case aP => exact rfl);(case aB => exact (by exact HB.out));(case aF => exact (fun _ _ => trivial));(case aO => exact (by exact HO_5.out));(case aS => exact (below_size (by exact HB.out)));(case aL => have := LMc19.out;omega);intro v108 w20 ho hb hg hat;rw [← Ny107.out] at ho;have n0_ := m0_ (hb);have n1_ := m0_ (ho);clear HB;clear HO_5;have HB := n0_;have HO109 := n1_;clear n0_ n1_;clear ho hb hg hat))
   go_roundg k1
   case measure => have := HK1.out;omega
   case rel => exact ⟨(y107), (wrap64 (x7_1 + 1)), (wrap64 (x7_1 + 1)), (by first | rfl | (simp;done) | (simp [*];done)), (by first | rfl | (simp;done) | (simp [*];done)), H', ⟨by have := HK1.out;omega⟩, ⟨by (with_reducible repeat (first | apply Kd.R_alloc | apply Kd.R_drewN | apply Kd.R_drew));exact HO109.out⟩, ⟨by repeat (first | (with_reducible first | exact HB.out | apply below_alloc | apply pw_below_drewN | apply below_drew1) | exact HB.out)⟩⟩

def spec_l14Find.l0 : Nat → ByteArray → Int → Int → Option (Int)
 | 0, _, _, _ => none
 | k + 1, x0, x1, x5 => if x5 < (x0.size : Int) then (if 0 ≤ x5 then (if (bt x0 x5) = x1 then (some x5) else (spec_l14Find.l0 k x0 x1 (wrap64 (x5 + 1)))) else (none)) else (some (-1))
def spec_l14Find.f (k : Nat) (a0 : ByteArray) (a1 : Int) : Option (Int) := spec_l14Find.l0 k a0 a1 0
set_option maxHeartbeats 8000000 in
set_option maxRecDepth 100000 in
theorem spec_l14Find.calls (k : Nat) (a0 : ByteArray) (a1 : Int) (r : Int) (w : World) (h : spec_l14Find.f k a0 a1 = some r) :
  Calls Tryd.prog 54 #[.string a0, .int .u8 a1] w fun e w' => e = .returned (.int .i64 r) ∧ Drawn0 w w' := by
 have H : (spec_l14Find.l0 k a0 a1 0) = some r := h
 clear h
 have H' := m0_ H
 clear H
 go_enter Tryd.func54, Tryd.ntmps54
 go_wp2
 go_loopg [5] k (fun kq v5 w' => ∃ (x5_1 : Int), v5 = .int .i64 x5_1 ∧ Aside0 (spec_l14Find.l0 kq a0 a1 x5_1 = some r) ∧ Aside0 (kq ≤ k) ∧ Drawn0 w w')
 case atStart => exact ⟨(0), (by first | rfl | (simp;done) | (simp [*];done)), H', ⟨Nat.le_refl _⟩, by repeat (first | exact Drawn0.refl _ | apply Drawn0.step)⟩
 case round =>
  clear H'
  try clear p2
  obtain ⟨x5_1, rfl, HA, HK1, ⟨m1, rfl⟩⟩ := hrel
  cases gk with
  | zero => exact absurd HA.out (by simp [spec_l14Find.l0])
  | succ k1 =>
   have H := HA.out
   clear HA
   simp only [spec_l14Find.l0] at H
   by_cases c3 : x5_1 < (a0.size : Int)
   rotate_left
   ·rw [if_neg c3] at H
    have c3b0 : decide (x5_1 < (a0.size : Int)) = false := decide_eq_false c3
    clear c3
    obtain rfl := Option.some.inj H
    go_wp2
    go_ret
    exact ⟨by first | rfl | (simp;done) | (simp [*];done), by repeat (first | exact Drawn0.refl _ | apply Drawn0.step)⟩
   rw [if_pos c3] at H
   have c3b0 : decide (x5_1 < (a0.size : Int)) = true := decide_eq_true c3
   clear c3
   by_cases c4 : 0 ≤ x5_1
   rotate_left
   ·rw [if_neg c4] at H
    exact absurd H (by simp)
   rw [if_pos c4] at H
   have c4b0 : decide (0 ≤ x5_1) = true := decide_eq_true c4
   clear c4
   by_cases c6 : (bt a0 x5_1) = a1
   ·rw [if_pos c6] at H
    have c6b0 : ((bt a0 x5_1) == a1) = true := beq_iff_eq.mpr c6
    have c6b1 : ((bt a0 x5_1) != a1) = false := bne_eq_false_iff_eq.mpr c6
    clear c6
    obtain rfl := Option.some.inj H
    have p5 : 0 ≤ (x5_1 : Int) := of_decide_eq_true (by first | (with_reducible assumption) | assumption)
    have q5 : x5_1 < (a0.size : Int) := of_decide_eq_true (by first | (with_reducible assumption) | assumption)
    have hx5 := bt_at a0 x5_1
    replace p5 := eq_true p5
    replace q5 := eq_true q5
    go_wp2
    go_ret
    exact ⟨by first | rfl | (simp;done) | (simp [*];done), by repeat (first | exact Drawn0.refl _ | apply Drawn0.step)⟩
   rw [if_neg c6] at H
   have c6b0 : ((bt a0 x5_1) == a1) = false := beq_eq_false_iff_ne.mpr c6
   have c6b1 : ((bt a0 x5_1) != a1) = true := bne_iff_ne.mpr c6
   have H' := m0_ H
   clear H
   have p5 : 0 ≤ (x5_1 : Int) := of_decide_eq_true (by first | (with_reducible assumption) | assumption)
   have q5 : x5_1 < (a0.size : Int) := of_decide_eq_true (by first | (with_reducible assumption) | assumption)
   have hx5 := bt_at a0 x5_1
   replace p5 := eq_true p5
   replace q5 := eq_true q5
   go_wp2
   go_roundg k1
   case measure => have := HK1.out;omega
   case rel => exact ⟨(wrap64 (x5_1 + 1)), (by first | rfl | (simp;done) | (simp [*];done)), H', ⟨by have := HK1.out;omega⟩, by repeat (first | exact Drawn0.refl _ | apply Drawn0.step)⟩

mutual
def spec_l14Num.j0 : Nat → ByteArray → Bool → Option (Int × Bool)
 | 0, _, _ => none
 | k + 1, x0, x4 => if x4 = true then (if 1 ≤ (x0.size : Int) then (spec_l14Num.j1 k (x0.extract 1 x0.size) x4) else (none)) else (spec_l14Num.j1 k x0 x4)
def spec_l14Num.j1 : Nat → ByteArray → Bool → Option (Int × Bool)
 | 0, _, _ => none
 | k + 1, x0, x4 => if (x0.size : Int) = 0 then (spec_l14Num.j2 k x0 x4 true) else (if (x0.size : Int) > 17 then (spec_l14Num.j2 k x0 x4 true) else (if 0 < (x0.size : Int) then (if (bt x0 0) = 48 then (if (x0.size : Int) > 1 then (spec_l14Num.j2 k x0 x4 true) else (spec_l14Num.j2 k x0 x4 x4)) else (spec_l14Num.j2 k x0 x4 false)) else (none)))
def spec_l14Num.j2 : Nat → ByteArray → Bool → Bool → Option (Int × Bool)
 | 0, _, _, _ => none
 | k + 1, x0, x4, x38 => if x38 = true then (some (0, false)) else (spec_l14Num.l0 k x0 x4 0 0)
def spec_l14Num.l0 : Nat → ByteArray → Bool → Int → Int → Option (Int × Bool)
 | 0, _, _, _, _ => none
 | k + 1, x0, x4, x5, x6 => if x6 < (x0.size : Int) then (if 0 ≤ x6 then (if (bt x0 x6) < 48 then (some (0, false)) else (if (bt x0 x6) > 57 then (some (0, false)) else (spec_l14Num.l0 k x0 x4 (wrap64 ((wrap64 (x5 * 10)) + (((bt x0 x6) - 48) % 256))) (wrap64 (x6 + 1))))) else (none)) else (if x4 = true then (some (wrap64 (-x5), true)) else (some (x5, true)))
end
def spec_l14Num.f (k : Nat) (a0 : ByteArray) : Option (Int × Bool) := if (a0.size : Int) > 0 then (if 0 < (a0.size : Int) then (spec_l14Num.j0 k a0 ((bt a0 0) == 45)) else (none)) else (spec_l14Num.j0 k a0 false)
set_option maxHeartbeats 8000000 in
set_option maxRecDepth 100000 in
theorem spec_l14Num.calls (k : Nat) (a0 : ByteArray) (r1 : Int) (r2 : Bool) (w : World) (h : spec_l14Num.f k a0 = some (r1, r2)) :
  Calls Tryd.prog 55 #[.string a0] w fun e w' => e = .returned (.tuple #[.int .i64 r1, .bool r2]) ∧ Drawn0 w w' := by
 have H : (if (a0.size : Int) > 0 then (if 0 < (a0.size : Int) then (spec_l14Num.j0 k a0 ((bt a0 0) == 45)) else (none)) else (spec_l14Num.j0 k a0 false)) = some (r1, r2) := h
 clear h
 have HC2 := m0_ H
 clear H
 go_enter Tryd.func55, Tryd.ntmps55
 go_upto_region 1 with (fail)
 go_cut [4] (fun v4 wc => ∃ (kq : Nat) (x4_1 : Bool), v4 = .bool x4_1 ∧ Aside0 (spec_l14Num.j0 kq a0 x4_1 = some (r1, r2)) ∧ Aside0 (kq ≤ k) ∧ Drawn0 w wc)
 case first =>
  have H := HC2.out
  clear HC2
  by_cases c3 : (a0.size : Int) > 0
  rotate_left
  ·rw [if_neg c3] at H
   have c3b0 : decide (0 < (a0.size : Int)) = false := decide_eq_false c3
   have c3b1 : decide (0 < a0.size) = false := decide_eq_false (by omega)
   clear c3
   (first | rw [c3b0] | (simp only [i64_w, i32_w];rw [c3b0]) | skip)
   have H' := m0_ H
   clear H
   go_wp2
   go_meet
   case rel => exact ⟨_, (false), (by first | rfl | (simp;done) | (simp [*];done)), H', ⟨by first | omega | exact Nat.le_refl _⟩, by repeat (first | exact Drawn0.refl _ | apply Drawn0.step)⟩
  rw [if_pos c3] at H
  have c3b0 : decide (0 < (a0.size : Int)) = true := decide_eq_true c3
  have c3b1 : decide (0 < a0.size) = true := decide_eq_true (by omega)
  clear c3
  (first | rw [c3b0] | (simp only [i64_w, i32_w];rw [c3b0]) | skip)
  by_cases c4 : 0 < (a0.size : Int)
  rotate_left
  ·rw [if_neg c4] at H
   exact absurd H (by simp)
  rw [if_pos c4] at H
  have c4b0 : decide (0 < (a0.size : Int)) = true := decide_eq_true c4
  have c4b1 : decide (0 < a0.size) = true := decide_eq_true (by omega)
  clear c4
  have H' := m0_ H
  clear H
  have p5 : 0 ≤ (0 : Int) := (by omega)
  have q5 : 0 < a0.size := (by have : (0 : Int) < (a0.size : Int) := of_decide_eq_true (by first | (with_reducible assumption) | assumption);omega)
  have hx5 : ∀ h : 0 < a0.size, ((a0[0]'h).toNat : Int) = bt a0 0 := bt_at a0 0
  clear p5
  have qi5 : (0 < (a0.size : Int)) = True := eq_true (of_decide_eq_true (by first | (with_reducible assumption) | assumption))
  replace q5 := eq_true q5
  go_wp2
  go_meet
  case rel => exact ⟨_, (((bt a0 0) == 45)), (by first | rfl | (simp;done) | (simp [*];done)), H', ⟨by first | omega | exact Nat.le_refl _⟩, by repeat (first | exact Drawn0.refl _ | apply Drawn0.step)⟩
 case rest =>
  clear HC2
  try clear p2
  try clear c3
  try clear c3b0
  try clear c3b1
  try clear c4
  try clear c4b0
  try clear c4b1
  try clear c5
  try clear p5
  try clear q5
  try clear hx5
  try clear qi5
  try clear p5
  try clear q5
  obtain ⟨kq, x4_1, rfl, HA, HJ1, ⟨mc1, rfl⟩⟩ := hcut
  cases kq with
  | zero => exact absurd HA.out (by simp [spec_l14Num.j0])
  | succ kj1 =>
   have H := HA.out
   clear HA
   simp only [spec_l14Num.j0] at H
   have HC6 := m0_ H
   clear H
   go_upto_if 15 with (fail)
   go_cut [0] (fun v0 wc => ∃ (kq : Nat) (x0_5 : ByteArray), v0 = .string x0_5 ∧ Aside0 (spec_l14Num.j1 kq x0_5 x4_1 = some (r1, r2)) ∧ Aside0 (kq ≤ kj1) ∧ Drawn0 w wc)
   case first =>
    have H := HC6.out
    clear HC6
    by_cases c7 : x4_1 = true
    rotate_left
    ·replace c7 := Bool.eq_false_iff.mpr c7
     subst c7
     have H1 : (spec_l14Num.j1 kj1 a0 false) = some (r1, r2) := by rw [if_neg (show ¬ (false = true) by decide)] at H;exact H
     clear H
     have H := H1
     clear H1
     have H' := m0_ H
     clear H
     go_wp2
     go_meet
     case rel => exact ⟨_, (a0), (by first | rfl | (simp;done) | (simp [*];done)), H', ⟨by have := HJ1.out;first | omega | exact Nat.le_refl _⟩, by repeat (first | exact Drawn0.refl _ | apply Drawn0.step)⟩
    subst c7
    have H1 : (if 1 ≤ (a0.size : Int) then (spec_l14Num.j1 kj1 (a0.extract 1 a0.size) true) else (none)) = some (r1, r2) := by rw [if_pos rfl] at H;exact H
    clear H
    have H := H1
    clear H1
    by_cases c8 : 1 ≤ (a0.size : Int)
    ·rw [if_pos c8] at H
     have c8b0 := eq_true c8
     have c8b1 : decide (1 ≤ (a0.size : Int)) = true := decide_eq_true c8
     clear c8
     have H' := m0_ H
     clear H
     go_wp2
     go_meet
     case rel => exact ⟨_, (a0.extract 1 a0.size), (by first | rfl | (simp;done) | (simp [*];done)), H', ⟨by have := HJ1.out;first | omega | exact Nat.le_refl _⟩, by repeat (first | exact Drawn0.refl _ | apply Drawn0.step)⟩
    ·rw [if_neg c8] at H
     exact absurd H (by simp)
   case rest =>
    clear HC6
    try clear c1
    try clear p2
    try clear c3
    try clear c3b0
    try clear c3b1
    try clear c4
    try clear c4b0
    try clear c4b1
    try clear c5
    try clear p5
    try clear q5
    try clear hx5
    try clear qi5
    try clear c7
    try clear c8
    try clear c8b0
    try clear c8b1
    try clear p2
    try clear p5
    try clear q5
    obtain ⟨kq, x0_5, rfl, HA, HJ5, ⟨mc5, rfl⟩⟩ := hcut
    cases kq with
    | zero => exact absurd HA.out (by simp [spec_l14Num.j1])
    | succ kj5 =>
     have H := HA.out
     clear HA
     simp only [spec_l14Num.j1] at H
     have HC9 := m0_ H
     clear H
     go_upto_region 4 with (fail)
     go_cut [38] (fun v38 wc => ∃ (kq : Nat) (x38_8 : Bool), v38 = .bool x38_8 ∧ Aside0 (spec_l14Num.j2 kq x0_5 x4_1 x38_8 = some (r1, r2)) ∧ Aside0 (kq ≤ kj5) ∧ Drawn0 w wc)
     case first =>
      have H := HC9.out
      clear HC9
      by_cases c10 : (x0_5.size : Int) = 0
      ·rw [if_pos c10] at H
       have c10b0 : ((x0_5.size : Int) == 0) = true := beq_iff_eq.mpr c10
       have c10b1 : ((x0_5.size : Int) != 0) = false := bne_eq_false_iff_eq.mpr c10
       clear c10
       (first | rw [c10b0] | (simp only [i64_w, i32_w];rw [c10b0]) | skip)
       have H' := m0_ H
       clear H
       go_wp2
       go_meet
       case rel => exact ⟨_, (true), (by first | rfl | (simp;done) | (simp [*];done)), H', ⟨by have := HJ1.out;have := HJ5.out;first | omega | exact Nat.le_refl _⟩, by repeat (first | exact Drawn0.refl _ | apply Drawn0.step)⟩
      rw [if_neg c10] at H
      have c10b0 : ((x0_5.size : Int) == 0) = false := beq_eq_false_iff_ne.mpr c10
      have c10b1 : ((x0_5.size : Int) != 0) = true := bne_iff_ne.mpr c10
      (first | rw [c10b0] | (simp only [i64_w, i32_w];rw [c10b0]) | skip)
      by_cases c11 : (x0_5.size : Int) > 17
      ·rw [if_pos c11] at H
       have c11b0 : decide (17 < (x0_5.size : Int)) = true := decide_eq_true c11
       have c11b1 : decide (17 < x0_5.size) = true := decide_eq_true (by omega)
       clear c11
       have H' := m0_ H
       clear H
       go_wp2
       go_meet
       case rel => exact ⟨_, (true), (by first | rfl | (simp;done) | (simp [*];done)), H', ⟨by have := HJ1.out;have := HJ5.out;first | omega | exact Nat.le_refl _⟩, by repeat (first | exact Drawn0.refl _ | apply Drawn0.step)⟩
      rw [if_neg c11] at H
      have c11b0 : decide (17 < (x0_5.size : Int)) = false := decide_eq_false c11
      have c11b1 : decide (17 < x0_5.size) = false := decide_eq_false (by omega)
      clear c11
      by_cases c12 : 0 < (x0_5.size : Int)
      rotate_left
      ·rw [if_neg c12] at H
       exact absurd H (by simp)
      rw [if_pos c12] at H
      have c12b0 : decide (0 < (x0_5.size : Int)) = true := decide_eq_true c12
      have c12b1 : decide (0 < x0_5.size) = true := decide_eq_true (by omega)
      clear c12
      by_cases c14 : (bt x0_5 0) = 48
      rotate_left
      ·rw [if_neg c14] at H
       have c14b0 : ((bt x0_5 0) == 48) = false := beq_eq_false_iff_ne.mpr c14
       have c14b1 : ((bt x0_5 0) != 48) = true := bne_iff_ne.mpr c14
       have H' := m0_ H
       clear H
       have p13 : 0 ≤ (0 : Int) := (by omega)
       have q13 : 0 < x0_5.size := (by have : (0 : Int) < (x0_5.size : Int) := of_decide_eq_true (by first | (with_reducible assumption) | assumption);omega)
       have hx13 : ∀ h : 0 < x0_5.size, ((x0_5[0]'h).toNat : Int) = bt x0_5 0 := bt_at x0_5 0
       clear p13
       have qi13 : (0 < (x0_5.size : Int)) = True := eq_true (of_decide_eq_true (by first | (with_reducible assumption) | assumption))
       replace q13 := eq_true q13
       go_wp2
       go_meet
       case rel => exact ⟨_, (false), (by first | rfl | (simp;done) | (simp [*];done)), H', ⟨by have := HJ1.out;have := HJ5.out;first | omega | exact Nat.le_refl _⟩, by repeat (first | exact Drawn0.refl _ | apply Drawn0.step)⟩
      rw [if_pos c14] at H
      have c14b0 : ((bt x0_5 0) == 48) = true := beq_iff_eq.mpr c14
      have c14b1 : ((bt x0_5 0) != 48) = false := bne_eq_false_iff_eq.mpr c14
      clear c14
      by_cases c15 : (x0_5.size : Int) > 1
      rotate_left
      ·rw [if_neg c15] at H
       have c15b0 : decide (1 < (x0_5.size : Int)) = false := decide_eq_false c15
       have c15b1 : decide (1 < x0_5.size) = false := decide_eq_false (by omega)
       clear c15
       have H' := m0_ H
       clear H
       have p13 : 0 ≤ (0 : Int) := (by omega)
       have q13 : 0 < x0_5.size := (by have : (0 : Int) < (x0_5.size : Int) := of_decide_eq_true (by first | (with_reducible assumption) | assumption);omega)
       have hx13 : ∀ h : 0 < x0_5.size, ((x0_5[0]'h).toNat : Int) = bt x0_5 0 := bt_at x0_5 0
       clear p13
       have qi13 : (0 < (x0_5.size : Int)) = True := eq_true (of_decide_eq_true (by first | (with_reducible assumption) | assumption))
       replace q13 := eq_true q13
       go_wp2
       go_meet
       case rel => exact ⟨_, (x4_1), (by first | rfl | (simp;done) | (simp [*];done)), H', ⟨by have := HJ1.out;have := HJ5.out;first | omega | exact Nat.le_refl _⟩, by repeat (first | exact Drawn0.refl _ | apply Drawn0.step)⟩
      rw [if_pos c15] at H
      have c15b0 : decide (1 < (x0_5.size : Int)) = true := decide_eq_true c15
      have c15b1 : decide (1 < x0_5.size) = true := decide_eq_true (by omega)
      clear c15
      have H' := m0_ H
      clear H
      have p13 : 0 ≤ (0 : Int) := (by omega)
      have q13 : 0 < x0_5.size := (by have : (0 : Int) < (x0_5.size : Int) := of_decide_eq_true (by first | (with_reducible assumption) | assumption);omega)
      have hx13 : ∀ h : 0 < x0_5.size, ((x0_5[0]'h).toNat : Int) = bt x0_5 0 := bt_at x0_5 0
      clear p13
      have qi13 : (0 < (x0_5.size : Int)) = True := eq_true (of_decide_eq_true (by first | (with_reducible assumption) | assumption))
      replace q13 := eq_true q13
      go_wp2
      go_meet
      case rel => exact ⟨_, (true), (by first | rfl | (simp;done) | (simp [*];done)), H', ⟨by have := HJ1.out;have := HJ5.out;first | omega | exact Nat.le_refl _⟩, by repeat (first | exact Drawn0.refl _ | apply Drawn0.step)⟩
     case rest =>
      clear HC9
      try clear c1
      try clear p1
      try clear q1
      try clear hx1
      try clear qi1
      try clear p2
      try clear c3
      try clear c3b0
      try clear c3b1
      try clear c4
      try clear c4b0
      try clear c4b1
      try clear c5
      try clear p5
      try clear q5
      try clear hx5
      try clear qi5
      try clear c7
      try clear c8
      try clear c8b0
      try clear c8b1
      try clear c10
      try clear c10b0
      try clear c10b1
      try clear c11
      try clear c11b0
      try clear c11b1
      try clear c12
      try clear c12b0
      try clear c12b1
      try clear p13
      try clear q13
      try clear hx13
      try clear qi13
      try clear c14
      try clear c14b0
      try clear c14b1
      try clear c15
      try clear c15b0
      try clear c15b1
      try clear p13
      try clear p2
      try clear p5
      try clear q13
      try clear q5
      obtain ⟨kq, x38_8, rfl, HA, HJ8, ⟨mc8, rfl⟩⟩ := hcut
      cases kq with
      | zero => exact absurd HA.out (by simp [spec_l14Num.j2])
      | succ kj8 =>
       have H := HA.out
       clear HA
       simp only [spec_l14Num.j2] at H
       by_cases c16 : x38_8 = true
       ·subst c16
        have H1 : (some (0, false)) = some (r1, r2) := by rw [if_pos rfl] at H;exact H
        clear H
        have H := H1
        clear H1
        simp only [Option.some.injEq, Prod.mk.injEq] at H
        obtain ⟨rfl, rfl⟩ := H
        go_wp2
        go_ret2
        exact ⟨by first | rfl | (simp;done) | (simp [*];done), by repeat (first | exact Drawn0.refl _ | apply Drawn0.step)⟩
       replace c16 := Bool.eq_false_iff.mpr c16
       subst c16
       have H1 : (spec_l14Num.l0 kj8 x0_5 x4_1 0 0) = some (r1, r2) := by rw [if_neg (show ¬ (false = true) by decide)] at H;exact H
       clear H
       have H := H1
       clear H1
       have H' := m0_ H
       clear H
       go_wp2
       go_loopg [5, 6] kj8 (fun kq v5 v6 w' => ∃ (x5_4 : Int) (x6_4 : Int), v5 = .int .i64 x5_4 ∧ v6 = .int .i64 x6_4 ∧ Aside0 (spec_l14Num.l0 kq x0_5 x4_1 x5_4 x6_4 = some (r1, r2)) ∧ Aside0 (kq ≤ kj8) ∧ Drawn0 w w')
       case atStart => exact ⟨(0), (0), (by first | rfl | (simp;done) | (simp [*];done)), (by first | rfl | (simp;done) | (simp [*];done)), H', ⟨Nat.le_refl _⟩, by repeat (first | exact Drawn0.refl _ | apply Drawn0.step)⟩
       case round =>
        clear H'
        try clear c1
        try clear p1
        try clear q1
        try clear hx1
        try clear qi1
        try clear p2
        try clear c3
        try clear c3b0
        try clear c3b1
        try clear c4
        try clear c4b0
        try clear c4b1
        try clear c5
        try clear p5
        try clear q5
        try clear hx5
        try clear qi5
        try clear c7
        try clear c8
        try clear c8b0
        try clear c8b1
        try clear c10
        try clear c10b0
        try clear c10b1
        try clear c11
        try clear c11b0
        try clear c11b1
        try clear c12
        try clear c12b0
        try clear c12b1
        try clear p13
        try clear q13
        try clear hx13
        try clear qi13
        try clear c14
        try clear c14b0
        try clear c14b1
        try clear c15
        try clear c15b0
        try clear c15b1
        try clear c16
        try clear p1
        try clear p13
        try clear p2
        try clear p5
        try clear q1
        try clear q13
        try clear q5
        obtain ⟨x5_4, x6_4, rfl, rfl, HA, HK4, ⟨m4, rfl⟩⟩ := hrel
        cases gk with
        | zero => exact absurd HA.out (by simp [spec_l14Num.l0])
        | succ k4 =>
         have H := HA.out
         clear HA
         simp only [spec_l14Num.l0] at H
         by_cases c17 : x6_4 < (x0_5.size : Int)
         rotate_left
         ·rw [if_neg c17] at H
          have c17b0 : decide (x6_4 < (x0_5.size : Int)) = false := decide_eq_false c17
          clear c17
          by_cases c24 : x4_1 = true
          ·subst c24
           have H1 : (some (wrap64 (-x5_4), true)) = some (r1, r2) := by rw [if_pos rfl] at H;exact H
           clear H
           have H := H1
           clear H1
           simp only [Option.some.injEq, Prod.mk.injEq] at H
           obtain ⟨rfl, rfl⟩ := H
           go_wp2
           go_ret2
           exact ⟨by first | rfl | (simp;done) | (simp [*];done), by repeat (first | exact Drawn0.refl _ | apply Drawn0.step)⟩
          ·replace c24 := Bool.eq_false_iff.mpr c24
           subst c24
           have H1 : (some (x5_4, true)) = some (r1, r2) := by rw [if_neg (show ¬ (false = true) by decide)] at H;exact H
           clear H
           have H := H1
           clear H1
           simp only [Option.some.injEq, Prod.mk.injEq] at H
           obtain ⟨rfl, rfl⟩ := H
           go_wp2
           go_ret2
           exact ⟨by first | rfl | (simp;done) | (simp [*];done), by repeat (first | exact Drawn0.refl _ | apply Drawn0.step)⟩
         rw [if_pos c17] at H
         have c17b0 : decide (x6_4 < (x0_5.size : Int)) = true := decide_eq_true c17
         clear c17
         by_cases c18 : 0 ≤ x6_4
         rotate_left
         ·rw [if_neg c18] at H
          exact absurd H (by simp)
         rw [if_pos c18] at H
         have c18b0 : decide (0 ≤ x6_4) = true := decide_eq_true c18
         clear c18
         by_cases c20 : (bt x0_5 x6_4) < 48
         ·rw [if_pos c20] at H
          have c20b0 : decide ((bt x0_5 x6_4) < 48) = true := decide_eq_true c20
          clear c20
          simp only [Option.some.injEq, Prod.mk.injEq] at H
          obtain ⟨rfl, rfl⟩ := H
          have p19 : 0 ≤ (x6_4 : Int) := of_decide_eq_true (by first | (with_reducible assumption) | assumption)
          have q19 : x6_4 < (x0_5.size : Int) := of_decide_eq_true (by first | (with_reducible assumption) | assumption)
          have hx19 := bt_at x0_5 x6_4
          replace p19 := eq_true p19
          replace q19 := eq_true q19
          go_wp2
          go_ret2
          exact ⟨by first | rfl | (simp;done) | (simp [*];done), by repeat (first | exact Drawn0.refl _ | apply Drawn0.step)⟩
         rw [if_neg c20] at H
         have c20b0 : decide ((bt x0_5 x6_4) < 48) = false := decide_eq_false c20
         clear c20
         by_cases c22 : (bt x0_5 x6_4) > 57
         ·rw [if_pos c22] at H
          have c22b0 : decide (57 < (bt x0_5 x6_4)) = true := decide_eq_true c22
          clear c22
          simp only [Option.some.injEq, Prod.mk.injEq] at H
          obtain ⟨rfl, rfl⟩ := H
          have p19 : 0 ≤ (x6_4 : Int) := of_decide_eq_true (by first | (with_reducible assumption) | assumption)
          have q19 : x6_4 < (x0_5.size : Int) := of_decide_eq_true (by first | (with_reducible assumption) | assumption)
          have hx19 := bt_at x0_5 x6_4
          replace p19 := eq_true p19
          replace q19 := eq_true q19
          have p21 : 0 ≤ (x6_4 : Int) := of_decide_eq_true (by first | (with_reducible assumption) | assumption)
          have q21 : x6_4 < (x0_5.size : Int) := of_decide_eq_true (by first | (with_reducible assumption) | assumption)
          have hx21 := bt_at x0_5 x6_4
          replace p21 := eq_true p21
          replace q21 := eq_true q21
          go_wp2
          go_ret2
          exact ⟨by first | rfl | (simp;done) | (simp [*];done), by repeat (first | exact Drawn0.refl _ | apply Drawn0.step)⟩
         rw [if_neg c22] at H
         have c22b0 : decide (57 < (bt x0_5 x6_4)) = false := decide_eq_false c22
         clear c22
         have H' := m0_ H
         clear H
         have p19 : 0 ≤ (x6_4 : Int) := of_decide_eq_true (by first | (with_reducible assumption) | assumption)
         have q19 : x6_4 < (x0_5.size : Int) := of_decide_eq_true (by first | (with_reducible assumption) | assumption)
         have hx19 := bt_at x0_5 x6_4
         replace p19 := eq_true p19
         replace q19 := eq_true q19
         have p21 : 0 ≤ (x6_4 : Int) := of_decide_eq_true (by first | (with_reducible assumption) | assumption)
         have q21 : x6_4 < (x0_5.size : Int) := of_decide_eq_true (by first | (with_reducible assumption) | assumption)
         have hx21 := bt_at x0_5 x6_4
         replace p21 := eq_true p21
         replace q21 := eq_true q21
         have p23 : 0 ≤ (x6_4 : Int) := of_decide_eq_true (by first | (with_reducible assumption) | assumption)
         have q23 : x6_4 < (x0_5.size : Int) := of_decide_eq_true (by first | (with_reducible assumption) | assumption)
         have hx23 := bt_at x0_5 x6_4
         replace p23 := eq_true p23
         replace q23 := eq_true q23
         go_wp2
         go_roundg k4
         case measure => have := HJ1.out;have := HJ5.out;have := HJ8.out;have := HK4.out;omega
         case rel => exact ⟨(wrap64 ((wrap64 (x5_4 * 10)) + (((bt x0_5 x6_4) - 48) % 256))), (wrap64 (x6_4 + 1)), (by first | rfl | (simp;done) | (simp [*];done)), (by first | rfl | (simp;done) | (simp [*];done)), H', ⟨by have := HJ1.out;have := HJ5.out;have := HJ8.out;have := HK4.out;omega⟩, by repeat (first | exact Drawn0.refl _ | apply Drawn0.step)⟩

end Go.Proofs.YtiebpoikhijbgaaDoor.M
namespace Go.Proofs.YtiebpoikhijbgaaDoor.M
set_option linter.unusedVariables false
set_option linter.unusedSimpArgs false
open Go Go.RowKit Go.Proofs.YtiebpoikhijbgaaDoorW.PrintWords Go.Proofs.YtiebpoikhijbgaaDoorW.PrintLast Go.Proofs.YtiebpoikhijbgaaDoorW.PrintMore

theorem keep_setRow {w : World} {g : Nat} (cs : Array Value) : KeepBut w (w.setRow g cs) g none := ⟨by simp [World.setRow], fun k _ hk _ => setRow_other w g k cs hk⟩
theorem store_blk {P : Program} {ops : Array Oper} {rest : List Oper} {o : Oper} {a : Act} {Q : Exit → Act → World → Prop} {W w0 : World} {base : Nat} (hgd : o.guard = none) (hN : o.dst = none) {t e : TypeId} {p : Tmp} {v : Operand} (ho : o.op = .store t (.tmp p) v) {g off : Nat} {cur cur' : Array Value} {u : Value} {seg : List Value}
    (hp : a.eval (.tmp p) = .pointer (some ⟨g, off, none⟩)) (hx : a.eval v = u) (hg : W.heap[g]? = some (.cells cur e (0, 0))) (hu : u.cells.toList = seg) (ht : (P.info? t).map (·.size) = some seg.length) (h1 : ∀ q ∈ seg, q.oneCell' = true) (hfit : off + seg.length ≤ cur.size) (hcur : (cur.toList.take off ++ seg ++ cur.toList.drop (off + seg.length)).toArray = cur')
    (hB : Below base w0 W) (hbg : base ≤ g)
    (h : ∀ w', w'.heap[g]? = some (.cells cur' e (0, 0)) → KeepBut W w' g none → Below base w0 w' → wpList P ops Q rest a w') : wpList P ops Q (o :: rest) a W := by
  obtain ⟨i, hi, hsz⟩ := Option.map_eq_some_iff.1 ht
  have hc : u.cells.size = i.size := by rw [hsz, ← hu, Array.length_toList]
  have hst := run_storeCells_at P g off e seg 0 cur W hg (by simpa using hfit) h1
  refine wpList_plain hgd fun K hK => ?_
  have hrun : (execOp a.eval o).run P W = .ok .skip (W.setRow g (cur.toList.take off ++ seg ++ cur.toList.drop (off + seg.length)).toArray) := by
    rw [Nat.add_zero] at hst
    simp [execOp, ho, hp, hx, Instr.storeAt, Instr.sureAddr, storeVar, sizeOf, typeInfo, hi, hc, hu, hst, Result.andThen]
  unfold Oper.wp
  rw [hrun]
  show K (a.put o.dst undef) _
  rw [hN]
  refine hK _ _ (h _ ?_ (keep_setRow _) (below_setRow hB hbg _))
  rw [setRow_heap W g cur _ e _ hg, hcur]
theorem blk_keep {w w1 : World} {g g' : Nat} {o : Obj} (h : w.heap[g']? = some o) (hk : KeepBut w w1 g none) (hne : g' ≠ g) : w1.heap[g']? = some o := (hk.2 g' (blk_lt h) hne (by simp)).trans h
end Go.Proofs.YtiebpoikhijbgaaDoor.M
namespace Go.Proofs.YtiebpoikhijbgaaDoor.M
open Go.RowKit Go.Proofs.YtiebpoikhijbgaaDoorW.PrintWords Go.Proofs.YtiebpoikhijbgaaDoorW.PrintLast Go.Proofs.YtiebpoikhijbgaaDoorW.PrintMore
attribute [local go_sem] max2_int min2_int max_two min_two max_three min_three max_four min_four
set_option linter.unusedVariables false
set_option linter.unusedSimpArgs false

def spec_l1One.tail (k : Nat) (s : ByteArray) (a v : Int) (ok : Bool) : Option (Int × Int × Int × Bool) := if 1 ≤ s.size then (spec_l14Num.f k (s.extract 1 s.size)).bind fun t => some (a, t.1, v, ok && t.2) else none
def spec_l1One.f (k : Nat) (a0 : ByteArray) : Option (Int × Int × Int × Bool) := if a0.size < 2 ∨ bt a0 0 < 97 ∨ bt a0 0 > 101 then some (0, 0, 0, false) else (spec_l14Find.f k a0 61).bind fun p => if p < 0 then spec_l1One.tail k a0 (bt a0 0 - 97) 0 true else if 0 ≤ wrap64 (p + 1) ∧ wrap64 (p + 1) ≤ (a0.size : Int) then (spec_l14Num.f k (a0.extract (wrap64 (p + 1)).toNat a0.size)).bind fun t => if p ≤ (a0.size : Int) then spec_l1One.tail k (a0.extract 0 p.toNat) (bt a0 0 - 97) t.1 (t.2 && t.1 != 0) else none else none
set_option maxHeartbeats 4000000 in
set_option maxRecDepth 100000 in
theorem spec_l1One.calls (k : Nat) (a0 : ByteArray) (r1 : Int) (r2 : Int) (r3 : Int) (r4 : Bool) (w : World) (h : spec_l1One.f k a0 = some (r1, r2, r3, r4)) :
  Calls Tryd.prog 38 #[.string a0] w fun e w' => e = .returned (.tuple #[.agg #[.int .i64 r1, .int .i64 r2, .int .i64 r3], .bool r4]) ∧ Below w.heap.size w w' := by
 unfold spec_l1One.f at h
 have HH := m0_ h
 have HB := m0_ (Below.refl w.heap.size w)
 clear h
 go_enter Tryd.func38, Tryd.ntmps38
 go_upto_region 2 with (first | ((with_reducible refine gate_dst (N := 2) rfl ?_);refine box_event ?hg (N := 2) ?hd (cs := #[.int .i64 0, .int .i64 0, .int .i64 0]) (t := 35) ?hr ?_;(case hd => rfl);(case hg => rfl);(case hr => first | (go_simp;done) | (go_simp;rfl));intro gb2 hg wb2 hbox hb;have BK2 := m0_ (hbox);have GE2 := m0_ ((by rw [hg];exact below_size HB.out : w.heap.size ≤ gb2));replace HB := m0_ (below_step HB.out hb);clear hb hbox hg) | ((with_reducible refine gate_dst (N := 4) rfl ?_);refine box_event ?hg (N := 4) ?hd (cs := #[.int .i64 0, .int .i64 0, .int .i64 0]) (t := 35) ?hr ?_;(case hd => rfl);(case hg => rfl);(case hr => first | (go_simp;done) | (go_simp;rfl));intro gb4 hg wb4 hbox hb;have BK4 := m0_ (hbox);have GE4 := m0_ ((by rw [hg];exact below_size HB.out : w.heap.size ≤ gb4));replace HB := m0_ (below_step HB.out hb);have NB2_4 := m0_ ((by rw [hg];exact Nat.ne_of_lt (blk_lt BK2.out) : gb2 ≠ gb4));have NB4_2 := m0_ ((by rw [hg];exact Nat.ne_of_gt (blk_lt BK2.out) : gb4 ≠ gb2));replace BK2 := m0_ (blk_below BK2.out hb);clear hb hbox hg) | ((with_reducible refine gate_store (t := 35) (p := 4) (v := .tmp 11) rfl ?_);refine store_blk (w0 := w) (base := w.heap.size) (e := 35) (g := gb4) (off := 0) (cur := #[.int .i64 0, .int .i64 0, .int .i64 0]) (cur' := #[.int .i64 0, .int .i64 0, .int .i64 0]) (u := .agg #[.int .i64 0, .int .i64 0, .int .i64 0]) (seg := [.int .i64 0, .int .i64 0, .int .i64 0]) rfl rfl rfl rfl rfl BK4.out rfl ?ht ?h1 (by simp) rfl HB.out GE4.out ?_;(case ht => kernel_rfl);(case h1 => intro q hq;simp only [List.mem_cons, List.not_mem_nil, or_false] at hq;first | (rcases hq with rfl | rfl | rfl <;> rfl) | (rcases hq with rfl | rfl <;> rfl) | (subst hq;rfl));intro ws_ hs_ hk_ hB_;replace BK4 := m0_ (hs_);replace HB := m0_ (hB_);replace BK2 := m0_ (blk_keep BK2.out hk_ NB2_4.out);clear hs_ hk_ hB_))
 by_cases hbad : a0.size < 2 ∨ bt a0 0 < 97 ∨ bt a0 0 > 101
 ·have HBAD := m0_ (by have := HH.out;rw [if_pos hbad] at this;exact this)
  clear HH
  by_cases c1 : a0.size < 2
  ·have c1b : decide ((a0.size : Int) < 2) = true := decide_eq_true (by omega)
   have c1c : decide (a0.size < 2) = true := decide_eq_true c1
   have e_ := NB2_4.out
   have e2_ := NB4_2.out
   have hz0 := (blk_cell BK4.out 0).trans (show _ = some (Value.int .i64 0) from rfl);have hz1 := (blk_cell BK4.out 1).trans (show _ = some (Value.int .i64 0) from rfl);have hz2 := (blk_cell BK4.out 2).trans (show _ = some (Value.int .i64 0) from rfl)
   go_wp2_with (first | ((with_reducible refine gate_store (t := 35) (p := 2) (v := .tmp 25) rfl ?_);refine store_blk (w0 := w) (base := w.heap.size) (e := 35) (g := gb2) (off := 0) (cur := #[.int .i64 0, .int .i64 0, .int .i64 0]) (cur' := #[.int .i64 0, .int .i64 0, .int .i64 0]) (u := .agg #[.int .i64 0, .int .i64 0, .int .i64 0]) (seg := [.int .i64 0, .int .i64 0, .int .i64 0]) rfl rfl rfl rfl rfl BK2.out rfl ?ht ?h1 (by simp) rfl HB.out GE2.out ?_;(case ht => kernel_rfl);(case h1 => intro q hq;simp only [List.mem_cons, List.not_mem_nil, or_false] at hq;first | (rcases hq with rfl | rfl | rfl <;> rfl) | (rcases hq with rfl | rfl <;> rfl) | (subst hq;rfl));intro ws_ hs_ hk_ hB_;replace BK2 := m0_ (hs_);replace HB := m0_ (hB_);replace BK4 := m0_ (blk_keep BK4.out hk_ NB4_2.out);clear hs_ hk_ hB_))
   refine bodyPost_ret (results_ct rfl _ _ gb2 35 #[.int .i64 0, .int .i64 0, .int .i64 0] (0, 0) _ rfl BK2.out Tryd.underlying35 rfl (by kernel_rfl)) rfl ?_
   obtain ⟨rfl, rfl, rfl, rfl⟩ : (0 : Int) = r1 ∧ (0 : Int) = r2 ∧ (0 : Int) = r3 ∧ false = r4 := by simpa using HBAD.out
   exact ⟨rfl, HB.out⟩
  have c1b : decide ((a0.size : Int) < 2) = false := decide_eq_false (by omega)
  have c1c : decide (a0.size < 2) = false := decide_eq_false c1
  have q9_ : (0 < a0.size) = True := eq_true (by omega)
  have qi_ : (0 < (a0.size : Int)) = True := eq_true (by omega)
  have hx_ : ∀ h : 0 < a0.size, ((a0[0]'h).toNat : Int) = bt a0 0 := bt_at a0 0
  have hz0 := (blk_cell BK4.out 0).trans (show _ = some (Value.int .i64 0) from rfl);have hz1 := (blk_cell BK4.out 1).trans (show _ = some (Value.int .i64 0) from rfl);have hz2 := (blk_cell BK4.out 2).trans (show _ = some (Value.int .i64 0) from rfl)
  by_cases c2 : bt a0 0 < 97
  ·have c2b : decide (bt a0 0 < 97) = true := decide_eq_true c2
   go_wp2_with (first | ((with_reducible refine gate_store (t := 35) (p := 2) (v := .tmp 25) rfl ?_);refine store_blk (w0 := w) (base := w.heap.size) (e := 35) (g := gb2) (off := 0) (cur := #[.int .i64 0, .int .i64 0, .int .i64 0]) (cur' := #[.int .i64 0, .int .i64 0, .int .i64 0]) (u := .agg #[.int .i64 0, .int .i64 0, .int .i64 0]) (seg := [.int .i64 0, .int .i64 0, .int .i64 0]) rfl rfl rfl rfl rfl BK2.out rfl ?ht ?h1 (by simp) rfl HB.out GE2.out ?_;(case ht => kernel_rfl);(case h1 => intro q hq;simp only [List.mem_cons, List.not_mem_nil, or_false] at hq;first | (rcases hq with rfl | rfl | rfl <;> rfl) | (rcases hq with rfl | rfl <;> rfl) | (subst hq;rfl));intro ws_ hs_ hk_ hB_;replace BK2 := m0_ (hs_);replace HB := m0_ (hB_);replace BK4 := m0_ (blk_keep BK4.out hk_ NB4_2.out);clear hs_ hk_ hB_))
   refine bodyPost_ret (results_ct rfl _ _ gb2 35 #[.int .i64 0, .int .i64 0, .int .i64 0] (0, 0) _ rfl BK2.out Tryd.underlying35 rfl (by kernel_rfl)) rfl ?_
   obtain ⟨rfl, rfl, rfl, rfl⟩ : (0 : Int) = r1 ∧ (0 : Int) = r2 ∧ (0 : Int) = r3 ∧ false = r4 := by simpa using HBAD.out
   exact ⟨rfl, HB.out⟩
  have c2b : decide (bt a0 0 < 97) = false := decide_eq_false c2
  have c3b : decide (bt a0 0 > 101) = true := decide_eq_true (by omega)
  go_wp2_with (first | ((with_reducible refine gate_store (t := 35) (p := 2) (v := .tmp 25) rfl ?_);refine store_blk (w0 := w) (base := w.heap.size) (e := 35) (g := gb2) (off := 0) (cur := #[.int .i64 0, .int .i64 0, .int .i64 0]) (cur' := #[.int .i64 0, .int .i64 0, .int .i64 0]) (u := .agg #[.int .i64 0, .int .i64 0, .int .i64 0]) (seg := [.int .i64 0, .int .i64 0, .int .i64 0]) rfl rfl rfl rfl rfl BK2.out rfl ?ht ?h1 (by simp) rfl HB.out GE2.out ?_;(case ht => kernel_rfl);(case h1 => intro q hq;simp only [List.mem_cons, List.not_mem_nil, or_false] at hq;first | (rcases hq with rfl | rfl | rfl <;> rfl) | (rcases hq with rfl | rfl <;> rfl) | (subst hq;rfl));intro ws_ hs_ hk_ hB_;replace BK2 := m0_ (hs_);replace HB := m0_ (hB_);replace BK4 := m0_ (blk_keep BK4.out hk_ NB4_2.out);clear hs_ hk_ hB_))
  refine bodyPost_ret (results_ct rfl _ _ gb2 35 #[.int .i64 0, .int .i64 0, .int .i64 0] (0, 0) _ rfl BK2.out Tryd.underlying35 rfl (by kernel_rfl)) rfl ?_
  obtain ⟨rfl, rfl, rfl, rfl⟩ : (0 : Int) = r1 ∧ (0 : Int) = r2 ∧ (0 : Int) = r3 ∧ false = r4 := by simpa using HBAD.out
  exact ⟨rfl, HB.out⟩
 have hcc : ¬ (a0.size < 2) ∧ ¬ (bt a0 0 < 97) ∧ ¬ (bt a0 0 > 101) := by omega
 obtain ⟨c1, c2, c3⟩ := hcc
 have h_ := HH.out
 rw [if_neg hbad] at h_
 obtain ⟨p, hp, h⟩ := Option.bind_eq_some_iff.1 h_
 have HP := m0_ hp
 clear HH h_ hp
 have HH := m0_ h
 clear h
 have c1b : decide ((a0.size : Int) < 2) = false := decide_eq_false (by omega)
 have c1c : decide (a0.size < 2) = false := decide_eq_false c1
 have c2b : decide (bt a0 0 < 97) = false := decide_eq_false c2
 have c3b : decide (bt a0 0 > 101) = false := decide_eq_false c3
 have q9_ : (0 < a0.size) = True := eq_true (by omega)
 have qi_ : (0 < (a0.size : Int)) = True := eq_true (by omega)
 have hx_ : ∀ h : 0 < a0.size, ((a0[0]'h).toNat : Int) = bt a0 0 := bt_at a0 0
 go_wp2_with (first | ((with_reducible refine gate_store (t := 3) (p := 30) (v := .tmp 29) rfl ?_);refine store_blk (w0 := w) (base := w.heap.size) (e := 35) (g := gb4) (off := 0) (cur := #[.int .i64 0, .int .i64 0, .int .i64 0]) (cur' := #[.int .i64 (bt a0 0 - 97), .int .i64 0, .int .i64 0]) (u := .int .i64 (bt a0 0 - 97)) (seg := [.int .i64 (bt a0 0 - 97)]) rfl rfl rfl rfl rfl BK4.out rfl ?ht ?h1 (by simp) rfl HB.out GE4.out ?_;(case ht => kernel_rfl);(case h1 => intro q hq;simp only [List.mem_cons, List.not_mem_nil, or_false] at hq;first | (rcases hq with rfl | rfl | rfl <;> rfl) | (rcases hq with rfl | rfl <;> rfl) | (subst hq;rfl));intro ws_ hs_ hk_ hB_;replace BK4 := m0_ (hs_);replace HB := m0_ (hB_);replace BK2 := m0_ (blk_keep BK2.out hk_ NB2_4.out);clear hs_ hk_ hB_) | (go_at_call 54;fail))
 refine (spec_l14Find.calls k a0 61 p _ HP.out).mono ?_
 rintro e w' ⟨rfl, hd_⟩
 obtain ⟨nd, hd⟩ := hd_
 have n0_ := m0_ (hd ▸ blk_drewN BK2.out nd)
 have n1_ := m0_ (hd ▸ blk_drewN BK4.out nd)
 have n2_ := m0_ (hd ▸ pw_below_drewN HB.out nd)
 clear BK2 BK4 HB hd
 have BK2 := n0_
 have BK4 := n1_
 have HB := n2_
 clear n0_ n1_ n2_
 go_upto_if 34 with (fail)
 go_cut [0, 6] (fun v0 v6 wc => ∃ (s : ByteArray) (ok : Bool) (v : Int), v0 = .string s ∧ v6 = .bool ok ∧ Aside0 (spec_l1One.tail k s (bt a0 0 - 97) v ok = some (r1, r2, r3, r4)) ∧ Aside0 (wc.heap[gb2]? = some (.cells #[.int .i64 0, .int .i64 0, .int .i64 0] 35 (0, 0))) ∧ Aside0 (wc.heap[gb4]? = some (.cells #[.int .i64 (bt a0 0 - 97), .int .i64 0, .int .i64 v] 35 (0, 0))) ∧ Aside0 (Below w.heap.size w wc))
 case first =>
  have h_ := HH.out
  clear HH
  by_cases cp : p < 0
  ·rw [if_pos cp] at h_
   have HX := m0_ h_
   have cpb : decide (p ≥ 0) = false := decide_eq_false (by omega)
   clear h_
   go_wp2
   go_meet
   case rel => exact ⟨_, _, _, rfl, rfl, HX, BK2, BK4, HB⟩
  rw [if_neg cp] at h_
  by_cases cw : 0 ≤ wrap64 (p + 1) ∧ wrap64 (p + 1) ≤ (a0.size : Int)
  case neg => rw [if_neg cw] at h_;cases h_
  rw [if_pos cw] at h_
  obtain ⟨⟨t1, t2⟩, ht, h⟩ := Option.bind_eq_some_iff.1 h_
  by_cases cq : p ≤ (a0.size : Int)
  case neg => rw [if_neg cq] at h;cases h
  rw [if_pos cq] at h
  have HT := m0_ ht
  have HX := m0_ h
  clear h_ ht h
  have cpb : decide (p ≥ 0) = true := decide_eq_true (by omega)
  have k1 : (0 ≤ wrap64 (p + 1)) = True := eq_true cw.1
  have k2 : (wrap64 (p + 1) ≤ (a0.size : Int)) = True := eq_true cw.2
  have k2n : ((wrap64 (p + 1)).toNat ≤ a0.size) = True := eq_true (by omega)
  have k3 : (0 ≤ p) = True := eq_true (by omega)
  have k4 : (p ≤ (a0.size : Int)) = True := eq_true cq
  have k4n : (p.toNat ≤ a0.size) = True := eq_true (by omega)
  clear cw cq
  go_wp2_with (first | (go_at_call 55;fail))
  refine (spec_l14Num.calls k (a0.extract (wrap64 (p + 1)).toNat a0.size) t1 t2 _ HT.out).mono ?_
  rintro e w' ⟨rfl, hd_⟩
  obtain ⟨nd, hd⟩ := hd_
  have n0_ := m0_ (hd ▸ blk_drewN BK2.out nd)
  have n1_ := m0_ (hd ▸ blk_drewN BK4.out nd)
  have n2_ := m0_ (hd ▸ pw_below_drewN HB.out nd)
  clear BK2 BK4 HB hd
  have BK2 := n0_
  have BK4 := n1_
  have HB := n2_
  clear n0_ n1_ n2_
  cases t2 with
  | false =>
   go_wp2_with (first | ((with_reducible refine gate_store (t := 3) (p := 44) (v := .tmp 43) rfl ?_);refine store_blk (w0 := w) (base := w.heap.size) (e := 35) (g := gb4) (off := 2) (cur := #[.int .i64 (bt a0 0 - 97), .int .i64 0, .int .i64 0]) (cur' := #[.int .i64 (bt a0 0 - 97), .int .i64 0, .int .i64 t1]) (u := .int .i64 t1) (seg := [.int .i64 t1]) rfl rfl rfl rfl rfl BK4.out rfl ?ht ?h1 (by simp) rfl HB.out GE4.out ?_;(case ht => kernel_rfl);(case h1 => intro q hq;simp only [List.mem_cons, List.not_mem_nil, or_false] at hq;first | (rcases hq with rfl | rfl | rfl <;> rfl) | (rcases hq with rfl | rfl <;> rfl) | (subst hq;rfl));intro ws_ hs_ hk_ hB_;replace BK4 := m0_ (hs_);replace HB := m0_ (hB_);replace BK2 := m0_ (blk_keep BK2.out hk_ NB2_4.out);clear hs_ hk_ hB_))
   go_meet
   case rel => exact ⟨_, _, _, rfl, rfl, HX, BK2, BK4, HB⟩
  | true =>
   go_wp2_with (first | ((with_reducible refine gate_store (t := 3) (p := 44) (v := .tmp 43) rfl ?_);refine store_blk (w0 := w) (base := w.heap.size) (e := 35) (g := gb4) (off := 2) (cur := #[.int .i64 (bt a0 0 - 97), .int .i64 0, .int .i64 0]) (cur' := #[.int .i64 (bt a0 0 - 97), .int .i64 0, .int .i64 t1]) (u := .int .i64 t1) (seg := [.int .i64 t1]) rfl rfl rfl rfl rfl BK4.out rfl ?ht ?h1 (by simp) rfl HB.out GE4.out ?_;(case ht => kernel_rfl);(case h1 => intro q hq;simp only [List.mem_cons, List.not_mem_nil, or_false] at hq;first | (rcases hq with rfl | rfl | rfl <;> rfl) | (rcases hq with rfl | rfl <;> rfl) | (subst hq;rfl));intro ws_ hs_ hk_ hB_;replace BK4 := m0_ (hs_);replace HB := m0_ (hB_);replace BK2 := m0_ (blk_keep BK2.out hk_ NB2_4.out);clear hs_ hk_ hB_))
   go_meet
   case rel => exact ⟨_, _, _, rfl, rfl, HX, BK2, BK4, HB⟩
 case rest =>
  clear HH BK2 BK4 HB
  obtain ⟨s, ok, v, rfl, rfl, HX, BK2, BK4, HB⟩ := hcut
  have h_ := HX.out
  clear HX
  unfold spec_l1One.tail at h_
  by_cases cs : 1 ≤ s.size
  case neg => rw [if_neg cs] at h_;cases h_
  rw [if_pos cs] at h_
  obtain ⟨⟨u1, u2⟩, hu, h⟩ := Option.bind_eq_some_iff.1 h_
  simp only [Option.some.injEq, Prod.mk.injEq] at h
  obtain ⟨rfl, rfl, rfl, rfl⟩ := h
  have HU := m0_ hu
  clear h_ hu
  have k1 : (1 ≤ (s.size : Int)) = True := eq_true (by omega)
  have k1n : (1 ≤ s.size) = True := eq_true cs
  clear cs
  go_wp2_with (first | (go_at_call 55;fail))
  refine (spec_l14Num.calls k (s.extract 1 s.size) u1 u2 _ HU.out).mono ?_
  rintro e w' ⟨rfl, hd_⟩
  obtain ⟨nd, hd⟩ := hd_
  have n0_ := m0_ (hd ▸ blk_drewN BK2.out nd)
  have n1_ := m0_ (hd ▸ blk_drewN BK4.out nd)
  have n2_ := m0_ (hd ▸ pw_below_drewN HB.out nd)
  clear BK2 BK4 HB hd
  have BK2 := n0_
  have BK4 := n1_
  have HB := n2_
  clear n0_ n1_ n2_
  cases ok with
  | false =>
   go_upto_region 14 with (first | ((with_reducible refine gate_store (t := 3) (p := 60) (v := .tmp 59) rfl ?_);refine store_blk (w0 := w) (base := w.heap.size) (e := 35) (g := gb4) (off := 1) (cur := #[.int .i64 (bt a0 0 - 97), .int .i64 0, .int .i64 v]) (cur' := #[.int .i64 (bt a0 0 - 97), .int .i64 u1, .int .i64 v]) (u := .int .i64 u1) (seg := [.int .i64 u1]) rfl rfl rfl rfl rfl BK4.out rfl ?ht ?h1 (by simp) rfl HB.out GE4.out ?_;(case ht => kernel_rfl);(case h1 => intro q hq;simp only [List.mem_cons, List.not_mem_nil, or_false] at hq;first | (rcases hq with rfl | rfl | rfl <;> rfl) | (rcases hq with rfl | rfl <;> rfl) | (subst hq;rfl));intro ws_ hs_ hk_ hB_;replace BK4 := m0_ (hs_);replace HB := m0_ (hB_);replace BK2 := m0_ (blk_keep BK2.out hk_ NB2_4.out);clear hs_ hk_ hB_))
   have hz0 := (blk_cell BK4.out 0).trans (show _ = some (Value.int .i64 (bt a0 0 - 97)) from rfl)
   have hz1 := (blk_cell BK4.out 1).trans (show _ = some (Value.int .i64 u1) from rfl)
   have hz2 := (blk_cell BK4.out 2).trans (show _ = some (Value.int .i64 v) from rfl)
   go_wp2_with (first | ((with_reducible refine gate_store (t := 35) (p := 2) (v := .tmp 61) rfl ?_);refine store_blk (w0 := w) (base := w.heap.size) (e := 35) (g := gb2) (off := 0) (cur := #[.int .i64 0, .int .i64 0, .int .i64 0]) (cur' := #[.int .i64 (bt a0 0 - 97), .int .i64 u1, .int .i64 v]) (u := .agg #[.int .i64 (bt a0 0 - 97), .int .i64 u1, .int .i64 v]) (seg := [.int .i64 (bt a0 0 - 97), .int .i64 u1, .int .i64 v]) rfl rfl rfl rfl rfl BK2.out rfl ?ht ?h1 (by simp) rfl HB.out GE2.out ?_;(case ht => kernel_rfl);(case h1 => intro q hq;simp only [List.mem_cons, List.not_mem_nil, or_false] at hq;first | (rcases hq with rfl | rfl | rfl <;> rfl) | (rcases hq with rfl | rfl <;> rfl) | (subst hq;rfl));intro ws_ hs_ hk_ hB_;replace BK2 := m0_ (hs_);replace HB := m0_ (hB_);replace BK4 := m0_ (blk_keep BK4.out hk_ NB4_2.out);clear hs_ hk_ hB_))
   refine bodyPost_ret (results_ct rfl _ _ gb2 35 #[.int .i64 (bt a0 0 - 97), .int .i64 u1, .int .i64 v] (0, 0) _ rfl BK2.out Tryd.underlying35 rfl (by kernel_rfl)) rfl ?_
   exact ⟨rfl, HB.out⟩
  | true =>
   go_upto_region 14 with (first | ((with_reducible refine gate_store (t := 3) (p := 60) (v := .tmp 59) rfl ?_);refine store_blk (w0 := w) (base := w.heap.size) (e := 35) (g := gb4) (off := 1) (cur := #[.int .i64 (bt a0 0 - 97), .int .i64 0, .int .i64 v]) (cur' := #[.int .i64 (bt a0 0 - 97), .int .i64 u1, .int .i64 v]) (u := .int .i64 u1) (seg := [.int .i64 u1]) rfl rfl rfl rfl rfl BK4.out rfl ?ht ?h1 (by simp) rfl HB.out GE4.out ?_;(case ht => kernel_rfl);(case h1 => intro q hq;simp only [List.mem_cons, List.not_mem_nil, or_false] at hq;first | (rcases hq with rfl | rfl | rfl <;> rfl) | (rcases hq with rfl | rfl <;> rfl) | (subst hq;rfl));intro ws_ hs_ hk_ hB_;replace BK4 := m0_ (hs_);replace HB := m0_ (hB_);replace BK2 := m0_ (blk_keep BK2.out hk_ NB2_4.out);clear hs_ hk_ hB_))
   have hz0 := (blk_cell BK4.out 0).trans (show _ = some (Value.int .i64 (bt a0 0 - 97)) from rfl)
   have hz1 := (blk_cell BK4.out 1).trans (show _ = some (Value.int .i64 u1) from rfl)
   have hz2 := (blk_cell BK4.out 2).trans (show _ = some (Value.int .i64 v) from rfl)
   go_wp2_with (first | ((with_reducible refine gate_store (t := 35) (p := 2) (v := .tmp 61) rfl ?_);refine store_blk (w0 := w) (base := w.heap.size) (e := 35) (g := gb2) (off := 0) (cur := #[.int .i64 0, .int .i64 0, .int .i64 0]) (cur' := #[.int .i64 (bt a0 0 - 97), .int .i64 u1, .int .i64 v]) (u := .agg #[.int .i64 (bt a0 0 - 97), .int .i64 u1, .int .i64 v]) (seg := [.int .i64 (bt a0 0 - 97), .int .i64 u1, .int .i64 v]) rfl rfl rfl rfl rfl BK2.out rfl ?ht ?h1 (by simp) rfl HB.out GE2.out ?_;(case ht => kernel_rfl);(case h1 => intro q hq;simp only [List.mem_cons, List.not_mem_nil, or_false] at hq;first | (rcases hq with rfl | rfl | rfl <;> rfl) | (rcases hq with rfl | rfl <;> rfl) | (subst hq;rfl));intro ws_ hs_ hk_ hB_;replace BK2 := m0_ (hs_);replace HB := m0_ (hB_);replace BK4 := m0_ (blk_keep BK4.out hk_ NB4_2.out);clear hs_ hk_ hB_))
   refine bodyPost_ret (results_ct rfl _ _ gb2 35 #[.int .i64 (bt a0 0 - 97), .int .i64 u1, .int .i64 v] (0, 0) _ rfl BK2.out Tryd.underlying35 rfl (by kernel_rfl)) rfl ?_
   exact ⟨rfl, HB.out⟩

def spec_EvsRead.l0 : Nat → List (S35) → List ByteArray → Int → Option ((List (S35)) × Bool)
 | 0, _, _, _ => none
 | k + 1, x4, x5, x6 => if x6 < (x5.length : Int) then (if 0 ≤ x6 then ((spec_l1One.f k (rdOf ByteArray.empty x5 x6)).bind fun bt108 => (if bt108.2.2.2 = true then (if x4.length < 5864062014805 then (spec_EvsRead.l0 k (x4 ++ [(⟨bt108.1, bt108.2.1, bt108.2.2.1⟩ : S35)]) x5 (wrap64 (x6 + 1))) else (none)) else (some (([] : List (S35)), false)))) else (none)) else ((spec_EvsOk.f k x4).bind fun t116 => (if t116 = true then (some (x4, true)) else (some (([] : List (S35)), false))))
def spec_EvsRead.f (k : Nat) (a0 : ByteArray) : Option ((List (S35)) × Bool) := (some (([] : List (S35)) : List (S35))).bind fun y101 => (if a0.toList = ([] : List UInt8) then (some (y101, true)) else (if (a0.size : Int) > 300 then (some (([] : List (S35)), false)) else ((spec_l14Cut.f k a0 32).bind fun t104 => (spec_EvsRead.l0 k y101 t104 0))))
set_option maxHeartbeats 8000000 in
set_option maxRecDepth 100000 in
theorem spec_EvsRead.calls (k : Nat) (a0 : ByteArray) (r1 : List (S35)) (r2 : Bool) (w : World) (h : spec_EvsRead.f k a0 = some (r1, r2)) :
  Calls Tryd.prog 14 #[.string a0] w fun e w' => ∃ v0_ : Value, e = .returned (.tuple #[v0_, .bool r2]) ∧ Kd.R k35 35 w' w.heap.size (fun _ => True) v0_ r1 ∧ Below w.heap.size w w' := by
 have hu35 := Tryd.underlying35
 have HB := m0_ (Below.refl w.heap.size w)
 have H : ((some (([] : List (S35)) : List (S35))).bind fun y101 => (if a0.toList = ([] : List UInt8) then (some (y101, true)) else (if (a0.size : Int) > 300 then (some (([] : List (S35)), false)) else ((spec_l14Cut.f k a0 32).bind fun t104 => (spec_EvsRead.l0 k y101 t104 0))))) = some (r1, r2) := h
 clear h
 obtain ⟨y101, hy101⟩ : ∃ y_ : List (S35), y_ = (([] : List (S35))) := ⟨_, rfl⟩
 replace H : (if a0.toList = ([] : List UInt8) then (some (y101, true)) else (if (a0.size : Int) > 300 then (some (([] : List (S35)), false)) else ((spec_l14Cut.f k a0 32).bind fun t104 => (spec_EvsRead.l0 k y101 t104 0)))) = some (r1, r2) := by first | (rw [hy101];with_reducible exact H) | (have H2_ := (Option.bind_some _ _).symm.trans H;rw [hy101];with_reducible exact H2_) | (have H2_ := (Option.bind_some _ _).symm.trans H;with_reducible exact H2_) | with_reducible exact H | (rw [hy101];exact H) | exact H
 have Ny101 := m0_ hy101
 clear hy101
 by_cases c2 : a0.toList = ([] : List UInt8)
 ·rw [if_pos c2] at H
  have c2b0 : (a0.toList == ([] : List UInt8)) = true := beq_iff_eq.mpr c2
  have c2b0_ : (a0.toList == (⟨#[]⟩ : ByteArray).toList) = true := by rw [ByteArray.toList_eq ⟨#[]⟩]; exact c2b0
  have c2b0e : a0.toList.isEmpty = true := by rw [beq_iff_eq.1 c2b0]; rfl
  have c2b1 : (a0.toList != ([] : List UInt8)) = false := bne_eq_false_iff_eq.mpr c2
  have c2b1_ : (a0.toList != (⟨#[]⟩ : ByteArray).toList) = false := by rw [ByteArray.toList_eq ⟨#[]⟩]; exact c2b1
  clear c2
  simp only [Option.some.injEq, Prod.mk.injEq] at H
  obtain ⟨rfl, rfl⟩ := H
  go_enter Tryd.func14, Tryd.ntmps14
  go_wp2_with (first | ((with_reducible refine gate_dst (N := 9) rfl ?_);refine Kd.R_lit k35 _ 35 ?hg (N := 9) ?hd (xs := ([] : List (S35))) (inner := []) (ok := fun _ => True) (okp := fun _ => True) ?hr ?hp (fun _ hk => hk) trivial (Below.refl _ _) (Nat.le_refl _) (by simp) ?_;(case hd => rfl);(case hg => rfl);(case hr => first | (go_simp;done) | (go_simp;rfl));(case hp => exact (Reps.none _ _));intro v102 w3 ho4 hb hg_ hnew_;clear hg_ hnew_;(first | rw [← Ny101.out] at ho4 | (simp only [Int.reduceToNat] at ho4;rw [← Ny101.out] at ho4));have HO103 := m0_ (Kd.R_lower ho4 (below_size (by repeat (first | (with_reducible first | exact HB.out | apply below_alloc | apply pw_below_drewN | apply below_drew1) | exact HB.out))));replace HB := m0_ (below_step (by repeat (first | (with_reducible first | exact HB.out | apply below_alloc | apply pw_below_drewN | apply below_drew1) | exact HB.out)) hb);clear hb ho4))
  go_ret2
  exact ⟨_, by first | rfl | (simp [errW_none, errW_some] <;> rfl) | (simp [*, errW_none, errW_some] <;> rfl), by (with_reducible repeat (first | apply Kd.R_alloc | apply Kd.R_drewN | apply Kd.R_drew));exact HO103.out, by repeat (first | (with_reducible first | exact HB.out | apply below_alloc | apply pw_below_drewN | apply below_drew1) | exact HB.out)⟩
 rw [if_neg c2] at H
 have c2b0 : (a0.toList == ([] : List UInt8)) = false := beq_eq_false_iff_ne.mpr c2
 have c2b0_ : (a0.toList == (⟨#[]⟩ : ByteArray).toList) = false := by rw [ByteArray.toList_eq ⟨#[]⟩]; exact c2b0
 have c2b0e : a0.toList.isEmpty = false := by cases hq_ : a0.toList with | nil => (rw [hq_] at c2b0; exact absurd c2b0 (by decide)) | cons _ _ => rfl
 have c2b1 : (a0.toList != ([] : List UInt8)) = true := bne_iff_ne.mpr c2
 have c2b1_ : (a0.toList != (⟨#[]⟩ : ByteArray).toList) = true := by rw [ByteArray.toList_eq ⟨#[]⟩]; exact c2b1
 by_cases c5 : (a0.size : Int) > 300
 ·rw [if_pos c5] at H
  have c5b0 : decide (300 < (a0.size : Int)) = true := decide_eq_true c5
  have c5b1 : decide (300 < a0.size) = true := decide_eq_true (by omega)
  clear c5
  simp only [Option.some.injEq, Prod.mk.injEq] at H
  obtain ⟨rfl, rfl⟩ := H
  go_enter Tryd.func14, Tryd.ntmps14
  go_wp2_with (first | ((with_reducible refine gate_dst (N := 9) rfl ?_);refine Kd.R_lit k35 _ 35 ?hg (N := 9) ?hd (xs := ([] : List (S35))) (inner := []) (ok := fun _ => True) (okp := fun _ => True) ?hr ?hp (fun _ hk => hk) trivial (Below.refl _ _) (Nat.le_refl _) (by simp) ?_;(case hd => rfl);(case hg => rfl);(case hr => first | (go_simp;done) | (go_simp;rfl));(case hp => exact (Reps.none _ _));intro v102 w6 ho7 hb hg_ hnew_;clear hg_ hnew_;(first | rw [← Ny101.out] at ho7 | (simp only [Int.reduceToNat] at ho7;rw [← Ny101.out] at ho7));have HO103 := m0_ (Kd.R_lower ho7 (below_size (by repeat (first | (with_reducible first | exact HB.out | apply below_alloc | apply pw_below_drewN | apply below_drew1) | exact HB.out))));replace HB := m0_ (below_step (by repeat (first | (with_reducible first | exact HB.out | apply below_alloc | apply pw_below_drewN | apply below_drew1) | exact HB.out)) hb);clear hb ho7))
  go_ret2
  exact ⟨_, by first | rfl | (simp [errW_none, errW_some] <;> rfl) | (simp [*, errW_none, errW_some] <;> rfl), by first | exact Kd.R_nil _ _ _ _ _ | exact Kd.N_nil _ _ _ _ _ | exact Kd.V_nil _ _ _ _ _ | exact Kd.Q_nil _ _ _ _ _ | exact Kd.S_nil _ _ _ _ _, by repeat (first | (with_reducible first | exact HB.out | apply below_alloc | apply pw_below_drewN | apply below_drew1) | exact HB.out)⟩
 rw [if_neg c5] at H
 have c5b0 : decide (300 < (a0.size : Int)) = false := decide_eq_false c5
 have c5b1 : decide (300 < a0.size) = false := decide_eq_false (by omega)
 clear c5
 replace H := Option.bind_eq_some_iff.mp H
 obtain ⟨t104, A80, H⟩ := H
 replace H : (spec_EvsRead.l0 k y101 t104 0) = some (r1, r2) := H
 have A8 := m0_ A80
 clear A80
 have H' := m0_ H
 clear H
 go_enter Tryd.func14, Tryd.ntmps14
 go_wp2_with (first | ((with_reducible refine gate_dst (N := 9) rfl ?_);refine Kd.R_lit k35 _ 35 ?hg (N := 9) ?hd (xs := ([] : List (S35))) (inner := []) (ok := fun _ => True) (okp := fun _ => True) ?hr ?hp (fun _ hk => hk) trivial (Below.refl _ _) (Nat.le_refl _) (by simp) ?_;(case hd => rfl);(case hg => rfl);(case hr => first | (go_simp;done) | (go_simp;rfl));(case hp => exact (Reps.none _ _));intro v102 w9 ho10 hb hg_ hnew_;clear hg_ hnew_;(first | rw [← Ny101.out] at ho10 | (simp only [Int.reduceToNat] at ho10;rw [← Ny101.out] at ho10));have HO103 := m0_ (Kd.R_lower ho10 (below_size (by repeat (first | (with_reducible first | exact HB.out | apply below_alloc | apply pw_below_drewN | apply below_drew1) | exact HB.out))));replace HB := m0_ (below_step (by repeat (first | (with_reducible first | exact HB.out | apply below_alloc | apply pw_below_drewN | apply below_drew1) | exact HB.out)) hb);clear hb ho10) | ((with_reducible refine gate_callee (f := 37) rfl ?_);refine goesL_ (some 17) rfl rfl Tryd.func37 (by kernel_rfl) rfl #[.string a0, .int .u8 32] rfl (by (try simp only [List.map_toArray, List.map_cons, List.map_nil]);first | done | rfl | (simp only [List.length_drop, List.length_take];rfl)) ?_;(with_reducible refine (spec_l14Cut.calls k a0 32 t104 _ A8.out).mono ?_);rintro e w11 ⟨v105, rfl, ho0, hb⟩;refine ⟨_, rfl, ?_⟩;replace HO103 := m0_ (Kd.R_below (by exact HO103.out) hb);have HO106 := m0_ (Kd.R_lower ho0 (below_size (by repeat (first | (with_reducible first | exact HB.out | apply below_alloc | apply pw_below_drewN | apply below_drew1) | exact HB.out))));replace HB := m0_ (below_step (by repeat (first | (with_reducible first | exact HB.out | apply below_alloc | apply pw_below_drewN | apply below_drew1) | exact HB.out)) hb);(try clear hb);(try clear hb2);(try clear hk);(try clear hi);(try clear ho0)))
 go_loopg [4, 6] k (fun kq v4 v6 w' => ∃ (x4_1 : List (S35)) (x6_1 : Int), v6 = .int .i64 x6_1 ∧ Aside0 (spec_EvsRead.l0 kq x4_1 t104 x6_1 = some (r1, r2)) ∧ Aside0 (kq ≤ k) ∧ Aside0 (Kd.R k35 35 w' w.heap.size (fun _ => True) v4 x4_1) ∧ Aside0 (Kd.R Kd.string 9 w' w.heap.size (fun _ => True) v105 t104) ∧ Aside0 (Below w.heap.size w w'))
 case atStart => exact ⟨(y101), (0), (by first | rfl | (simp;done) | (simp [*];done)), H', ⟨Nat.le_refl _⟩, ⟨by (with_reducible repeat (first | apply Kd.R_alloc | apply Kd.R_drewN | apply Kd.R_drew));exact HO103.out⟩, ⟨by (with_reducible repeat (first | apply Kd.R_alloc | apply Kd.R_drewN | apply Kd.R_drew));exact HO106.out⟩, ⟨by repeat (first | (with_reducible first | exact HB.out | apply below_alloc | apply pw_below_drewN | apply below_drew1) | exact HB.out)⟩⟩
 case round =>
  clear H'
  try clear c1
  try clear c2
  try clear c2b0
  try clear c2b1
  try clear p2
  try clear c3
  try clear c5
  try clear c5b0
  try clear c5b1
  obtain ⟨x4_1, x6_1, rfl, HA, HK1, HO_4, HO_5, HB⟩ := hrel
  cases gk with
  | zero => exact absurd HA.out (by simp [spec_EvsRead.l0])
  | succ k1 =>
   have H := HA.out
   clear HA
   simp only [spec_EvsRead.l0] at H
   by_cases c12 : x6_1 < (t104.length : Int)
   rotate_left
   ·rw [if_neg c12] at H
    have c12b0 : decide (x6_1 < (t104.length : Int)) = false := decide_eq_false c12
    clear c12
    replace H := Option.bind_eq_some_iff.mp H
    obtain ⟨t116, A260, H⟩ := H
    replace H : (if t116 = true then (some (x4_1, true)) else (some (([] : List (S35)), false))) = some (r1, r2) := H
    have A26 := m0_ A260
    clear A260
    by_cases c27 : t116 = true
    ·subst c27
     have H1 : (some (x4_1, true)) = some (r1, r2) := by rw [if_pos rfl] at H;exact H
     clear H
     have H := H1
     clear H1
     simp only [Option.some.injEq, Prod.mk.injEq] at H
     obtain ⟨rfl, rfl⟩ := H
     obtain ⟨Ao28, co28, eo28⟩ := Kd.R_slice HO_5.out
     subst eo28
     obtain ⟨Ao29, co29, eo29⟩ := Kd.R_slice HO_4.out
     subst eo29
     go_wp2_with (first | ((with_reducible refine gate_callee (f := 11) rfl ?_);refine goesL_ (some 39) rfl rfl Tryd.func11 (by kernel_rfl) rfl #[.slice Ao29 x4_1.length co29] rfl (by (try simp only [List.map_toArray, List.map_cons, List.map_nil]);first | done | rfl | (simp only [List.length_drop, List.length_take];rfl)) ?_;(with_reducible refine (spec_EvsOk.calls k1 _ _ x4_1 true _ ?side1 ?side2 A26.out).mono ?_);(case side1 => repeat (first | exact (Kd.R_reads' HO_4.out).2.2 | (with_reducible refine Kd.C_alloc ?_ _) | (with_reducible refine Kd.C_drewN ?_ _) | (with_reducible refine Kd.C_drew ?_)));(case side2 => exact (Kd.R_reads' HO_4.out).2.1);rintro e w30 ⟨rfl, hb⟩;refine ⟨_, rfl, ?_⟩;replace HO_4 := m0_ (Kd.R_below (by exact HO_4.out) hb);replace HO_5 := m0_ (Kd.R_below (by exact HO_5.out) hb);replace HB := m0_ (below_step (by repeat (first | (with_reducible first | exact HB.out | apply below_alloc | apply pw_below_drewN | apply below_drew1) | exact HB.out)) hb);(try clear hb);(try clear hb2);(try clear hk);(try clear hi)))
     go_ret2
     exact ⟨_, by first | rfl | (simp [errW_none, errW_some] <;> rfl) | (simp [*, errW_none, errW_some] <;> rfl), by (with_reducible repeat (first | apply Kd.R_alloc | apply Kd.R_drewN | apply Kd.R_drew));exact HO_4.out, by repeat (first | (with_reducible first | exact HB.out | apply below_alloc | apply pw_below_drewN | apply below_drew1) | exact HB.out)⟩
    ·replace c27 := Bool.eq_false_iff.mpr c27
     subst c27
     have H1 : (some (([] : List (S35)), false)) = some (r1, r2) := by rw [if_neg (show ¬ (false = true) by decide)] at H;exact H
     clear H
     have H := H1
     clear H1
     simp only [Option.some.injEq, Prod.mk.injEq] at H
     obtain ⟨rfl, rfl⟩ := H
     obtain ⟨Ao31, co31, eo31⟩ := Kd.R_slice HO_5.out
     subst eo31
     obtain ⟨Ao32, co32, eo32⟩ := Kd.R_slice HO_4.out
     subst eo32
     go_wp2_with (first | ((with_reducible refine gate_callee (f := 11) rfl ?_);refine goesL_ (some 39) rfl rfl Tryd.func11 (by kernel_rfl) rfl #[.slice Ao32 x4_1.length co32] rfl (by (try simp only [List.map_toArray, List.map_cons, List.map_nil]);first | done | rfl | (simp only [List.length_drop, List.length_take];rfl)) ?_;(with_reducible refine (spec_EvsOk.calls k1 _ _ x4_1 false _ ?side1 ?side2 A26.out).mono ?_);(case side1 => repeat (first | exact (Kd.R_reads' HO_4.out).2.2 | (with_reducible refine Kd.C_alloc ?_ _) | (with_reducible refine Kd.C_drewN ?_ _) | (with_reducible refine Kd.C_drew ?_)));(case side2 => exact (Kd.R_reads' HO_4.out).2.1);rintro e w33 ⟨rfl, hb⟩;refine ⟨_, rfl, ?_⟩;replace HO_4 := m0_ (Kd.R_below (by exact HO_4.out) hb);replace HO_5 := m0_ (Kd.R_below (by exact HO_5.out) hb);replace HB := m0_ (below_step (by repeat (first | (with_reducible first | exact HB.out | apply below_alloc | apply pw_below_drewN | apply below_drew1) | exact HB.out)) hb);(try clear hb);(try clear hb2);(try clear hk);(try clear hi)))
     go_ret2
     exact ⟨_, by first | rfl | (simp [errW_none, errW_some] <;> rfl) | (simp [*, errW_none, errW_some] <;> rfl), by first | exact Kd.R_nil _ _ _ _ _ | exact Kd.N_nil _ _ _ _ _ | exact Kd.V_nil _ _ _ _ _ | exact Kd.Q_nil _ _ _ _ _ | exact Kd.S_nil _ _ _ _ _, by repeat (first | (with_reducible first | exact HB.out | apply below_alloc | apply pw_below_drewN | apply below_drew1) | exact HB.out)⟩
   rw [if_pos c12] at H
   have c12b0 : decide (x6_1 < (t104.length : Int)) = true := decide_eq_true c12
   clear c12
   by_cases c13 : 0 ≤ x6_1
   rotate_left
   ·rw [if_neg c13] at H
    exact absurd H (by simp)
   rw [if_pos c13] at H
   have c13b0 : decide (0 ≤ x6_1) = true := decide_eq_true c13
   clear c13
   replace H := Option.bind_eq_some_iff.mp H
   obtain ⟨⟨t108, t109, t110, t111⟩, A140, H⟩ := H
   replace H : (if t111 = true then (if x4_1.length < 5864062014805 then (spec_EvsRead.l0 k1 (x4_1 ++ [(⟨t108, t109, t110⟩ : S35)]) t104 (wrap64 (x6_1 + 1))) else (none)) else (some (([] : List (S35)), false))) = some (r1, r2) := H
   have A14 := m0_ A140
   clear A140
   by_cases c15 : t111 = true
   rotate_left
   ·replace c15 := Bool.eq_false_iff.mpr c15
    subst c15
    have H1 : (some (([] : List (S35)), false)) = some (r1, r2) := by rw [if_neg (show ¬ (false = true) by decide)] at H;exact H
    clear H
    have H := H1
    clear H1
    simp only [Option.some.injEq, Prod.mk.injEq] at H
    obtain ⟨rfl, rfl⟩ := H
    obtain ⟨Ao22, co22, eo22⟩ := Kd.R_slice HO_5.out
    subst eo22
    have p107 : 0 ≤ (x6_1 : Int) := of_decide_eq_true (by first | (with_reducible assumption) | assumption)
    have q107 : x6_1 < (t104.length : Int) := of_decide_eq_true (by first | (with_reducible assumption) | assumption)
    obtain ⟨ad107, e107, hx107_0⟩ := Kd.at_string (Kd.R_reads' HO_5.out).2.2 x6_1 p107 q107
    cases e107
    replace p107 := eq_true p107
    replace q107 := eq_true q107
    go_wp2_with (first | ((with_reducible refine gate_callee (f := 38) rfl ?_);refine goesL_ (some 29) rfl rfl Tryd.func38 (by kernel_rfl) rfl #[.string (rdOf ByteArray.empty t104 x6_1)] rfl (by (try simp only [List.map_toArray, List.map_cons, List.map_nil]);first | done | rfl | (simp only [List.length_drop, List.length_take];rfl)) ?_;(with_reducible refine (spec_l1One.calls k1 (rdOf ByteArray.empty t104 x6_1) t108 t109 t110 false _ A14.out).mono ?_);rintro e w23 ⟨rfl, hb⟩;refine ⟨_, rfl, ?_⟩;replace HO_4 := m0_ (Kd.R_below (by exact HO_4.out) hb);replace HO_5 := m0_ (Kd.R_below (by exact HO_5.out) hb);replace HB := m0_ (below_step (by repeat (first | (with_reducible first | exact HB.out | apply below_alloc | apply pw_below_drewN | apply below_drew1) | exact HB.out)) hb);(try clear hb);(try clear hb2);(try clear hk);(try clear hi)) | ((with_reducible refine gate_dst (N := 7) rfl ?_);refine box_event ?hg (N := 7) ?hd (cs := #[.int .i64 0, .int .i64 0, .int .i64 0]) (t := 35) ?hr ?_;(case hd => rfl);(case hg => rfl);(case hr => first | (go_simp;done) | (go_simp;rfl));intro gb112 hg w24 hbox hb;replace HO_4 := m0_ (Kd.R_below (Kd.R_elderB (by exact HO_4.out) gb112 (Nat.le_of_eq hg.symm)) hb);replace HO_5 := m0_ (Kd.R_below (by exact HO_5.out) hb);have BK112 := m0_ (hbox);have GW112 := m0_ ((by rw [hg];exact (below_size (by repeat (first | (with_reducible first | exact HB.out | apply below_alloc | apply pw_below_drewN | apply below_drew1) | exact HB.out))) : w.heap.size ≤ gb112));have GE112 := m0_ ((by rw [hg];exact (below_size (by repeat (first | (with_reducible first | exact HB.out | apply below_alloc | apply pw_below_drewN | apply below_drew1) | exact HB.out))) : w.heap.size ≤ gb112));replace HB := m0_ (below_step (by repeat (first | (with_reducible first | exact HB.out | apply below_alloc | apply pw_below_drewN | apply below_drew1) | exact HB.out)) hb);clear hb hbox hg;obtain ⟨hcz25_0, hcz25_1, hcz25_2, hfz25_0, hfz25_1, hfz25_2⟩ := bx3 BK112.out))
    go_ret2
    exact ⟨_, by first | rfl | (simp [errW_none, errW_some] <;> rfl) | (simp [*, errW_none, errW_some] <;> rfl), by first | exact Kd.R_nil _ _ _ _ _ | exact Kd.N_nil _ _ _ _ _ | exact Kd.V_nil _ _ _ _ _ | exact Kd.Q_nil _ _ _ _ _ | exact Kd.S_nil _ _ _ _ _, by repeat (first | (with_reducible first | exact HB.out | apply below_alloc | apply pw_below_drewN | apply below_drew1 | refine below_set ?_ GE112.out) | exact HB.out)⟩
   subst c15
   have H1 : (if x4_1.length < 5864062014805 then (spec_EvsRead.l0 k1 (x4_1 ++ [(⟨t108, t109, t110⟩ : S35)]) t104 (wrap64 (x6_1 + 1))) else (none)) = some (r1, r2) := by rw [if_pos rfl] at H;exact H
   clear H
   have H := H1
   clear H1
   by_cases c16 : x4_1.length < 5864062014805
   rotate_left
   ·rw [if_neg c16] at H
    exact absurd H (by simp)
   rw [if_pos c16] at H
   have LMc16 := m0_ c16
   clear c16
   obtain ⟨y113, hy113⟩ : ∃ y_ : List (S35), y_ = (x4_1 ++ [(⟨t108, t109, t110⟩ : S35)]) := ⟨_, rfl⟩
   replace H : (spec_EvsRead.l0 k1 y113 t104 (wrap64 (x6_1 + 1))) = some (r1, r2) := by first | (rw [hy113];with_reducible exact H) | (have H2_ := (Option.bind_some _ _).symm.trans H;rw [hy113];with_reducible exact H2_) | (have H2_ := (Option.bind_some _ _).symm.trans H;with_reducible exact H2_) | with_reducible exact H | (rw [hy113];exact H) | exact H
   have Ny113 := m0_ hy113
   clear hy113
   have H' := m0_ H
   clear H
   obtain ⟨Ao17, co17, eo17⟩ := Kd.R_slice HO_5.out
   subst eo17
   have p107 : 0 ≤ (x6_1 : Int) := of_decide_eq_true (by first | (with_reducible assumption) | assumption)
   have q107 : x6_1 < (t104.length : Int) := of_decide_eq_true (by first | (with_reducible assumption) | assumption)
   obtain ⟨ad107, e107, hx107_0⟩ := Kd.at_string (Kd.R_reads' HO_5.out).2.2 x6_1 p107 q107
   cases e107
   replace p107 := eq_true p107
   replace q107 := eq_true q107
   go_wp2_with (first | ((with_reducible refine gate_callee (f := 38) rfl ?_);refine goesL_ (some 29) rfl rfl Tryd.func38 (by kernel_rfl) rfl #[.string (rdOf ByteArray.empty t104 x6_1)] rfl (by (try simp only [List.map_toArray, List.map_cons, List.map_nil]);first | done | rfl | (simp only [List.length_drop, List.length_take];rfl)) ?_;(with_reducible refine (spec_l1One.calls k1 (rdOf ByteArray.empty t104 x6_1) t108 t109 t110 true _ A14.out).mono ?_);rintro e w18 ⟨rfl, hb⟩;refine ⟨_, rfl, ?_⟩;replace HO_4 := m0_ (Kd.R_below (by exact HO_4.out) hb);replace HO_5 := m0_ (Kd.R_below (by exact HO_5.out) hb);replace HB := m0_ (below_step (by repeat (first | (with_reducible first | exact HB.out | apply below_alloc | apply pw_below_drewN | apply below_drew1) | exact HB.out)) hb);(try clear hb);(try clear hb2);(try clear hk);(try clear hi)) | ((with_reducible refine gate_dst (N := 7) rfl ?_);refine box_event ?hg (N := 7) ?hd (cs := #[.int .i64 0, .int .i64 0, .int .i64 0]) (t := 35) ?hr ?_;(case hd => rfl);(case hg => rfl);(case hr => first | (go_simp;done) | (go_simp;rfl));intro gb112 hg w19 hbox hb;replace HO_4 := m0_ (Kd.R_below (Kd.R_elderB (by exact HO_4.out) gb112 (Nat.le_of_eq hg.symm)) hb);replace HO_5 := m0_ (Kd.R_below (by exact HO_5.out) hb);have BK112 := m0_ (hbox);have GW112 := m0_ ((by rw [hg];exact (below_size (by repeat (first | (with_reducible first | exact HB.out | apply below_alloc | apply pw_below_drewN | apply below_drew1) | exact HB.out))) : w.heap.size ≤ gb112));have GE112 := m0_ ((by rw [hg];exact (below_size (by repeat (first | (with_reducible first | exact HB.out | apply below_alloc | apply pw_below_drewN | apply below_drew1) | exact HB.out))) : w.heap.size ≤ gb112));replace HB := m0_ (below_step (by repeat (first | (with_reducible first | exact HB.out | apply below_alloc | apply pw_below_drewN | apply below_drew1) | exact HB.out)) hb);clear hb hbox hg;obtain ⟨hcz20_0, hcz20_1, hcz20_2, hfz20_0, hfz20_1, hfz20_2⟩ := bx3 BK112.out) | ((with_reducible refine gate_builtin (b := .append) (xs := #[.tmp 34, .tmp 36]) rfl ?_);at_builtin;refine Kd.R_append k35 (w0 := w) w.heap.size rfl (.tmp 34) (.tmp 36) 23 35 (.agg #[(.int .i64 0), (.int .i64 0), (.int .i64 0)]) 24 rfl Tryd.underlying23 info35 rfl (by decide) (by omega) u4 x4_1 (⟨t108, t109, t110⟩ : S35) [.int .i64 t108, .int .i64 t109, .int .i64 t110] (fun k_ => k_ ≠ gb112) (fun _ => False) rfl (by first | (go_simp;done) | (go_simp;rfl)) ?aP (fun _ hk => hk.elim) ?aF ?aO ?aB ?aS ?aL ?_;(case aP => exact k35_mkM _ _ _ (⟨t108, t109, t110⟩ : S35));(case aB => exact (by repeat (first | (with_reducible first | exact HB.out | apply below_alloc | apply pw_below_drewN | apply below_drew1 | refine below_set ?_ GE112.out) | exact HB.out)));(case aF => exact (fun k_ hk => Kd.freshB (g := gb112) (o := .cells #[.int .i64 t108, .int .i64 t109, .int .i64 t110] 35 (0, 0)) (by (with_reducible repeat (first | refine blk_drewN ?_ _ | refine blk_drew ?_ | refine blk_alloc ?_ _));refine blk_put (cs := #[.int .i64 t108, .int .i64 t109, .int .i64 0]) ?_ 2 _ rfl;(with_reducible repeat (first | refine blk_drewN ?_ _ | refine blk_drew ?_ | refine blk_alloc ?_ _));refine blk_put (cs := #[.int .i64 t108, .int .i64 0, .int .i64 0]) ?_ 1 _ rfl;(with_reducible repeat (first | refine blk_drewN ?_ _ | refine blk_drew ?_ | refine blk_alloc ?_ _));refine blk_put (cs := #[.int .i64 0, .int .i64 0, .int .i64 0]) ?_ 0 _ rfl;(with_reducible repeat (first | refine blk_drewN ?_ _ | refine blk_drew ?_ | refine blk_alloc ?_ _));exact BK112.out) k_ hk));(case aO => exact (by (with_reducible repeat (first | apply Kd.R_alloc | apply Kd.R_drewN | apply Kd.R_drew));exact Kd.R_mono (Kd.R_far (p := ⟨gb112, 2, none⟩) (Kd.R_far (p := ⟨gb112, 1, none⟩) (Kd.R_far (p := ⟨gb112, 0, none⟩) (Kd.R_mono HO_4.out (fun k_ hk => (⟨hk, hk.2⟩ : _ ∧ k_ ≠ gb112))) (fun _ hk => hk.2) (.int .i64 t108)) (fun _ hk => hk.2) (.int .i64 t109)) (fun _ hk => hk.2) (.int .i64 t110)) (fun _ hk => hk.1.2)));(case aS => exact (below_size (by repeat (first | (with_reducible first | exact HB.out | apply below_alloc | apply pw_below_drewN | apply below_drew1 | refine below_set ?_ GE112.out) | exact HB.out))));(case aL => have := LMc16.out;omega);intro v114 w21 ho hb hg hat;rw [← Ny113.out] at ho;have n0_ := m0_ (Kd.R_over' (by (with_reducible repeat (first | apply Kd.R_alloc | apply Kd.R_drewN | apply Kd.R_drew));exact (Kd.R_mono (Kd.R_far (p := ⟨gb112, 2, none⟩) (Kd.R_far (p := ⟨gb112, 1, none⟩) (Kd.R_far (p := ⟨gb112, 0, none⟩) (Kd.R_types HO_5.out BK112.out (by decide)) (fun _ hk => hk.2) (.int .i64 t108)) (fun _ hk => hk.2) (.int .i64 t109)) (fun _ hk => hk.2) (.int .i64 t110)) (fun _ h_ => h_.1))) (Kd.R_typed (by (with_reducible repeat (first | apply Kd.R_alloc | apply Kd.R_drewN | apply Kd.R_drew));exact (Kd.R_mono (Kd.R_far (p := ⟨gb112, 2, none⟩) (Kd.R_far (p := ⟨gb112, 1, none⟩) (Kd.R_far (p := ⟨gb112, 0, none⟩) (Kd.R_mono HO_4.out (fun k_ hk => (⟨hk, hk.2⟩ : _ ∧ k_ ≠ gb112))) (fun _ hk => hk.2) (.int .i64 t108)) (fun _ hk => hk.2) (.int .i64 t109)) (fun _ hk => hk.2) (.int .i64 t110)) (fun _ h_ => h_.1)))) (by decide) hg);have n1_ := m0_ (blk_grown (g := gb112) (o := .cells #[.int .i64 t108, .int .i64 t109, .int .i64 t110] 35 (0, 0)) (by (with_reducible repeat (first | refine blk_drewN ?_ _ | refine blk_drew ?_ | refine blk_alloc ?_ _));refine blk_put (cs := #[.int .i64 t108, .int .i64 t109, .int .i64 0]) ?_ 2 _ rfl;(with_reducible repeat (first | refine blk_drewN ?_ _ | refine blk_drew ?_ | refine blk_alloc ?_ _));refine blk_put (cs := #[.int .i64 t108, .int .i64 0, .int .i64 0]) ?_ 1 _ rfl;(with_reducible repeat (first | refine blk_drewN ?_ _ | refine blk_drew ?_ | refine blk_alloc ?_ _));refine blk_put (cs := #[.int .i64 0, .int .i64 0, .int .i64 0]) ?_ 0 _ rfl;(with_reducible repeat (first | refine blk_drewN ?_ _ | refine blk_drew ?_ | refine blk_alloc ?_ _));exact BK112.out) hg (Kd.R_away HO_4.out (fun _ hk => hk.2)));have n2_ := m0_ (hb);have n3_ := m0_ (ho);clear HO_5;clear BK112;clear HB;clear HO_4;have HO_5 := n0_;have BK112 := n1_;have HB := n2_;have HO115 := n3_;clear n0_ n1_ n2_ n3_;clear ho hb hg hat))
   go_roundg k1
   case measure => have := HK1.out;omega
   case rel => exact ⟨(y113), (wrap64 (x6_1 + 1)), (by first | rfl | (simp;done) | (simp [*];done)), H', ⟨by have := HK1.out;omega⟩, ⟨by (with_reducible repeat (first | apply Kd.R_alloc | apply Kd.R_drewN | apply Kd.R_drew));exact Kd.R_mono HO115.out (fun _ hk => trivial)⟩, ⟨by (with_reducible repeat (first | apply Kd.R_alloc | apply Kd.R_drewN | apply Kd.R_drew));exact HO_5.out⟩, ⟨by repeat (first | (with_reducible first | exact HB.out | apply below_alloc | apply pw_below_drewN | apply below_drew1 | refine below_set ?_ GE112.out) | exact HB.out)⟩⟩

def spec_DrawEvsTill.f (k : Nat) (l0 : List Int) : Option ((List (S35)) × Int) := (spec_l14Open.f l0).bind fun bt101 => ((spec_l1Bent.f k bt101.1 bt101.2).bind fun bt104 => ((spec_l14Rd_num.f k bt101.1 bt104.2 (([0, 1, 3, 6, 10, 2000, (-1)] : List Int))).bind fun bt111 => (some (bt104.1, bt111.1))))
set_option maxHeartbeats 8000000 in
set_option maxRecDepth 100000 in
theorem spec_DrawEvsTill.calls (k : Nat) (A0 : Option Addr) (c0 : Nat) (l0 : List Int) (r1 : List (S35)) (r2 : Int) (w : World) (hr0 : Kd.C (Kd.int .u8) w A0 l0.length l0) (hc0 : l0.length ≤ c0) (h : spec_DrawEvsTill.f k l0 = some (r1, r2)) :
  Calls Tryd.prog 15 #[.slice A0 l0.length c0] w fun e w' => ∃ v0_ : Value, e = .returned (.tuple #[v0_, .int .i64 r2]) ∧ Kd.R k35 35 w' w.heap.size (fun _ => True) v0_ r1 ∧ Below w.heap.size w w' := by
 have HR0 := m0_ hr0
 have HC0 := m0_ hc0
 clear hr0 hc0
 have HB := m0_ (Below.refl w.heap.size w)
 have H : ((spec_l14Open.f l0).bind fun bt101 => ((spec_l1Bent.f k bt101.1 bt101.2).bind fun bt104 => ((spec_l14Rd_num.f k bt101.1 bt104.2 (([0, 1, 3, 6, 10, 2000, (-1)] : List Int))).bind fun bt111 => (some (bt104.1, bt111.1))))) = some (r1, r2) := h
 clear h
 replace H := Option.bind_eq_some_iff.mp H
 obtain ⟨⟨t101, t102⟩, A20, H⟩ := H
 replace H : ((spec_l1Bent.f k t101 t102).bind fun bt104 => ((spec_l14Rd_num.f k t101 bt104.2 (([0, 1, 3, 6, 10, 2000, (-1)] : List Int))).bind fun bt111 => (some (bt104.1, bt111.1)))) = some (r1, r2) := H
 have A2 := m0_ A20
 clear A20
 replace H := Option.bind_eq_some_iff.mp H
 obtain ⟨⟨t104, t107⟩, A30, H⟩ := H
 replace H : ((spec_l14Rd_num.f k t101 t107 (([0, 1, 3, 6, 10, 2000, (-1)] : List Int))).bind fun bt111 => (some (t104, bt111.1))) = some (r1, r2) := H
 have A3 := m0_ A30
 clear A30
 obtain ⟨y108, hy108⟩ : ∃ y_ : List Int, y_ = (([0, 1, 3, 6, 10, 2000, (-1)] : List Int)) := ⟨_, rfl⟩
 replace H : ((spec_l14Rd_num.f k t101 t107 y108).bind fun bt111 => (some (t104, bt111.1))) = some (r1, r2) := by first | (rw [hy108];with_reducible exact H) | (have H2_ := (Option.bind_some _ _).symm.trans H;rw [hy108];with_reducible exact H2_) | (have H2_ := (Option.bind_some _ _).symm.trans H;with_reducible exact H2_) | with_reducible exact H | (rw [hy108];exact H) | exact H
 have Ny108 := m0_ hy108
 clear hy108
 replace H := Option.bind_eq_some_iff.mp H
 obtain ⟨⟨t111, t112⟩, A40, H⟩ := H
 replace H : (some (t104, t111)) = some (r1, r2) := H
 have A4 := m0_ A40
 clear A40
 simp only [Option.some.injEq, Prod.mk.injEq] at H
 obtain ⟨rfl, rfl⟩ := H
 go_enter Tryd.func15, Tryd.ntmps15
 go_wp2_with (first | ((with_reducible refine gate_callee (f := 27) rfl ?_);refine goesL_ (some 7) rfl rfl Tryd.func27 (by kernel_rfl) rfl #[.slice A0 l0.length c0] rfl (by (try simp only [List.map_toArray, List.map_cons, List.map_nil]);first | done | rfl | (simp only [List.length_drop, List.length_take];rfl)) ?_;(with_reducible refine (spec_l14Open.calls _ _ l0 t101 t102 w _ ?side1 ?side2 ?side3 A2.out).mono ?_);(case side1 => repeat (first | (with_reducible first | exact HB.out | apply below_alloc | apply pw_below_drewN | apply below_drew1) | exact HB.out));(case side2 => exact HR0.out);(case side3 => exact HC0.out);rintro e w5 ⟨g103, rfl, hi, hb, hb2⟩;refine ⟨_, rfl, ?_⟩;replace HB := m0_ (hb);have HI103 := m0_ (hi);(try clear hb);(try clear hb2);(try clear hk);(try clear hi)) | ((with_reducible refine gate_callee (f := 26) rfl ?_);refine goesL_ (some 9) rfl rfl Tryd.func26 (by kernel_rfl) rfl #[.pointer (some ⟨g103, 0, none⟩)] rfl (by (try simp only [List.map_toArray, List.map_cons, List.map_nil]);first | done | rfl | (simp only [List.length_drop, List.length_take];rfl)) ?_;(with_reducible refine (spec_l1Bent.calls k g103 t101 t102 t104 t107 w _ ?side1 ?side2 A3.out).mono ?_);(case side1 => repeat (first | (with_reducible first | exact HI103.out | apply IsS69.alloc | apply IsS69.drewN | apply IsS69.drew | apply IsS69.set_1) | exact HI103.out));(case side2 => repeat (first | (with_reducible first | exact HB.out | apply below_alloc | apply pw_below_drewN | apply below_drew1 | refine below_set ?_ (IsS69.ge HI103.out)) | exact HB.out));rintro e w6 ⟨v105, rfl, ho0, hi, hb, hk⟩;refine ⟨_, rfl, ?_⟩;have HO106 := m0_ (Kd.R_lower ho0 (below_size (by repeat (first | (with_reducible first | exact HB.out | apply below_alloc | apply pw_below_drewN | apply below_drew1 | refine below_set ?_ (IsS69.ge HI103.out)) | exact HB.out))));replace HB := m0_ (hb);replace HI103 := m0_ (hi);(try clear hb);(try clear hb2);(try clear hk);(try clear hi);(try clear ho0)) | ((with_reducible refine gate_dst (N := 12) rfl ?_);refine Kd.R_lit (Kd.int .i64) _ 3 ?hg (N := 12) ?hd (xs := ([0, 1, 3, 6, 10, 2000, (-1)] : List Int)) (inner := [.int .i64 0, .int .i64 1, .int .i64 3, .int .i64 6, .int .i64 10, .int .i64 2000, .int .i64 (-1)]) (ok := fun _ => True) (okp := fun _ => True) ?hr ?hp (fun _ hk => hk) trivial (Below.refl _ _) (Nat.le_refl _) (by simp) ?_;(case hd => rfl);(case hg => rfl);(case hr => first | (go_simp;done) | (go_simp;rfl));(case hp => exact (Reps.one (show Kd.M (Kd.int .i64) _ _ _ 0 [.int .i64 0] from rfl) (Reps.one (show Kd.M (Kd.int .i64) _ _ _ 1 [.int .i64 1] from rfl) (Reps.one (show Kd.M (Kd.int .i64) _ _ _ 3 [.int .i64 3] from rfl) (Reps.one (show Kd.M (Kd.int .i64) _ _ _ 6 [.int .i64 6] from rfl) (Reps.one (show Kd.M (Kd.int .i64) _ _ _ 10 [.int .i64 10] from rfl) (Reps.one (show Kd.M (Kd.int .i64) _ _ _ 2000 [.int .i64 2000] from rfl) (Reps.one (show Kd.M (Kd.int .i64) _ _ _ (-1) [.int .i64 (-1)] from rfl) (Reps.none _ _)))))))));intro v109 w7 ho8 hb hg_ hnew_;clear hg_ hnew_;(first | rw [← Ny108.out] at ho8 | (simp only [Int.reduceToNat] at ho8;rw [← Ny108.out] at ho8));replace HO106 := m0_ (Kd.R_below (by exact HO106.out) hb);have HO110 := m0_ (Kd.R_lower ho8 (below_size (by repeat (first | (with_reducible first | exact HB.out | apply below_alloc | apply pw_below_drewN | apply below_drew1 | refine below_set ?_ (IsS69.ge HI103.out)) | exact HB.out))));replace HB := m0_ (below_step (by repeat (first | (with_reducible first | exact HB.out | apply below_alloc | apply pw_below_drewN | apply below_drew1 | refine below_set ?_ (IsS69.ge HI103.out)) | exact HB.out)) hb);replace HI103 := m0_ (IsS69.below (by repeat (first | (with_reducible first | exact HI103.out | apply IsS69.alloc | apply IsS69.drewN | apply IsS69.drew | apply IsS69.set_1) | exact HI103.out)) hb);clear hb ho8;obtain ⟨Ao9, co9, eo9⟩ := Kd.R_slice HO110.out;subst eo9) | ((with_reducible refine gate_callee (f := 39) rfl ?_);refine goesL_ (some 13) rfl rfl Tryd.func39 (by kernel_rfl) rfl #[.pointer (some ⟨g103, 0, none⟩), .slice Ao9 y108.length co9] rfl (by (try simp only [List.map_toArray, List.map_cons, List.map_nil]);first | done | rfl | (simp only [List.length_drop, List.length_take];rfl)) ?_;(with_reducible refine (spec_l14Rd_num.calls k g103 t101 t107 _ _ y108 t111 t112 w _ ?side1 ?side2 ?side3 ?side4 ?side5 A4.out).mono ?_);(case side1 => repeat (first | (with_reducible first | exact HI103.out | apply IsS69.alloc | apply IsS69.drewN | apply IsS69.drew | apply IsS69.set_1) | exact HI103.out));(case side2 => repeat (first | (with_reducible first | exact HB.out | apply below_alloc | apply pw_below_drewN | apply below_drew1 | refine below_set ?_ (IsS69.ge HI103.out)) | exact HB.out));(case side3 => repeat (first | exact (Kd.R_reads' HO110.out).2.2 | (with_reducible refine Kd.C_alloc ?_ _) | (with_reducible refine Kd.C_drewN ?_ _) | (with_reducible refine Kd.C_drew ?_)));(case side4 => exact (Kd.R_reads' HO110.out).2.1);(case side5 => exact far_slice (IsS69.own_ne HI103.out HO110.out (by decide)));rintro e w10 ⟨rfl, hi, hb, hk⟩;refine ⟨_, rfl, ?_⟩;replace HO106 := m0_ (Kd.R_mono (Kd.R_keep (IsS69.apart (show IsS69 w _ g103 t101 t107 from by repeat (first | (with_reducible first | exact HI103.out | apply IsS69.alloc | apply IsS69.drewN | apply IsS69.drew | apply IsS69.set_1) | exact HI103.out)) (by exact HO106.out) (by decide)) hk (fun _ h => h.2)) (fun _ h => h.1));replace HO110 := m0_ (Kd.R_mono (Kd.R_keep (IsS69.apart (show IsS69 w _ g103 t101 t107 from by repeat (first | (with_reducible first | exact HI103.out | apply IsS69.alloc | apply IsS69.drewN | apply IsS69.drew | apply IsS69.set_1) | exact HI103.out)) (by exact HO110.out) (by decide)) hk (fun _ h => h.2)) (fun _ h => h.1));replace HB := m0_ (hb);replace HI103 := m0_ (hi);(try clear hb);(try clear hb2);(try clear hk);(try clear hi)))
 go_ret2
 exact ⟨_, by first | rfl | (simp [errW_none, errW_some] <;> rfl) | (simp [*, errW_none, errW_some] <;> rfl), by (with_reducible repeat (first | apply Kd.R_alloc | apply Kd.R_drewN | apply Kd.R_drew));exact HO106.out, by repeat (first | (with_reducible first | exact HB.out | apply below_alloc | apply pw_below_drewN | apply below_drew1 | refine below_set ?_ (IsS69.ge HI103.out)) | exact HB.out)⟩

def impl_EvsTill.l0 : Nat → Int → List (S35) → List (S35) → Int → Int → Option ((List (S35)))
 | 0, _, _, _, _, _ => none
 | k + 1, x1, x5, x8, x9, x10 => if x10 < x9 then (if 0 ≤ x10 then (if x10 < (x8.length : Int) then (if ((rd_T35 x8 x10).f1) ≤ x1 then (if x5.length < 5864062014805 then (impl_EvsTill.l0 k x1 (x5 ++ [(⟨(rd_T35 x8 x10).f0, (rd_T35 x8 x10).f1, (rd_T35 x8 x10).f2⟩ : S35)]) x8 x9 (wrap64 (x10 + 1))) else (none)) else (impl_EvsTill.l0 k x1 x5 x8 x9 (wrap64 (x10 + 1)))) else (none)) else (none)) else (some x5)
def impl_EvsTill.f (k : Nat) (l0 : List (S35)) (a1 : Int) : Option ((List (S35))) := impl_EvsTill.l0 k a1 ([] : List (S35)) l0 (l0.length : Int) 0
set_option maxHeartbeats 8000000 in
set_option maxRecDepth 100000 in
theorem impl_EvsTill.calls (k : Nat) (A0 : Option Addr) (c0 : Nat) (l0 : List (S35)) (a1 : Int) (r : List (S35)) (w : World) (hr0 : Kd.C k35 w A0 l0.length l0) (hc0 : l0.length ≤ c0) (h : impl_EvsTill.f k l0 a1 = some r) :
  Calls Tryd.prog 16 #[.slice A0 l0.length c0, .int .i64 a1] w fun e w' => ∃ v0_ : Value, e = .returned (v0_) ∧ Kd.R k35 35 w' w.heap.size (fun _ => True) v0_ r ∧ Below w.heap.size w w' := by
 have hu35 := Tryd.underlying35
 have HR0 := m0_ hr0
 have HC0 := m0_ hc0
 clear hr0 hc0
 have HB := m0_ (Below.refl w.heap.size w)
 have H : (impl_EvsTill.l0 k a1 ([] : List (S35)) l0 (l0.length : Int) 0) = some r := h
 clear h
 have H' := m0_ H
 clear H
 go_enter Tryd.func16, Tryd.ntmps16
 go_wp2
 go_loopg [5, 10] k (fun kq v5 v10 w' => ∃ (x5_1 : List (S35)) (x10_1 : Int), v10 = .int .i64 x10_1 ∧ Aside0 (impl_EvsTill.l0 kq a1 x5_1 l0 (l0.length : Int) x10_1 = some r) ∧ Aside0 (kq ≤ k) ∧ Aside0 (Kd.R k35 35 w' w.heap.size (fun _ => True) v5 x5_1) ∧ Aside0 (Below w.heap.size w w'))
 case atStart => exact ⟨(([] : List (S35))), (0), (by first | rfl | (simp;done) | (simp [*];done)), H', ⟨Nat.le_refl _⟩, ⟨by first | exact Kd.R_nil _ _ _ _ _ | exact Kd.N_nil _ _ _ _ _ | exact Kd.V_nil _ _ _ _ _ | exact Kd.Q_nil _ _ _ _ _ | exact Kd.S_nil _ _ _ _ _⟩, ⟨by repeat (first | (with_reducible first | exact HB.out | apply below_alloc | apply pw_below_drewN | apply below_drew1) | exact HB.out)⟩⟩
 case round =>
  clear H'
  try clear c1
  try clear p2
  obtain ⟨x5_1, x10_1, rfl, HA, HK1, HO_5, HB⟩ := hrel
  cases gk with
  | zero => exact absurd HA.out (by simp [impl_EvsTill.l0])
  | succ k1 =>
   have H := HA.out
   clear HA
   simp only [impl_EvsTill.l0] at H
   by_cases c3 : x10_1 < (l0.length : Int)
   rotate_left
   ·rw [if_neg c3] at H
    have c3b0 : decide (x10_1 < (l0.length : Int)) = false := decide_eq_false c3
    clear c3
    obtain rfl := Option.some.inj H
    go_wp2
    go_ret
    exact ⟨_, by first | rfl | (simp [errW_none, errW_some] <;> rfl) | (simp [*, errW_none, errW_some] <;> rfl), by (with_reducible repeat (first | apply Kd.R_alloc | apply Kd.R_drewN | apply Kd.R_drew));exact HO_5.out, by repeat (first | (with_reducible first | exact HB.out | apply below_alloc | apply pw_below_drewN | apply below_drew1) | exact HB.out)⟩
   rw [if_pos c3] at H
   have c3b0 : decide (x10_1 < (l0.length : Int)) = true := decide_eq_true c3
   clear c3
   by_cases c4 : 0 ≤ x10_1
   rotate_left
   ·rw [if_neg c4] at H
    exact absurd H (by simp)
   rw [if_pos c4] at H
   have c4b0 : decide (0 ≤ x10_1) = true := decide_eq_true c4
   clear c4
   by_cases c5 : x10_1 < (l0.length : Int)
   rotate_left
   ·rw [if_neg c5] at H
    exact absurd H (by simp)
   rw [if_pos c5] at H
   have c5b0 : decide (x10_1 < (l0.length : Int)) = true := decide_eq_true c5
   clear c5
   by_cases c6 : ((rd_T35 l0 x10_1).f1) ≤ a1
   rotate_left
   ·rw [if_neg c6] at H
    have c6b0 : decide (((rd_T35 l0 x10_1).f1) ≤ a1) = false := decide_eq_false c6
    clear c6
    have H' := m0_ H
    clear H
    have p101 : 0 ≤ (x10_1 : Int) := of_decide_eq_true (by first | (with_reducible assumption) | assumption)
    have q101 : x10_1 < (l0.length : Int) := of_decide_eq_true (by first | (with_reducible assumption) | assumption)
    obtain ⟨ad101, e101, hx101_0, hx101_1, hx101_2⟩ := at_T35 HR0.out x10_1 p101 q101
    cases e101
    replace hx101_0 := (HB.out.cell (World.block_lt_of_cell? w _ hx101_0)).trans hx101_0
    replace hx101_1 := (HB.out.cell (World.block_lt_of_cell? w _ hx101_1)).trans hx101_1
    replace hx101_2 := (HB.out.cell (World.block_lt_of_cell? w _ hx101_2)).trans hx101_2
    replace p101 := eq_true p101
    replace q101 := eq_true q101
    go_wp2_with (first | ((with_reducible refine gate_dst (N := 7) rfl ?_);refine box_event ?hg (N := 7) ?hd (cs := #[.int .i64 0, .int .i64 0, .int .i64 0]) (t := 35) ?hr ?_;(case hd => rfl);(case hg => rfl);(case hr => first | (go_simp;done) | (go_simp;rfl));intro gb102 hg w11 hbox hb;replace HO_5 := m0_ (Kd.R_below (Kd.R_elderB (by exact HO_5.out) gb102 (Nat.le_of_eq hg.symm)) hb);have BK102 := m0_ (hbox);have GW102 := m0_ ((by rw [hg];exact (below_size (by repeat (first | (with_reducible first | exact HB.out | apply below_alloc | apply pw_below_drewN | apply below_drew1) | exact HB.out))) : w.heap.size ≤ gb102));have GE102 := m0_ ((by rw [hg];exact (below_size (by repeat (first | (with_reducible first | exact HB.out | apply below_alloc | apply pw_below_drewN | apply below_drew1) | exact HB.out))) : w.heap.size ≤ gb102));replace HB := m0_ (below_step (by repeat (first | (with_reducible first | exact HB.out | apply below_alloc | apply pw_below_drewN | apply below_drew1) | exact HB.out)) hb);clear hb hbox hg;obtain ⟨hcz12_0, hcz12_1, hcz12_2, hfz12_0, hfz12_1, hfz12_2⟩ := bx3 BK102.out))
    go_roundg k1
    case measure => have := HK1.out;omega
    case rel => exact ⟨(x5_1), (wrap64 (x10_1 + 1)), (by first | rfl | (simp;done) | (simp [*];done)), H', ⟨by have := HK1.out;omega⟩, ⟨by (with_reducible repeat (first | apply Kd.R_alloc | apply Kd.R_drewN | apply Kd.R_drew));exact Kd.R_mono (Kd.R_far (p := ⟨gb102, 2, none⟩) (Kd.R_far (p := ⟨gb102, 1, none⟩) (Kd.R_far (p := ⟨gb102, 0, none⟩) (Kd.R_mono HO_5.out (fun k_ hk => (⟨hk, hk.2⟩ : _ ∧ k_ ≠ gb102))) (fun _ hk => hk.2) (.int .i64 ((rd_T35 l0 x10_1).f0))) (fun _ hk => hk.2) (.int .i64 ((rd_T35 l0 x10_1).f1))) (fun _ hk => hk.2) (.int .i64 ((rd_T35 l0 x10_1).f2))) (fun _ hk => trivial)⟩, ⟨by repeat (first | (with_reducible first | exact HB.out | apply below_alloc | apply pw_below_drewN | apply below_drew1 | refine below_set ?_ GE102.out) | exact HB.out)⟩⟩
   rw [if_pos c6] at H
   have c6b0 : decide (((rd_T35 l0 x10_1).f1) ≤ a1) = true := decide_eq_true c6
   clear c6
   by_cases c7 : x5_1.length < 5864062014805
   rotate_left
   ·rw [if_neg c7] at H
    exact absurd H (by simp)
   rw [if_pos c7] at H
   have LMc7 := m0_ c7
   clear c7
   obtain ⟨y103, hy103⟩ : ∃ y_ : List (S35), y_ = (x5_1 ++ [(⟨(rd_T35 l0 x10_1).f0, (rd_T35 l0 x10_1).f1, (rd_T35 l0 x10_1).f2⟩ : S35)]) := ⟨_, rfl⟩
   replace H : (impl_EvsTill.l0 k1 a1 y103 l0 (l0.length : Int) (wrap64 (x10_1 + 1))) = some r := by first | (rw [hy103];with_reducible exact H) | (have H2_ := (Option.bind_some _ _).symm.trans H;rw [hy103];with_reducible exact H2_) | (have H2_ := (Option.bind_some _ _).symm.trans H;with_reducible exact H2_) | with_reducible exact H | (rw [hy103];exact H) | exact H
   have Ny103 := m0_ hy103
   clear hy103
   have H' := m0_ H
   clear H
   have p101 : 0 ≤ (x10_1 : Int) := of_decide_eq_true (by first | (with_reducible assumption) | assumption)
   have q101 : x10_1 < (l0.length : Int) := of_decide_eq_true (by first | (with_reducible assumption) | assumption)
   obtain ⟨ad101, e101, hx101_0, hx101_1, hx101_2⟩ := at_T35 HR0.out x10_1 p101 q101
   cases e101
   replace hx101_0 := (HB.out.cell (World.block_lt_of_cell? w _ hx101_0)).trans hx101_0
   replace hx101_1 := (HB.out.cell (World.block_lt_of_cell? w _ hx101_1)).trans hx101_1
   replace hx101_2 := (HB.out.cell (World.block_lt_of_cell? w _ hx101_2)).trans hx101_2
   replace p101 := eq_true p101
   replace q101 := eq_true q101
   go_wp2_with (first | ((with_reducible refine gate_dst (N := 7) rfl ?_);refine box_event ?hg (N := 7) ?hd (cs := #[.int .i64 0, .int .i64 0, .int .i64 0]) (t := 35) ?hr ?_;(case hd => rfl);(case hg => rfl);(case hr => first | (go_simp;done) | (go_simp;rfl));intro gb102 hg w8 hbox hb;replace HO_5 := m0_ (Kd.R_below (Kd.R_elderB (by exact HO_5.out) gb102 (Nat.le_of_eq hg.symm)) hb);have BK102 := m0_ (hbox);have GW102 := m0_ ((by rw [hg];exact (below_size (by repeat (first | (with_reducible first | exact HB.out | apply below_alloc | apply pw_below_drewN | apply below_drew1) | exact HB.out))) : w.heap.size ≤ gb102));have GE102 := m0_ ((by rw [hg];exact (below_size (by repeat (first | (with_reducible first | exact HB.out | apply below_alloc | apply pw_below_drewN | apply below_drew1) | exact HB.out))) : w.heap.size ≤ gb102));replace HB := m0_ (below_step (by repeat (first | (with_reducible first | exact HB.out | apply below_alloc | apply pw_below_drewN | apply below_drew1) | exact HB.out)) hb);clear hb hbox hg;obtain ⟨hcz9_0, hcz9_1, hcz9_2, hfz9_0, hfz9_1, hfz9_2⟩ := bx3 BK102.out) | ((with_reducible refine gate_builtin (b := .append) (xs := #[.tmp 18, .tmp 20]) rfl ?_);at_builtin;refine Kd.R_append k35 (w0 := w) w.heap.size rfl (.tmp 18) (.tmp 20) 23 35 (.agg #[(.int .i64 0), (.int .i64 0), (.int .i64 0)]) 24 rfl Tryd.underlying23 info35 rfl (by decide) (by omega) u5 x5_1 (⟨(rd_T35 l0 x10_1).f0, (rd_T35 l0 x10_1).f1, (rd_T35 l0 x10_1).f2⟩ : S35) [.int .i64 ((rd_T35 l0 x10_1).f0), .int .i64 ((rd_T35 l0 x10_1).f1), .int .i64 ((rd_T35 l0 x10_1).f2)] (fun k_ => k_ ≠ gb102) (fun _ => False) rfl (by first | (go_simp;done) | (go_simp;rfl)) ?aP (fun _ hk => hk.elim) ?aF ?aO ?aB ?aS ?aL ?_;(case aP => exact k35_mkM _ _ _ (⟨(rd_T35 l0 x10_1).f0, (rd_T35 l0 x10_1).f1, (rd_T35 l0 x10_1).f2⟩ : S35));(case aB => exact (by repeat (first | (with_reducible first | exact HB.out | apply below_alloc | apply pw_below_drewN | apply below_drew1 | refine below_set ?_ GE102.out) | exact HB.out)));(case aF => exact (fun k_ hk => Kd.freshB (g := gb102) (o := .cells #[.int .i64 ((rd_T35 l0 x10_1).f0), .int .i64 ((rd_T35 l0 x10_1).f1), .int .i64 ((rd_T35 l0 x10_1).f2)] 35 (0, 0)) (by (with_reducible repeat (first | refine blk_drewN ?_ _ | refine blk_drew ?_ | refine blk_alloc ?_ _));refine blk_put (cs := #[.int .i64 ((rd_T35 l0 x10_1).f0), .int .i64 ((rd_T35 l0 x10_1).f1), .int .i64 0]) ?_ 2 _ rfl;(with_reducible repeat (first | refine blk_drewN ?_ _ | refine blk_drew ?_ | refine blk_alloc ?_ _));refine blk_put (cs := #[.int .i64 ((rd_T35 l0 x10_1).f0), .int .i64 0, .int .i64 0]) ?_ 1 _ rfl;(with_reducible repeat (first | refine blk_drewN ?_ _ | refine blk_drew ?_ | refine blk_alloc ?_ _));refine blk_put (cs := #[.int .i64 0, .int .i64 0, .int .i64 0]) ?_ 0 _ rfl;(with_reducible repeat (first | refine blk_drewN ?_ _ | refine blk_drew ?_ | refine blk_alloc ?_ _));exact BK102.out) k_ hk));(case aO => exact (by (with_reducible repeat (first | apply Kd.R_alloc | apply Kd.R_drewN | apply Kd.R_drew));exact Kd.R_mono (Kd.R_far (p := ⟨gb102, 2, none⟩) (Kd.R_far (p := ⟨gb102, 1, none⟩) (Kd.R_far (p := ⟨gb102, 0, none⟩) (Kd.R_mono HO_5.out (fun k_ hk => (⟨hk, hk.2⟩ : _ ∧ k_ ≠ gb102))) (fun _ hk => hk.2) (.int .i64 ((rd_T35 l0 x10_1).f0))) (fun _ hk => hk.2) (.int .i64 ((rd_T35 l0 x10_1).f1))) (fun _ hk => hk.2) (.int .i64 ((rd_T35 l0 x10_1).f2))) (fun _ hk => hk.1.2)));(case aS => exact (below_size (by repeat (first | (with_reducible first | exact HB.out | apply below_alloc | apply pw_below_drewN | apply below_drew1 | refine below_set ?_ GE102.out) | exact HB.out))));(case aL => have := LMc7.out;omega);intro v104 w10 ho hb hg hat;rw [← Ny103.out] at ho;have n0_ := m0_ (blk_grown (g := gb102) (o := .cells #[.int .i64 ((rd_T35 l0 x10_1).f0), .int .i64 ((rd_T35 l0 x10_1).f1), .int .i64 ((rd_T35 l0 x10_1).f2)] 35 (0, 0)) (by (with_reducible repeat (first | refine blk_drewN ?_ _ | refine blk_drew ?_ | refine blk_alloc ?_ _));refine blk_put (cs := #[.int .i64 ((rd_T35 l0 x10_1).f0), .int .i64 ((rd_T35 l0 x10_1).f1), .int .i64 0]) ?_ 2 _ rfl;(with_reducible repeat (first | refine blk_drewN ?_ _ | refine blk_drew ?_ | refine blk_alloc ?_ _));refine blk_put (cs := #[.int .i64 ((rd_T35 l0 x10_1).f0), .int .i64 0, .int .i64 0]) ?_ 1 _ rfl;(with_reducible repeat (first | refine blk_drewN ?_ _ | refine blk_drew ?_ | refine blk_alloc ?_ _));refine blk_put (cs := #[.int .i64 0, .int .i64 0, .int .i64 0]) ?_ 0 _ rfl;(with_reducible repeat (first | refine blk_drewN ?_ _ | refine blk_drew ?_ | refine blk_alloc ?_ _));exact BK102.out) hg (Kd.R_away HO_5.out (fun _ hk => hk.2)));have n1_ := m0_ (hb);have n2_ := m0_ (ho);clear BK102;clear HB;clear HO_5;have BK102 := n0_;have HB := n1_;have HO105 := n2_;clear n0_ n1_ n2_;clear ho hb hg hat))
   go_roundg k1
   case measure => have := HK1.out;omega
   case rel => exact ⟨(y103), (wrap64 (x10_1 + 1)), (by first | rfl | (simp;done) | (simp [*];done)), H', ⟨by have := HK1.out;omega⟩, ⟨by (with_reducible repeat (first | apply Kd.R_alloc | apply Kd.R_drewN | apply Kd.R_drew));exact Kd.R_mono HO105.out (fun _ hk => trivial)⟩, ⟨by repeat (first | (with_reducible first | exact HB.out | apply below_alloc | apply pw_below_drewN | apply below_drew1 | refine below_set ?_ GE102.out) | exact HB.out)⟩⟩

end Go.Proofs.YtiebpoikhijbgaaDoor.M
