/- What the claim's law leans on: the program's functions, what they compute, and the law over plain values; no condition is asked. (Part 3 of 4.) -/
import Derived.Test.YtiebpoikhijbgaaCLawsFnEvBent2
import Derived.Test.YtiebpoikhijbgaaVFnEvBentWords
import Derived.Test.YtiebpoikhijbgaaVFnEvBentLast
namespace Go.Proofs.Ytiebpoikhijbgaa.M
open Go.RowKit Go.Proofs.YtiebpoikhijbgaaW.PrintWords Go.Proofs.YtiebpoikhijbgaaW.PrintLast Go.Proofs.YtiebpoikhijbgaaW.PrintMore
attribute [local go_sem] max2_int min2_int max_two min_two max_three min_three max_four min_four
set_option linter.unusedVariables false
set_option linter.unusedSimpArgs false

mutual
def laws_FnEvBent.j0 : Nat → List (S26) → Bool → Option (Bool)
 | 0, _, _ => none
 | k + 1, x3, x38 => if x38 = true then (some false) else ((spec_EvsOk.f k x3).bind fun t115 => (if t115 = true then (laws_FnEvBent.j1 k x3 ((x3.length : Int) == 0)) else (laws_FnEvBent.j1 k x3 true)))
def laws_FnEvBent.j1 : Nat → List (S26) → Bool → Option (Bool)
 | 0, _, _ => none
 | k + 1, x3, x46 => if x46 = true then (some true) else ((some (([] : List (S26)) : List (S26))).bind fun y116 => (if y116.length + x3.length < 5864062014805 then ((some (y116 ++ x3 : List (S26))).bind fun y119 => (if 0 ≤ (wrap64 ((x3.length : Int) - 1)) then (if (wrap64 ((x3.length : Int) - 1)) < (x3.length : Int) then ((some (([(⟨(rd_T26 x3 (wrap64 ((x3.length : Int) - 1))).f0, (rd_T26 x3 (wrap64 ((x3.length : Int) - 1))).f1, (rd_T26 x3 (wrap64 ((x3.length : Int) - 1))).f2⟩ : S26)] : List (S26)) : List (S26))).bind fun y123 => (if y119.length + y123.length < 5864062014805 then ((some (([] : List (S26)) : List (S26))).bind fun y129 => (if y129.length + x3.length < 5864062014805 then ((some (y129 ++ x3 : List (S26))).bind fun y132 => (if 0 < (y132.length : Int) then ((some (([] : List (S26)) : List (S26))).bind fun y136 => (if y136.length + x3.length < 5864062014805 then ((some (y136 ++ x3 : List (S26))).bind fun y139 => (if 0 < (y139.length : Int) then (laws_FnEvBent.l0 k x3 (y119 ++ y123) (y132.set (0 : Int).toNat (⟨5, (rd_T26 y132 0).f1, (rd_T26 y132 0).f2⟩ : S26)) (y139.set (0 : Int).toNat (⟨(rd_T26 y139 0).f0, (rd_T26 y139 0).f1, 101⟩ : S26))) else (none))) else (none))) else (none))) else (none))) else (none))) else (none)) else (none))) else (none)))
def laws_FnEvBent.l0 : Nat → List (S26) → List (S26) → List (S26) → List (S26) → Option (Bool)
 | 0, _, _, _, _ => none
 | k + 1, x3, x6, x7, x8 => if (x6.length : Int) < 25 then (if 0 ≤ (wrap64 ((x6.length : Int) - 1)) then (if (wrap64 ((x6.length : Int) - 1)) < (x6.length : Int) then ((some (([(⟨0, wrap64 (((rd_T26 x6 (wrap64 ((x6.length : Int) - 1))).f1) + 1), 0⟩ : S26)] : List (S26)) : List (S26))).bind fun y144 => (if x6.length + y144.length < 5864062014805 then (laws_FnEvBent.l0 k x3 (x6 ++ y144) x7 x8) else (none))) else (none)) else (none)) else ((impl_EvsOk.f k x6).bind fun t150 => (if t150 = true then (some false) else ((impl_EvsOk.f k x7).bind fun t151 => (if t151 = true then (some false) else ((impl_EvsOk.f k x8).bind fun t152 => (if t152 = true then (some false) else (if 1 ≤ (x3.length : Int) then ((impl_EvsOk.f k (x3.drop 1)).bind fun t157 => (if t157 = true then (if 0 < (x7.length : Int) then ((impl_EvOk.f ((rd_T26 x7 0).f0) ((rd_T26 x7 0).f1) ((rd_T26 x7 0).f2)).bind fun t159 => (if t159 = true then (some false) else (if 0 < (x8.length : Int) then ((impl_EvOk.f ((rd_T26 x8 0).f0) ((rd_T26 x8 0).f1) ((rd_T26 x8 0).f2)).bind fun t161 => (some (!t161))) else (none)))) else (none)) else (some false))) else (none))))))))
end
def laws_FnEvBent.f (k : Nat) (l0 : List Int) : Option (Bool) := if (l0.length : Int) > 1048576 then (some true) else ((spec_DrawEvsOk.f k l0).bind fun t101 => ((spec_DrawEvsSame.f k l0).bind fun bt104 => ((impl_EvsOk.f k t101).bind fun t110 => ((spec_EvsOk.f k t101).bind fun t111 => (if (t110 != t111) = true then (laws_FnEvBent.j0 k t101 true) else ((impl_EvsSame.f k bt104.1 bt104.2).bind fun t112 => ((spec_EvsSame.f k bt104.1 bt104.2).bind fun t113 => (if (t112 != t113) = true then (laws_FnEvBent.j0 k t101 true) else ((impl_EvsSame.f k bt104.1 bt104.1).bind fun t114 => (laws_FnEvBent.j0 k t101 (!t114)))))))))))
theorem laws_FnEvBent.mono_l : ∀ k, (∀ y0 y1, LeO (laws_FnEvBent.j0 k y0 y1) (laws_FnEvBent.j0 (k + 1) y0 y1)) ∧ (∀ y0 y1, LeO (laws_FnEvBent.j1 k y0 y1) (laws_FnEvBent.j1 (k + 1) y0 y1)) ∧ (∀ y0 y1 y2 y3, LeO (laws_FnEvBent.l0 k y0 y1 y2 y3) (laws_FnEvBent.l0 (k + 1) y0 y1 y2 y3))
 | 0 => ⟨fun _ _ r h => by simp [laws_FnEvBent.j0] at h, fun _ _ r h => by simp [laws_FnEvBent.j1] at h, fun _ _ _ _ r h => by simp [laws_FnEvBent.l0] at h⟩
 | k + 1 => by
  obtain ⟨ih0, ih1, ih2⟩ := laws_FnEvBent.mono_l k
  refine ⟨?_, ?_, ?_⟩
  ·intro y0 y1
   unfold laws_FnEvBent.j0
   repeat' first
   | (with_reducible exact ih0 _ _)
   | (with_reducible exact ih1 _ _)
   | (with_reducible exact ih2 _ _ _ _)
   | (with_reducible exact impl_EvsOk.mono _ _)
   | (with_reducible exact impl_EvsSame.mono _ _ _)
   | (with_reducible exact spec_DrawEvsOk.mono _ _)
   | (with_reducible exact spec_DrawEvsSame.mono _ _)
   | (with_reducible exact spec_EvsOk.mono _ _)
   | (with_reducible exact spec_EvsSame.mono _ _ _)
   | (with_reducible exact LeO.refl _)
   | (with_reducible exact LeO.none _)
   | (with_reducible refine LeO.ite ?_ ?_)
   | (with_reducible refine LeO.bind ?_ (fun _ => ?_))
   | exact ih0 _ _
   | exact ih1 _ _
   | exact ih2 _ _ _ _
   | exact impl_EvsOk.mono _ _
   | exact impl_EvsSame.mono _ _ _
   | exact spec_DrawEvsOk.mono _ _
   | exact spec_DrawEvsSame.mono _ _
   | exact spec_EvsOk.mono _ _
   | exact spec_EvsSame.mono _ _ _
   | exact LeO.none _
   | refine LeO.ite ?_ ?_
   | refine LeO.bind ?_ (fun _ => ?_)
  ·intro y0 y1
   unfold laws_FnEvBent.j1
   repeat' first
   | (with_reducible exact ih0 _ _)
   | (with_reducible exact ih1 _ _)
   | (with_reducible exact ih2 _ _ _ _)
   | (with_reducible exact impl_EvsOk.mono _ _)
   | (with_reducible exact impl_EvsSame.mono _ _ _)
   | (with_reducible exact spec_DrawEvsOk.mono _ _)
   | (with_reducible exact spec_DrawEvsSame.mono _ _)
   | (with_reducible exact spec_EvsOk.mono _ _)
   | (with_reducible exact spec_EvsSame.mono _ _ _)
   | (with_reducible exact LeO.refl _)
   | (with_reducible exact LeO.none _)
   | (with_reducible refine LeO.ite ?_ ?_)
   | (with_reducible refine LeO.bind ?_ (fun _ => ?_))
   | exact ih0 _ _
   | exact ih1 _ _
   | exact ih2 _ _ _ _
   | exact impl_EvsOk.mono _ _
   | exact impl_EvsSame.mono _ _ _
   | exact spec_DrawEvsOk.mono _ _
   | exact spec_DrawEvsSame.mono _ _
   | exact spec_EvsOk.mono _ _
   | exact spec_EvsSame.mono _ _ _
   | exact LeO.none _
   | refine LeO.ite ?_ ?_
   | refine LeO.bind ?_ (fun _ => ?_)
  ·intro y0 y1 y2 y3
   unfold laws_FnEvBent.l0
   repeat' first
   | (with_reducible exact ih0 _ _)
   | (with_reducible exact ih1 _ _)
   | (with_reducible exact ih2 _ _ _ _)
   | (with_reducible exact impl_EvsOk.mono _ _)
   | (with_reducible exact impl_EvsSame.mono _ _ _)
   | (with_reducible exact spec_DrawEvsOk.mono _ _)
   | (with_reducible exact spec_DrawEvsSame.mono _ _)
   | (with_reducible exact spec_EvsOk.mono _ _)
   | (with_reducible exact spec_EvsSame.mono _ _ _)
   | (with_reducible exact LeO.refl _)
   | (with_reducible exact LeO.none _)
   | (with_reducible refine LeO.ite ?_ ?_)
   | (with_reducible refine LeO.bind ?_ (fun _ => ?_))
   | exact ih0 _ _
   | exact ih1 _ _
   | exact ih2 _ _ _ _
   | exact impl_EvsOk.mono _ _
   | exact impl_EvsSame.mono _ _ _
   | exact spec_DrawEvsOk.mono _ _
   | exact spec_DrawEvsSame.mono _ _
   | exact spec_EvsOk.mono _ _
   | exact spec_EvsSame.mono _ _ _
   | exact LeO.none _
   | refine LeO.ite ?_ ?_
   | refine LeO.bind ?_ (fun _ => ?_)
theorem laws_FnEvBent.mono : ∀ a0 k, LeO (laws_FnEvBent.f k a0) (laws_FnEvBent.f (k + 1) a0) := by
 intro a0 k
 obtain ⟨ih0, ih1, ih2⟩ := laws_FnEvBent.mono_l k
 unfold laws_FnEvBent.f
 repeat' first
   | (with_reducible exact ih0 _ _)
   | (with_reducible exact ih1 _ _)
   | (with_reducible exact ih2 _ _ _ _)
   | (with_reducible exact impl_EvsOk.mono _ _)
   | (with_reducible exact impl_EvsSame.mono _ _ _)
   | (with_reducible exact spec_DrawEvsOk.mono _ _)
   | (with_reducible exact spec_DrawEvsSame.mono _ _)
   | (with_reducible exact spec_EvsOk.mono _ _)
   | (with_reducible exact spec_EvsSame.mono _ _ _)
   | (with_reducible exact LeO.refl _)
   | (with_reducible exact LeO.none _)
   | (with_reducible refine LeO.ite ?_ ?_)
   | (with_reducible refine LeO.bind ?_ (fun _ => ?_))
   | exact ih0 _ _
   | exact ih1 _ _
   | exact ih2 _ _ _ _
   | exact impl_EvsOk.mono _ _
   | exact impl_EvsSame.mono _ _ _
   | exact spec_DrawEvsOk.mono _ _
   | exact spec_DrawEvsSame.mono _ _
   | exact spec_EvsOk.mono _ _
   | exact spec_EvsSame.mono _ _ _
   | exact LeO.none _
   | refine LeO.ite ?_ ?_
   | refine LeO.bind ?_ (fun _ => ?_)
def laws_FnEvBent.T9 : Bool × List (List Nat × List Nat) := (true, [([], []), ([], []), ([0, 1], [0, 1]), ([], []), ([], []), ([4], [4]), ([5], [5]), ([3, 6], [3, 6]), ([7], [7]), ([8], [8]), ([2, 9, 2], [2, 9]), ([10, 10, 0, 1, 2, 3, 4, 5, 6, 7, 8, 9, 10], [10])])
def laws_FnEvBent.B9 : List Nat := [0, 0, 3, 0, 0, 16, 48, 120, 248, 504, 1023, 2047]
theorem laws_FnEvBent.tab9 : rtab .any (opsOf Try.f8 9) = laws_FnEvBent.T9 := by kernel_rfl
theorem laws_FnEvBent.bits9 : waitsOk laws_FnEvBent.T9.2 laws_FnEvBent.B9 = true := by kernel_rfl
set_option maxHeartbeats 8000000 in
set_option maxRecDepth 100000 in
theorem laws_FnEvBent.calls (k : Nat) (A0 : Option Addr) (c0 : Nat) (l0 : List Int) (r : Bool) (w : World) (hr0 : Kd.C (Kd.int .u8) w A0 l0.length l0) (hc0 : l0.length ≤ c0) (h : laws_FnEvBent.f k l0 = some r) :
  Calls Try.prog 8 #[.slice A0 l0.length c0] w fun e w' => e = .returned (.bool r) ∧ Below w.heap.size w w' := by
 have hu26 := Try.underlying26
 have HR0 := Aside0.mk hr0
 have HC0 := Aside0.mk hc0
 clear hr0 hc0
 have HB := Aside0.mk (Below.refl w.heap.size w)
 have H : (if (l0.length : Int) > 1048576 then (some true) else ((spec_DrawEvsOk.f k l0).bind fun t101 => ((spec_DrawEvsSame.f k l0).bind fun bt104 => ((impl_EvsOk.f k t101).bind fun t110 => ((spec_EvsOk.f k t101).bind fun t111 => (if (t110 != t111) = true then (laws_FnEvBent.j0 k t101 true) else ((impl_EvsSame.f k bt104.1 bt104.2).bind fun t112 => ((spec_EvsSame.f k bt104.1 bt104.2).bind fun t113 => (if (t112 != t113) = true then (laws_FnEvBent.j0 k t101 true) else ((impl_EvsSame.f k bt104.1 bt104.1).bind fun t114 => (laws_FnEvBent.j0 k t101 (!t114)))))))))))) = some r := h
 clear h
 by_cases c2 : (l0.length : Int) > 1048576
 ·rw [if_pos c2] at H
  have c2b0 : decide (1048576 < (l0.length : Int)) = true := decide_eq_true c2
  have c2b1 : decide (1048576 < l0.length) = true := decide_eq_true (by omega)
  clear c2
  obtain rfl := Option.some.inj H
  go_enter Try.func8, Try.ntmps8
  go_wp2
  go_ret
  exact ⟨by first | rfl | (simp [errW_none, errW_some] <;> rfl) | (simp [*, errW_none, errW_some] <;> rfl), by repeat (first | (with_reducible first | exact HB.out | apply below_alloc | apply pw_below_drewN | apply below_drew1) | exact HB.out)⟩
 ·rw [if_neg c2] at H
  have c2b0 : decide (1048576 < (l0.length : Int)) = false := decide_eq_false c2
  have c2b1 : decide (1048576 < l0.length) = false := decide_eq_false (by omega)
  clear c2
  replace H := Option.bind_eq_some_iff.mp H
  obtain ⟨t101, A30, H⟩ := H
  replace H : ((spec_DrawEvsSame.f k l0).bind fun bt104 => ((impl_EvsOk.f k t101).bind fun t110 => ((spec_EvsOk.f k t101).bind fun t111 => (if (t110 != t111) = true then (laws_FnEvBent.j0 k t101 true) else ((impl_EvsSame.f k bt104.1 bt104.2).bind fun t112 => ((spec_EvsSame.f k bt104.1 bt104.2).bind fun t113 => (if (t112 != t113) = true then (laws_FnEvBent.j0 k t101 true) else ((impl_EvsSame.f k bt104.1 bt104.1).bind fun t114 => (laws_FnEvBent.j0 k t101 (!t114)))))))))) = some r := H
  have A3 := Aside0.mk A30
  clear A30
  replace H := Option.bind_eq_some_iff.mp H
  obtain ⟨⟨t104, t105⟩, A40, H⟩ := H
  replace H : ((impl_EvsOk.f k t101).bind fun t110 => ((spec_EvsOk.f k t101).bind fun t111 => (if (t110 != t111) = true then (laws_FnEvBent.j0 k t101 true) else ((impl_EvsSame.f k t104 t105).bind fun t112 => ((spec_EvsSame.f k t104 t105).bind fun t113 => (if (t112 != t113) = true then (laws_FnEvBent.j0 k t101 true) else ((impl_EvsSame.f k t104 t104).bind fun t114 => (laws_FnEvBent.j0 k t101 (!t114))))))))) = some r := H
  have A4 := Aside0.mk A40
  clear A40
  have HC5 := Aside0.mk H
  clear H
  go_enter Try.func8, Try.ntmps8
  go_upto_region 5 with (first | ((with_reducible refine gate_callee (f := 24) rfl ?_);refine goesL_ (some 13) rfl rfl Try.func24 (by kernel_rfl) rfl #[.slice A0 l0.length c0] rfl (by (try simp only [List.map_toArray, List.map_cons, List.map_nil]);first | done | rfl | (simp only [List.length_drop, List.length_take];rfl)) ?_;(with_reducible refine (spec_DrawEvsOk.calls k _ _ l0 t101 _ ?side1 ?side2 A3.out).mono ?_);(case side1 => repeat (first | exact HR0.out | (with_reducible refine Kd.C_alloc ?_ _) | (with_reducible refine Kd.C_drewN ?_ _) | (with_reducible refine Kd.C_drew ?_)));(case side2 => exact HC0.out);rintro e w6 ⟨v102, rfl, ho0, hb⟩;refine ⟨_, rfl, ?_⟩;have n0_ := Aside0.mk (Kd.R_lower ho0 (below_size (by exact HB.out)));have n1_ := Aside0.mk (below_step (by exact HB.out) hb);clear HB;have HO103 := n0_;have HB := n1_;clear n0_ n1_;(try clear hb);(try clear hb2);(try clear hk);(try clear hi);(try clear ho0)) | ((with_reducible refine gate_callee (f := 25) rfl ?_);refine goesL_ (some 16) rfl rfl Try.func25 (by kernel_rfl) rfl #[.slice A0 l0.length c0] rfl (by (try simp only [List.map_toArray, List.map_cons, List.map_nil]);first | done | rfl | (simp only [List.length_drop, List.length_take];rfl)) ?_;(with_reducible refine (spec_DrawEvsSame.calls k _ _ l0 t104 t105 _ ?side1 ?side2 A4.out).mono ?_);(case side1 => repeat (first | exact (Kd.C_below HR0.out HB.out) | (with_reducible refine Kd.C_alloc ?_ _) | (with_reducible refine Kd.C_drewN ?_ _) | (with_reducible refine Kd.C_drew ?_)));(case side2 => exact HC0.out);rintro e w7 ⟨v106, v108, rfl, ho0, ho1, hb⟩;refine ⟨_, rfl, ?_⟩;have n0_ := Aside0.mk (Kd.R_mono (Kd.R_told (Kd.R_told (Kd.R_old (by (with_reducible repeat (first | apply Kd.R_alloc | apply Kd.R_drewN | apply Kd.R_drew));exact HO103.out) hb) (Kd.R_base ho0)) (Kd.R_base ho1)) (fun _ h_ => h_.1));have n1_ := Aside0.mk (Kd.R_lower (Kd.R_new' ho0 (Kd.R_lt (by (with_reducible repeat (first | apply Kd.R_alloc | apply Kd.R_drewN | apply Kd.R_drew));exact HO103.out))) (below_size (by exact HB.out)));have n2_ := Aside0.mk (Kd.R_lower (Kd.R_new' ho1 (Kd.R_lt (by (with_reducible repeat (first | apply Kd.R_alloc | apply Kd.R_drewN | apply Kd.R_drew));exact HO103.out))) (below_size (by exact HB.out)));have n3_ := Aside0.mk (below_step (by exact HB.out) hb);clear HO103;clear HB;have HO103 := n0_;have HO107 := n1_;have HO109 := n2_;have HB := n3_;clear n0_ n1_ n2_ n3_;(try clear hb);(try clear hb2);(try clear hk);(try clear hi);(try clear ho0);(try clear ho1)))
  (try simp only [Act.put, List.setIfInBounds_toArray, List.set_cons_zero, List.set_cons_succ])
  go_cut [38] (fun v38 wc => ∃ (kq : Nat) (x38_4 : Bool), v38 = .bool x38_4 ∧ Aside0 (laws_FnEvBent.j0 kq t101 x38_4 = some r) ∧ Aside0 (kq ≤ k) ∧ Aside0 (Kd.R k26 26 wc w.heap.size (fun _ => True) v102 t101) ∧ Aside0 (Below w.heap.size w wc))
  case first =>
   have H := HC5.out
   clear HC5
   replace H := Option.bind_eq_some_iff.mp H
   obtain ⟨t110, A80, H⟩ := H
   replace H : ((spec_EvsOk.f k t101).bind fun t111 => (if (t110 != t111) = true then (laws_FnEvBent.j0 k t101 true) else ((impl_EvsSame.f k t104 t105).bind fun t112 => ((spec_EvsSame.f k t104 t105).bind fun t113 => (if (t112 != t113) = true then (laws_FnEvBent.j0 k t101 true) else ((impl_EvsSame.f k t104 t104).bind fun t114 => (laws_FnEvBent.j0 k t101 (!t114)))))))) = some r := H
   have A8 := Aside0.mk A80
   clear A80
   replace H := Option.bind_eq_some_iff.mp H
   obtain ⟨t111, A90, H⟩ := H
   replace H : (if (t110 != t111) = true then (laws_FnEvBent.j0 k t101 true) else ((impl_EvsSame.f k t104 t105).bind fun t112 => ((spec_EvsSame.f k t104 t105).bind fun t113 => (if (t112 != t113) = true then (laws_FnEvBent.j0 k t101 true) else ((impl_EvsSame.f k t104 t104).bind fun t114 => (laws_FnEvBent.j0 k t101 (!t114))))))) = some r := H
   have A9 := Aside0.mk A90
   clear A90
   by_cases c10 : (t110 != t111) = true
   ·rw [if_pos c10] at H
    have c10b0 : (t110 != t111) = true := c10
    (try (have c10b1 : decide (t110 = t111) = false := by simpa using c10))
    (try (have c10b2 : (t110 == t111) = false := by simpa using c10))
    (try (have c10b3 : ¬ (t110 = t111) := by simpa using c10))
    clear c10
    (first | rw [c10b0] | (simp only [i64_w, i32_w];rw [c10b0]) | skip)
    have H' := Aside0.mk H
    clear H
    obtain ⟨Ao11, co11, eo11⟩ := Kd.R_slice HO103.out
    subst eo11
    go_wp2_with (first | ((with_reducible refine gate_callee (f := 19) rfl ?_);refine goesL_ (some 20) rfl rfl Try.func19 (by kernel_rfl) rfl #[.slice Ao11 t101.length co11] rfl (by (try simp only [List.map_toArray, List.map_cons, List.map_nil]);first | done | rfl | (simp only [List.length_drop, List.length_take];rfl)) ?_;(with_reducible refine (impl_EvsOk.calls k _ _ t101 t110 _ ?side1 ?side2 A8.out).mono ?_);(case side1 => repeat (first | exact (Kd.R_reads' HO103.out).2.2 | (with_reducible refine Kd.C_alloc ?_ _) | (with_reducible refine Kd.C_drewN ?_ _) | (with_reducible refine Kd.C_drew ?_)));(case side2 => exact (Kd.R_reads' HO103.out).2.1);rintro e w12 ⟨rfl, hb⟩;refine ⟨_, rfl, ?_⟩;have n0_ := Aside0.mk (Kd.R_below (by (with_reducible repeat (first | apply Kd.R_alloc | apply Kd.R_drewN | apply Kd.R_drew));exact HO103.out) hb);have n1_ := Aside0.mk (Kd.R_below (by (with_reducible repeat (first | apply Kd.R_alloc | apply Kd.R_drewN | apply Kd.R_drew));exact HO107.out) hb);have n2_ := Aside0.mk (Kd.R_below (by (with_reducible repeat (first | apply Kd.R_alloc | apply Kd.R_drewN | apply Kd.R_drew));exact HO109.out) hb);have n3_ := Aside0.mk (below_step (by exact HB.out) hb);clear HO103;clear HO107;clear HO109;clear HB;have HO103 := n0_;have HO107 := n1_;have HO109 := n2_;have HB := n3_;clear n0_ n1_ n2_ n3_;(try clear hb);(try clear hb2);(try clear hk);(try clear hi)) | ((with_reducible refine gate_callee (f := 18) rfl ?_);refine goesL_ (some 22) rfl rfl Try.func18 (by kernel_rfl) rfl #[.slice Ao11 t101.length co11] rfl (by (try simp only [List.map_toArray, List.map_cons, List.map_nil]);first | done | rfl | (simp only [List.length_drop, List.length_take];rfl)) ?_;(with_reducible refine (spec_EvsOk.calls k _ _ t101 t111 _ ?side1 ?side2 A9.out).mono ?_);(case side1 => repeat (first | exact (Kd.R_reads' HO103.out).2.2 | (with_reducible refine Kd.C_alloc ?_ _) | (with_reducible refine Kd.C_drewN ?_ _) | (with_reducible refine Kd.C_drew ?_)));(case side2 => exact (Kd.R_reads' HO103.out).2.1);rintro e w13 ⟨rfl, hb⟩;refine ⟨_, rfl, ?_⟩;have n0_ := Aside0.mk (Kd.R_below (by (with_reducible repeat (first | apply Kd.R_alloc | apply Kd.R_drewN | apply Kd.R_drew));exact HO103.out) hb);have n1_ := Aside0.mk (Kd.R_below (by (with_reducible repeat (first | apply Kd.R_alloc | apply Kd.R_drewN | apply Kd.R_drew));exact HO107.out) hb);have n2_ := Aside0.mk (Kd.R_below (by (with_reducible repeat (first | apply Kd.R_alloc | apply Kd.R_drewN | apply Kd.R_drew));exact HO109.out) hb);have n3_ := Aside0.mk (below_step (by exact HB.out) hb);clear HO103;clear HO107;clear HO109;clear HB;have HO103 := n0_;have HO107 := n1_;have HO109 := n2_;have HB := n3_;clear n0_ n1_ n2_ n3_;(try clear hb);(try clear hb2);(try clear hk);(try clear hi)))
    go_meet
    case rel => exact ⟨_, (true), (by first | rfl | (simp;done) | (simp [*];done)), H', ⟨by first | omega | exact Nat.le_refl _⟩, ⟨by (with_reducible repeat (first | apply Kd.R_alloc | apply Kd.R_drewN | apply Kd.R_drew));exact Kd.R_mono HO103.out (fun _ hk => trivial)⟩, ⟨by repeat (first | (with_reducible first | exact HB.out | apply below_alloc | apply pw_below_drewN | apply below_drew1) | exact HB.out)⟩⟩
   ·rw [if_neg c10] at H
    have c10b0 : (t110 != t111) = false := by simpa using c10
    (try (have c10b1 : decide (t110 = t111) = true := by simpa using c10))
    (try (have c10b2 : (t110 == t111) = true := by simpa using c10))
    clear c10
    (first | rw [c10b0] | (simp only [i64_w, i32_w];rw [c10b0]) | skip)
    replace H := Option.bind_eq_some_iff.mp H
    obtain ⟨t112, A140, H⟩ := H
    replace H : ((spec_EvsSame.f k t104 t105).bind fun t113 => (if (t112 != t113) = true then (laws_FnEvBent.j0 k t101 true) else ((impl_EvsSame.f k t104 t104).bind fun t114 => (laws_FnEvBent.j0 k t101 (!t114))))) = some r := H
    have A14 := Aside0.mk A140
    clear A140
    replace H := Option.bind_eq_some_iff.mp H
    obtain ⟨t113, A150, H⟩ := H
    replace H : (if (t112 != t113) = true then (laws_FnEvBent.j0 k t101 true) else ((impl_EvsSame.f k t104 t104).bind fun t114 => (laws_FnEvBent.j0 k t101 (!t114)))) = some r := H
    have A15 := Aside0.mk A150
    clear A150
    by_cases c16 : (t112 != t113) = true
    ·rw [if_pos c16] at H
     have c16b0 : (t112 != t113) = true := c16
     (try (have c16b1 : decide (t112 = t113) = false := by simpa using c16))
     (try (have c16b2 : (t112 == t113) = false := by simpa using c16))
     (try (have c16b3 : ¬ (t112 = t113) := by simpa using c16))
     clear c16
     have H' := Aside0.mk H
     clear H
     obtain ⟨Ao17, co17, eo17⟩ := Kd.R_slice HO103.out
     subst eo17
     go_wp2_with (first | ((with_reducible refine gate_callee (f := 19) rfl ?_);refine goesL_ (some 20) rfl rfl Try.func19 (by kernel_rfl) rfl #[.slice Ao17 t101.length co17] rfl (by (try simp only [List.map_toArray, List.map_cons, List.map_nil]);first | done | rfl | (simp only [List.length_drop, List.length_take];rfl)) ?_;(with_reducible refine (impl_EvsOk.calls k _ _ t101 t110 _ ?side1 ?side2 A8.out).mono ?_);(case side1 => repeat (first | exact (Kd.R_reads' HO103.out).2.2 | (with_reducible refine Kd.C_alloc ?_ _) | (with_reducible refine Kd.C_drewN ?_ _) | (with_reducible refine Kd.C_drew ?_)));(case side2 => exact (Kd.R_reads' HO103.out).2.1);rintro e w18 ⟨rfl, hb⟩;refine ⟨_, rfl, ?_⟩;have n0_ := Aside0.mk (Kd.R_below (by (with_reducible repeat (first | apply Kd.R_alloc | apply Kd.R_drewN | apply Kd.R_drew));exact HO103.out) hb);have n1_ := Aside0.mk (Kd.R_below (by (with_reducible repeat (first | apply Kd.R_alloc | apply Kd.R_drewN | apply Kd.R_drew));exact HO107.out) hb);have n2_ := Aside0.mk (Kd.R_below (by (with_reducible repeat (first | apply Kd.R_alloc | apply Kd.R_drewN | apply Kd.R_drew));exact HO109.out) hb);have n3_ := Aside0.mk (below_step (by exact HB.out) hb);clear HO103;clear HO107;clear HO109;clear HB;have HO103 := n0_;have HO107 := n1_;have HO109 := n2_;have HB := n3_;clear n0_ n1_ n2_ n3_;(try clear hb);(try clear hb2);(try clear hk);(try clear hi)) | ((with_reducible refine gate_callee (f := 18) rfl ?_);refine goesL_ (some 22) rfl rfl Try.func18 (by kernel_rfl) rfl #[.slice Ao17 t101.length co17] rfl (by (try simp only [List.map_toArray, List.map_cons, List.map_nil]);first | done | rfl | (simp only [List.length_drop, List.length_take];rfl)) ?_;(with_reducible refine (spec_EvsOk.calls k _ _ t101 t111 _ ?side1 ?side2 A9.out).mono ?_);(case side1 => repeat (first | exact (Kd.R_reads' HO103.out).2.2 | (with_reducible refine Kd.C_alloc ?_ _) | (with_reducible refine Kd.C_drewN ?_ _) | (with_reducible refine Kd.C_drew ?_)));(case side2 => exact (Kd.R_reads' HO103.out).2.1);rintro e w19 ⟨rfl, hb⟩;refine ⟨_, rfl, ?_⟩;have n0_ := Aside0.mk (Kd.R_below (by (with_reducible repeat (first | apply Kd.R_alloc | apply Kd.R_drewN | apply Kd.R_drew));exact HO103.out) hb);have n1_ := Aside0.mk (Kd.R_below (by (with_reducible repeat (first | apply Kd.R_alloc | apply Kd.R_drewN | apply Kd.R_drew));exact HO107.out) hb);have n2_ := Aside0.mk (Kd.R_below (by (with_reducible repeat (first | apply Kd.R_alloc | apply Kd.R_drewN | apply Kd.R_drew));exact HO109.out) hb);have n3_ := Aside0.mk (below_step (by exact HB.out) hb);clear HO103;clear HO107;clear HO109;clear HB;have HO103 := n0_;have HO107 := n1_;have HO109 := n2_;have HB := n3_;clear n0_ n1_ n2_ n3_;(try clear hb);(try clear hb2);(try clear hk);(try clear hi);obtain ⟨Ao20, co20, eo20⟩ := Kd.R_slice HO107.out;subst eo20;obtain ⟨Ao21, co21, eo21⟩ := Kd.R_slice HO109.out;subst eo21) | (go_at_call 16;(with_reducible refine (impl_EvsSame.calls k _ _ t104 _ _ t105 t112 _ ?side1 ?side2 ?side3 ?side4 A14.out).mono ?_);(case side1 => repeat (first | exact (Kd.R_reads' HO107.out).2.2 | (with_reducible refine Kd.C_alloc ?_ _) | (with_reducible refine Kd.C_drewN ?_ _) | (with_reducible refine Kd.C_drew ?_)));(case side2 => exact (Kd.R_reads' HO107.out).2.1);(case side3 => repeat (first | exact (Kd.R_reads' HO109.out).2.2 | (with_reducible refine Kd.C_alloc ?_ _) | (with_reducible refine Kd.C_drewN ?_ _) | (with_reducible refine Kd.C_drew ?_)));(case side4 => exact (Kd.R_reads' HO109.out).2.1);rintro e w' ⟨rfl, ⟨nd, rfl⟩⟩) | (go_at_call 14;(with_reducible refine (spec_EvsSame.calls k _ _ t104 _ _ t105 t113 _ ?side1 ?side2 ?side3 ?side4 A15.out).mono ?_);(case side1 => repeat (first | exact (Kd.R_reads' HO107.out).2.2 | (with_reducible refine Kd.C_alloc ?_ _) | (with_reducible refine Kd.C_drewN ?_ _) | (with_reducible refine Kd.C_drew ?_)));(case side2 => exact (Kd.R_reads' HO107.out).2.1);(case side3 => repeat (first | exact (Kd.R_reads' HO109.out).2.2 | (with_reducible refine Kd.C_alloc ?_ _) | (with_reducible refine Kd.C_drewN ?_ _) | (with_reducible refine Kd.C_drew ?_)));(case side4 => exact (Kd.R_reads' HO109.out).2.1);rintro e w' ⟨rfl, ⟨nd, rfl⟩⟩))
     go_meet
     case rel => exact ⟨_, (true), (by first | rfl | (simp;done) | (simp [*];done)), H', ⟨by first | omega | exact Nat.le_refl _⟩, ⟨by (with_reducible repeat (first | apply Kd.R_alloc | apply Kd.R_drewN | apply Kd.R_drew));exact Kd.R_mono HO103.out (fun _ hk => trivial)⟩, ⟨by repeat (first | (with_reducible first | exact HB.out | apply below_alloc | apply pw_below_drewN | apply below_drew1) | exact HB.out)⟩⟩
    ·rw [if_neg c16] at H
     have c16b0 : (t112 != t113) = false := by simpa using c16
     (try (have c16b1 : decide (t112 = t113) = true := by simpa using c16))
     (try (have c16b2 : (t112 == t113) = true := by simpa using c16))
     clear c16
     replace H := Option.bind_eq_some_iff.mp H
     obtain ⟨t114, A220, H⟩ := H
     replace H : (laws_FnEvBent.j0 k t101 (!t114)) = some r := H
     have A22 := Aside0.mk A220
     clear A220
     have H' := Aside0.mk H
     clear H
     obtain ⟨Ao23, co23, eo23⟩ := Kd.R_slice HO103.out
     subst eo23
     go_wp2_with (first | ((with_reducible refine gate_callee (f := 19) rfl ?_);refine goesL_ (some 20) rfl rfl Try.func19 (by kernel_rfl) rfl #[.slice Ao23 t101.length co23] rfl (by (try simp only [List.map_toArray, List.map_cons, List.map_nil]);first | done | rfl | (simp only [List.length_drop, List.length_take];rfl)) ?_;(with_reducible refine (impl_EvsOk.calls k _ _ t101 t110 _ ?side1 ?side2 A8.out).mono ?_);(case side1 => repeat (first | exact (Kd.R_reads' HO103.out).2.2 | (with_reducible refine Kd.C_alloc ?_ _) | (with_reducible refine Kd.C_drewN ?_ _) | (with_reducible refine Kd.C_drew ?_)));(case side2 => exact (Kd.R_reads' HO103.out).2.1);rintro e w24 ⟨rfl, hb⟩;refine ⟨_, rfl, ?_⟩;have n0_ := Aside0.mk (Kd.R_below (by (with_reducible repeat (first | apply Kd.R_alloc | apply Kd.R_drewN | apply Kd.R_drew));exact HO103.out) hb);have n1_ := Aside0.mk (Kd.R_below (by (with_reducible repeat (first | apply Kd.R_alloc | apply Kd.R_drewN | apply Kd.R_drew));exact HO107.out) hb);have n2_ := Aside0.mk (Kd.R_below (by (with_reducible repeat (first | apply Kd.R_alloc | apply Kd.R_drewN | apply Kd.R_drew));exact HO109.out) hb);have n3_ := Aside0.mk (below_step (by exact HB.out) hb);clear HO103;clear HO107;clear HO109;clear HB;have HO103 := n0_;have HO107 := n1_;have HO109 := n2_;have HB := n3_;clear n0_ n1_ n2_ n3_;(try clear hb);(try clear hb2);(try clear hk);(try clear hi)) | ((with_reducible refine gate_callee (f := 18) rfl ?_);refine goesL_ (some 22) rfl rfl Try.func18 (by kernel_rfl) rfl #[.slice Ao23 t101.length co23] rfl (by (try simp only [List.map_toArray, List.map_cons, List.map_nil]);first | done | rfl | (simp only [List.length_drop, List.length_take];rfl)) ?_;(with_reducible refine (spec_EvsOk.calls k _ _ t101 t111 _ ?side1 ?side2 A9.out).mono ?_);(case side1 => repeat (first | exact (Kd.R_reads' HO103.out).2.2 | (with_reducible refine Kd.C_alloc ?_ _) | (with_reducible refine Kd.C_drewN ?_ _) | (with_reducible refine Kd.C_drew ?_)));(case side2 => exact (Kd.R_reads' HO103.out).2.1);rintro e w25 ⟨rfl, hb⟩;refine ⟨_, rfl, ?_⟩;have n0_ := Aside0.mk (Kd.R_below (by (with_reducible repeat (first | apply Kd.R_alloc | apply Kd.R_drewN | apply Kd.R_drew));exact HO103.out) hb);have n1_ := Aside0.mk (Kd.R_below (by (with_reducible repeat (first | apply Kd.R_alloc | apply Kd.R_drewN | apply Kd.R_drew));exact HO107.out) hb);have n2_ := Aside0.mk (Kd.R_below (by (with_reducible repeat (first | apply Kd.R_alloc | apply Kd.R_drewN | apply Kd.R_drew));exact HO109.out) hb);have n3_ := Aside0.mk (below_step (by exact HB.out) hb);clear HO103;clear HO107;clear HO109;clear HB;have HO103 := n0_;have HO107 := n1_;have HO109 := n2_;have HB := n3_;clear n0_ n1_ n2_ n3_;(try clear hb);(try clear hb2);(try clear hk);(try clear hi);obtain ⟨Ao26, co26, eo26⟩ := Kd.R_slice HO107.out;subst eo26;obtain ⟨Ao27, co27, eo27⟩ := Kd.R_slice HO109.out;subst eo27) | (go_at_call 16;(with_reducible refine (impl_EvsSame.calls k _ _ t104 _ _ t105 t112 _ ?side1 ?side2 ?side3 ?side4 A14.out).mono ?_);(case side1 => repeat (first | exact (Kd.R_reads' HO107.out).2.2 | (with_reducible refine Kd.C_alloc ?_ _) | (with_reducible refine Kd.C_drewN ?_ _) | (with_reducible refine Kd.C_drew ?_)));(case side2 => exact (Kd.R_reads' HO107.out).2.1);(case side3 => repeat (first | exact (Kd.R_reads' HO109.out).2.2 | (with_reducible refine Kd.C_alloc ?_ _) | (with_reducible refine Kd.C_drewN ?_ _) | (with_reducible refine Kd.C_drew ?_)));(case side4 => exact (Kd.R_reads' HO109.out).2.1);rintro e w' ⟨rfl, ⟨nd, rfl⟩⟩) | (go_at_call 14;(with_reducible refine (spec_EvsSame.calls k _ _ t104 _ _ t105 t113 _ ?side1 ?side2 ?side3 ?side4 A15.out).mono ?_);(case side1 => repeat (first | exact (Kd.R_reads' HO107.out).2.2 | (with_reducible refine Kd.C_alloc ?_ _) | (with_reducible refine Kd.C_drewN ?_ _) | (with_reducible refine Kd.C_drew ?_)));(case side2 => exact (Kd.R_reads' HO107.out).2.1);(case side3 => repeat (first | exact (Kd.R_reads' HO109.out).2.2 | (with_reducible refine Kd.C_alloc ?_ _) | (with_reducible refine Kd.C_drewN ?_ _) | (with_reducible refine Kd.C_drew ?_)));(case side4 => exact (Kd.R_reads' HO109.out).2.1);rintro e w' ⟨rfl, ⟨nd, rfl⟩⟩) | (go_at_call 16;(with_reducible refine (impl_EvsSame.calls k _ _ t104 _ _ t104 t114 _ ?side1 ?side2 ?side3 ?side4 A22.out).mono ?_);(case side1 => repeat (first | exact (Kd.R_reads' HO107.out).2.2 | (with_reducible refine Kd.C_alloc ?_ _) | (with_reducible refine Kd.C_drewN ?_ _) | (with_reducible refine Kd.C_drew ?_)));(case side2 => exact (Kd.R_reads' HO107.out).2.1);(case side3 => repeat (first | exact (Kd.R_reads' HO107.out).2.2 | (with_reducible refine Kd.C_alloc ?_ _) | (with_reducible refine Kd.C_drewN ?_ _) | (with_reducible refine Kd.C_drew ?_)));(case side4 => exact (Kd.R_reads' HO107.out).2.1);rintro e w' ⟨rfl, ⟨nd, rfl⟩⟩))
     go_meet
     case rel => exact ⟨_, (!t114), (by first | rfl | (simp;done) | (simp [*];done)), H', ⟨by first | omega | exact Nat.le_refl _⟩, ⟨by (with_reducible repeat (first | apply Kd.R_alloc | apply Kd.R_drewN | apply Kd.R_drew));exact Kd.R_mono HO103.out (fun _ hk => trivial)⟩, ⟨by repeat (first | (with_reducible first | exact HB.out | apply below_alloc | apply pw_below_drewN | apply below_drew1) | exact HB.out)⟩⟩
  case rest =>
   clear HC5
   try clear c1
   try clear c2
   try clear c2b0
   try clear c2b1
   try clear p2
   try clear c8
   try clear c10
   try clear c10b0
   try clear c10b1
   try clear c10b2
   try clear c16
   try clear c16b0
   try clear c16b1
   try clear c16b2
   try clear c18
   try clear c19
   try clear c24
   try clear c25
   obtain ⟨kq, x38_4, rfl, HA, HJ4, HO_3, HB⟩ := hcut
   cases kq with
   | zero => exact absurd HA.out (by simp [laws_FnEvBent.j0])
   | succ kj4 =>
    have H := HA.out
    clear HA
    simp only [laws_FnEvBent.j0] at H
    by_cases c28 : x38_4 = true
    ·subst c28
     have H1 : (some false) = some r := by rw [if_pos rfl] at H;exact H
     clear H
     have H := H1
     clear H1
     obtain rfl := Option.some.inj H
     go_wp2
     go_ret
     exact ⟨by first | rfl | (simp [errW_none, errW_some] <;> rfl) | (simp [*, errW_none, errW_some] <;> rfl), by repeat (first | (with_reducible first | exact HB.out | apply below_alloc | apply pw_below_drewN | apply below_drew1) | exact HB.out)⟩
    ·replace c28 := Bool.eq_false_iff.mpr c28
     subst c28
     have H1 : ((spec_EvsOk.f kj4 t101).bind fun t115 => (if t115 = true then (laws_FnEvBent.j1 kj4 t101 ((t101.length : Int) == 0)) else (laws_FnEvBent.j1 kj4 t101 true))) = some r := by rw [if_neg (show ¬ (false = true) by decide)] at H;exact H
     clear H
     have H := H1
     clear H1
     have HC29 := Aside0.mk H
     clear H
     go_upto_region 7 with (fail)
     go_cut [46] (fun v46 wc => ∃ (kq : Nat) (x46_28 : Bool), v46 = .bool x46_28 ∧ Aside0 (laws_FnEvBent.j1 kq t101 x46_28 = some r) ∧ Aside0 (kq ≤ kj4) ∧ Aside0 (Kd.R k26 26 wc w.heap.size (fun _ => True) v102 t101) ∧ Aside0 (Below w.heap.size w wc))
     case first =>
      have H := HC29.out
      clear HC29
      replace H := Option.bind_eq_some_iff.mp H
      obtain ⟨t115, A300, H⟩ := H
      replace H : (if t115 = true then (laws_FnEvBent.j1 kj4 t101 ((t101.length : Int) == 0)) else (laws_FnEvBent.j1 kj4 t101 true)) = some r := H
      have A30 := Aside0.mk A300
      clear A300
      by_cases c31 : t115 = true
      ·subst c31
       have H1 : (laws_FnEvBent.j1 kj4 t101 ((t101.length : Int) == 0)) = some r := by rw [if_pos rfl] at H;exact H
       clear H
       have H := H1
       clear H1
       have H' := Aside0.mk H
       clear H
       obtain ⟨Ao32, co32, eo32⟩ := Kd.R_slice HO_3.out
       subst eo32
       go_wp2_with (first | ((with_reducible refine gate_callee (f := 18) rfl ?_);refine goesL_ (some 40) rfl rfl Try.func18 (by kernel_rfl) rfl #[.slice Ao32 t101.length co32] rfl (by (try simp only [List.map_toArray, List.map_cons, List.map_nil]);first | done | rfl | (simp only [List.length_drop, List.length_take];rfl)) ?_;(with_reducible refine (spec_EvsOk.calls kj4 _ _ t101 true _ ?side1 ?side2 A30.out).mono ?_);(case side1 => repeat (first | exact (Kd.R_reads' HO_3.out).2.2 | (with_reducible refine Kd.C_alloc ?_ _) | (with_reducible refine Kd.C_drewN ?_ _) | (with_reducible refine Kd.C_drew ?_)));(case side2 => exact (Kd.R_reads' HO_3.out).2.1);rintro e w33 ⟨rfl, hb⟩;refine ⟨_, rfl, ?_⟩;have n0_ := Aside0.mk (Kd.R_below (by (with_reducible repeat (first | apply Kd.R_alloc | apply Kd.R_drewN | apply Kd.R_drew));exact HO_3.out) hb);have n1_ := Aside0.mk (below_step (by exact HB.out) hb);clear HO_3;clear HB;have HO_3 := n0_;have HB := n1_;clear n0_ n1_;(try clear hb);(try clear hb2);(try clear hk);(try clear hi)))
       go_meet
       case rel => exact ⟨_, (((t101.length : Int) == 0)), (by first | rfl | (simp;done) | (simp [*];done)), H', ⟨by have := HJ4.out;first | omega | exact Nat.le_refl _⟩, ⟨by (with_reducible repeat (first | apply Kd.R_alloc | apply Kd.R_drewN | apply Kd.R_drew));exact HO_3.out⟩, ⟨by repeat (first | (with_reducible first | exact HB.out | apply below_alloc | apply pw_below_drewN | apply below_drew1) | exact HB.out)⟩⟩
      ·replace c31 := Bool.eq_false_iff.mpr c31
       subst c31
       have H1 : (laws_FnEvBent.j1 kj4 t101 true) = some r := by rw [if_neg (show ¬ (false = true) by decide)] at H;exact H
       clear H
       have H := H1
       clear H1
       have H' := Aside0.mk H
       clear H
       obtain ⟨Ao34, co34, eo34⟩ := Kd.R_slice HO_3.out
       subst eo34
       go_wp2_with (first | ((with_reducible refine gate_callee (f := 18) rfl ?_);refine goesL_ (some 40) rfl rfl Try.func18 (by kernel_rfl) rfl #[.slice Ao34 t101.length co34] rfl (by (try simp only [List.map_toArray, List.map_cons, List.map_nil]);first | done | rfl | (simp only [List.length_drop, List.length_take];rfl)) ?_;(with_reducible refine (spec_EvsOk.calls kj4 _ _ t101 false _ ?side1 ?side2 A30.out).mono ?_);(case side1 => repeat (first | exact (Kd.R_reads' HO_3.out).2.2 | (with_reducible refine Kd.C_alloc ?_ _) | (with_reducible refine Kd.C_drewN ?_ _) | (with_reducible refine Kd.C_drew ?_)));(case side2 => exact (Kd.R_reads' HO_3.out).2.1);rintro e w35 ⟨rfl, hb⟩;refine ⟨_, rfl, ?_⟩;have n0_ := Aside0.mk (Kd.R_below (by (with_reducible repeat (first | apply Kd.R_alloc | apply Kd.R_drewN | apply Kd.R_drew));exact HO_3.out) hb);have n1_ := Aside0.mk (below_step (by exact HB.out) hb);clear HO_3;clear HB;have HO_3 := n0_;have HB := n1_;clear n0_ n1_;(try clear hb);(try clear hb2);(try clear hk);(try clear hi)))
       go_meet
       case rel => exact ⟨_, (true), (by first | rfl | (simp;done) | (simp [*];done)), H', ⟨by have := HJ4.out;first | omega | exact Nat.le_refl _⟩, ⟨by (with_reducible repeat (first | apply Kd.R_alloc | apply Kd.R_drewN | apply Kd.R_drew));exact HO_3.out⟩, ⟨by repeat (first | (with_reducible first | exact HB.out | apply below_alloc | apply pw_below_drewN | apply below_drew1) | exact HB.out)⟩⟩
     case rest =>
      clear HC29
      try clear c1
      try clear c2
      try clear c2b0
      try clear c2b1
      try clear p2
      try clear c3
      try clear c8
      try clear c10
      try clear c10b0
      try clear c10b1
      try clear c10b2
      try clear c16
      try clear c16b0
      try clear c16b1
      try clear c16b2
      try clear c18
      try clear c19
      try clear c24
      try clear c25
      try clear c28
      try clear c31
      try clear p2
      obtain ⟨kq, x46_28, rfl, HA, HJ28, HO_3, HB⟩ := hcut
      cases kq with
      | zero => exact absurd HA.out (by simp [laws_FnEvBent.j1])
      | succ kj28 =>
       have H := HA.out
       clear HA
       simp only [laws_FnEvBent.j1] at H
       by_cases c36 : x46_28 = true
       ·subst c36
        have H1 : (some true) = some r := by rw [if_pos rfl] at H;exact H
        clear H
        have H := H1
        clear H1
        obtain rfl := Option.some.inj H
        go_wp2
        go_ret
        exact ⟨by first | rfl | (simp [errW_none, errW_some] <;> rfl) | (simp [*, errW_none, errW_some] <;> rfl), by repeat (first | (with_reducible first | exact HB.out | apply below_alloc | apply pw_below_drewN | apply below_drew1) | exact HB.out)⟩
       ·replace c36 := Bool.eq_false_iff.mpr c36
        subst c36
        have H1 : ((some (([] : List (S26)) : List (S26))).bind fun y116 => (if y116.length + t101.length < 5864062014805 then ((some (y116 ++ t101 : List (S26))).bind fun y119 => (if 0 ≤ (wrap64 ((t101.length : Int) - 1)) then (if (wrap64 ((t101.length : Int) - 1)) < (t101.length : Int) then ((some (([(⟨(rd_T26 t101 (wrap64 ((t101.length : Int) - 1))).f0, (rd_T26 t101 (wrap64 ((t101.length : Int) - 1))).f1, (rd_T26 t101 (wrap64 ((t101.length : Int) - 1))).f2⟩ : S26)] : List (S26)) : List (S26))).bind fun y123 => (if y119.length + y123.length < 5864062014805 then ((some (([] : List (S26)) : List (S26))).bind fun y129 => (if y129.length + t101.length < 5864062014805 then ((some (y129 ++ t101 : List (S26))).bind fun y132 => (if 0 < (y132.length : Int) then ((some (([] : List (S26)) : List (S26))).bind fun y136 => (if y136.length + t101.length < 5864062014805 then ((some (y136 ++ t101 : List (S26))).bind fun y139 => (if 0 < (y139.length : Int) then (laws_FnEvBent.l0 kj28 t101 (y119 ++ y123) (y132.set (0 : Int).toNat (⟨5, (rd_T26 y132 0).f1, (rd_T26 y132 0).f2⟩ : S26)) (y139.set (0 : Int).toNat (⟨(rd_T26 y139 0).f0, (rd_T26 y139 0).f1, 101⟩ : S26))) else (none))) else (none))) else (none))) else (none))) else (none))) else (none)) else (none))) else (none))) = some r := by rw [if_neg (show ¬ (false = true) by decide)] at H;exact H
        clear H
        have H := H1
        clear H1
        obtain ⟨y116, hy116⟩ : ∃ y_ : List (S26), y_ = (([] : List (S26))) := ⟨_, rfl⟩
        replace H : (if y116.length + t101.length < 5864062014805 then ((some (y116 ++ t101 : List (S26))).bind fun y119 => (if 0 ≤ (wrap64 ((t101.length : Int) - 1)) then (if (wrap64 ((t101.length : Int) - 1)) < (t101.length : Int) then ((some (([(⟨(rd_T26 t101 (wrap64 ((t101.length : Int) - 1))).f0, (rd_T26 t101 (wrap64 ((t101.length : Int) - 1))).f1, (rd_T26 t101 (wrap64 ((t101.length : Int) - 1))).f2⟩ : S26)] : List (S26)) : List (S26))).bind fun y123 => (if y119.length + y123.length < 5864062014805 then ((some (([] : List (S26)) : List (S26))).bind fun y129 => (if y129.length + t101.length < 5864062014805 then ((some (y129 ++ t101 : List (S26))).bind fun y132 => (if 0 < (y132.length : Int) then ((some (([] : List (S26)) : List (S26))).bind fun y136 => (if y136.length + t101.length < 5864062014805 then ((some (y136 ++ t101 : List (S26))).bind fun y139 => (if 0 < (y139.length : Int) then (laws_FnEvBent.l0 kj28 t101 (y119 ++ y123) (y132.set (0 : Int).toNat (⟨5, (rd_T26 y132 0).f1, (rd_T26 y132 0).f2⟩ : S26)) (y139.set (0 : Int).toNat (⟨(rd_T26 y139 0).f0, (rd_T26 y139 0).f1, 101⟩ : S26))) else (none))) else (none))) else (none))) else (none))) else (none))) else (none)) else (none))) else (none)) = some r := by first | (rw [hy116];with_reducible exact H) | (have H2_ := (Option.bind_some _ _).symm.trans H;rw [hy116];with_reducible exact H2_) | (have H2_ := (Option.bind_some _ _).symm.trans H;with_reducible exact H2_) | with_reducible exact H | (rw [hy116];exact H) | exact H
        have Ny116 := Aside0.mk hy116
        clear hy116
        by_cases c37 : y116.length + t101.length < 5864062014805
        ·rw [if_pos c37] at H
         have LMc37 := Aside0.mk c37
         clear c37
         obtain ⟨y119, hy119⟩ : ∃ y_ : List (S26), y_ = (y116 ++ t101) := ⟨_, rfl⟩
         replace H : (if 0 ≤ (wrap64 ((t101.length : Int) - 1)) then (if (wrap64 ((t101.length : Int) - 1)) < (t101.length : Int) then ((some (([(⟨(rd_T26 t101 (wrap64 ((t101.length : Int) - 1))).f0, (rd_T26 t101 (wrap64 ((t101.length : Int) - 1))).f1, (rd_T26 t101 (wrap64 ((t101.length : Int) - 1))).f2⟩ : S26)] : List (S26)) : List (S26))).bind fun y123 => (if y119.length + y123.length < 5864062014805 then ((some (([] : List (S26)) : List (S26))).bind fun y129 => (if y129.length + t101.length < 5864062014805 then ((some (y129 ++ t101 : List (S26))).bind fun y132 => (if 0 < (y132.length : Int) then ((some (([] : List (S26)) : List (S26))).bind fun y136 => (if y136.length + t101.length < 5864062014805 then ((some (y136 ++ t101 : List (S26))).bind fun y139 => (if 0 < (y139.length : Int) then (laws_FnEvBent.l0 kj28 t101 (y119 ++ y123) (y132.set (0 : Int).toNat (⟨5, (rd_T26 y132 0).f1, (rd_T26 y132 0).f2⟩ : S26)) (y139.set (0 : Int).toNat (⟨(rd_T26 y139 0).f0, (rd_T26 y139 0).f1, 101⟩ : S26))) else (none))) else (none))) else (none))) else (none))) else (none))) else (none)) else (none)) = some r := by first | (rw [hy119];with_reducible exact H) | (have H2_ := (Option.bind_some _ _).symm.trans H;rw [hy119];with_reducible exact H2_) | (have H2_ := (Option.bind_some _ _).symm.trans H;with_reducible exact H2_) | with_reducible exact H | (rw [hy119];exact H) | exact H
         have Ny119 := Aside0.mk hy119
         clear hy119
         obtain ⟨ji38, hji38⟩ : ∃ j_ : Int, (wrap64 ((t101.length : Int) - 1)) = j_ := ⟨_, rfl⟩
         replace H : (if 0 ≤ (ji38) then (if (ji38) < (t101.length : Int) then ((some (([(⟨(rd_T26 t101 (ji38)).f0, (rd_T26 t101 (ji38)).f1, (rd_T26 t101 (ji38)).f2⟩ : S26)] : List (S26)) : List (S26))).bind fun y123 => (if y119.length + y123.length < 5864062014805 then ((some (([] : List (S26)) : List (S26))).bind fun y129 => (if y129.length + t101.length < 5864062014805 then ((some (y129 ++ t101 : List (S26))).bind fun y132 => (if 0 < (y132.length : Int) then ((some (([] : List (S26)) : List (S26))).bind fun y136 => (if y136.length + t101.length < 5864062014805 then ((some (y136 ++ t101 : List (S26))).bind fun y139 => (if 0 < (y139.length : Int) then (laws_FnEvBent.l0 kj28 t101 (y119 ++ y123) (y132.set (0 : Int).toNat (⟨5, (rd_T26 y132 0).f1, (rd_T26 y132 0).f2⟩ : S26)) (y139.set (0 : Int).toNat (⟨(rd_T26 y139 0).f0, (rd_T26 y139 0).f1, 101⟩ : S26))) else (none))) else (none))) else (none))) else (none))) else (none))) else (none)) else (none)) = some r := by first | (rw [hji38] at H;exact H) | (simp only [hji38] at H ⊢;exact H)
         have hji38w : (IntKind.i64.wrap ((t101.length : Int) - 1)) = ji38 := (i64_w _).trans hji38
         by_cases c39 : 0 ≤ (ji38)
         ·rw [if_pos c39] at H
          have c39b0 : decide (0 ≤ (ji38)) = true := decide_eq_true c39
          clear c39
          by_cases c40 : (ji38) < (t101.length : Int)
          ·rw [if_pos c40] at H
           have c40b0 : decide ((ji38) < (t101.length : Int)) = true := decide_eq_true c40
           clear c40
           obtain ⟨y123, hy123⟩ : ∃ y_ : List (S26), y_ = (([(⟨(rd_T26 t101 (ji38)).f0, (rd_T26 t101 (ji38)).f1, (rd_T26 t101 (ji38)).f2⟩ : S26)] : List (S26))) := ⟨_, rfl⟩
           replace H : (if y119.length + y123.length < 5864062014805 then ((some (([] : List (S26)) : List (S26))).bind fun y129 => (if y129.length + t101.length < 5864062014805 then ((some (y129 ++ t101 : List (S26))).bind fun y132 => (if 0 < (y132.length : Int) then ((some (([] : List (S26)) : List (S26))).bind fun y136 => (if y136.length + t101.length < 5864062014805 then ((some (y136 ++ t101 : List (S26))).bind fun y139 => (if 0 < (y139.length : Int) then (laws_FnEvBent.l0 kj28 t101 (y119 ++ y123) (y132.set (0 : Int).toNat (⟨5, (rd_T26 y132 0).f1, (rd_T26 y132 0).f2⟩ : S26)) (y139.set (0 : Int).toNat (⟨(rd_T26 y139 0).f0, (rd_T26 y139 0).f1, 101⟩ : S26))) else (none))) else (none))) else (none))) else (none))) else (none)) = some r := by first | (rw [hy123];with_reducible exact H) | (have H2_ := (Option.bind_some _ _).symm.trans H;rw [hy123];with_reducible exact H2_) | (have H2_ := (Option.bind_some _ _).symm.trans H;with_reducible exact H2_) | with_reducible exact H | (rw [hy123];exact H) | exact H
           have Ny123 := Aside0.mk hy123
           clear hy123
           by_cases c41 : y119.length + y123.length < 5864062014805
           ·rw [if_pos c41] at H
            have LMc41 := Aside0.mk c41
            clear c41
            obtain ⟨y126, hy126⟩ : ∃ y_ : List (S26), y_ = (y119 ++ y123) := ⟨_, rfl⟩
            replace H : ((some (([] : List (S26)) : List (S26))).bind fun y129 => (if y129.length + t101.length < 5864062014805 then ((some (y129 ++ t101 : List (S26))).bind fun y132 => (if 0 < (y132.length : Int) then ((some (([] : List (S26)) : List (S26))).bind fun y136 => (if y136.length + t101.length < 5864062014805 then ((some (y136 ++ t101 : List (S26))).bind fun y139 => (if 0 < (y139.length : Int) then (laws_FnEvBent.l0 kj28 t101 y126 (y132.set (0 : Int).toNat (⟨5, (rd_T26 y132 0).f1, (rd_T26 y132 0).f2⟩ : S26)) (y139.set (0 : Int).toNat (⟨(rd_T26 y139 0).f0, (rd_T26 y139 0).f1, 101⟩ : S26))) else (none))) else (none))) else (none))) else (none))) = some r := by first | (rw [hy126];with_reducible exact H) | (have H2_ := (Option.bind_some _ _).symm.trans H;rw [hy126];with_reducible exact H2_) | (have H2_ := (Option.bind_some _ _).symm.trans H;with_reducible exact H2_) | with_reducible exact H | (rw [hy126];exact H) | exact H
            have Ny126 := Aside0.mk hy126
            clear hy126
            obtain ⟨y129, hy129⟩ : ∃ y_ : List (S26), y_ = (([] : List (S26))) := ⟨_, rfl⟩
            replace H : (if y129.length + t101.length < 5864062014805 then ((some (y129 ++ t101 : List (S26))).bind fun y132 => (if 0 < (y132.length : Int) then ((some (([] : List (S26)) : List (S26))).bind fun y136 => (if y136.length + t101.length < 5864062014805 then ((some (y136 ++ t101 : List (S26))).bind fun y139 => (if 0 < (y139.length : Int) then (laws_FnEvBent.l0 kj28 t101 y126 (y132.set (0 : Int).toNat (⟨5, (rd_T26 y132 0).f1, (rd_T26 y132 0).f2⟩ : S26)) (y139.set (0 : Int).toNat (⟨(rd_T26 y139 0).f0, (rd_T26 y139 0).f1, 101⟩ : S26))) else (none))) else (none))) else (none))) else (none)) = some r := by first | (rw [hy129];with_reducible exact H) | (have H2_ := (Option.bind_some _ _).symm.trans H;rw [hy129];with_reducible exact H2_) | (have H2_ := (Option.bind_some _ _).symm.trans H;with_reducible exact H2_) | with_reducible exact H | (rw [hy129];exact H) | exact H
            have Ny129 := Aside0.mk hy129
            clear hy129
            by_cases c42 : y129.length + t101.length < 5864062014805
            ·rw [if_pos c42] at H
             have LMc42 := Aside0.mk c42
             clear c42
             obtain ⟨y132, hy132⟩ : ∃ y_ : List (S26), y_ = (y129 ++ t101) := ⟨_, rfl⟩
             replace H : (if 0 < (y132.length : Int) then ((some (([] : List (S26)) : List (S26))).bind fun y136 => (if y136.length + t101.length < 5864062014805 then ((some (y136 ++ t101 : List (S26))).bind fun y139 => (if 0 < (y139.length : Int) then (laws_FnEvBent.l0 kj28 t101 y126 (y132.set (0 : Int).toNat (⟨5, (rd_T26 y132 0).f1, (rd_T26 y132 0).f2⟩ : S26)) (y139.set (0 : Int).toNat (⟨(rd_T26 y139 0).f0, (rd_T26 y139 0).f1, 101⟩ : S26))) else (none))) else (none))) else (none)) = some r := by first | (rw [hy132];with_reducible exact H) | (have H2_ := (Option.bind_some _ _).symm.trans H;rw [hy132];with_reducible exact H2_) | (have H2_ := (Option.bind_some _ _).symm.trans H;with_reducible exact H2_) | with_reducible exact H | (rw [hy132];exact H) | exact H
             have Ny132 := Aside0.mk hy132
             clear hy132
             by_cases c43 : 0 < (y132.length : Int)
             ·rw [if_pos c43] at H
              have c43b0 : decide (0 < (y132.length : Int)) = true := decide_eq_true c43
              have c43b1 : decide (0 < y132.length) = true := decide_eq_true (by omega)
              clear c43
              obtain ⟨y135, hy135⟩ : ∃ y_ : List (S26), y_ = (y132.set (0 : Int).toNat (⟨5, (rd_T26 y132 0).f1, (rd_T26 y132 0).f2⟩ : S26)) := ⟨_, rfl⟩
              replace H : ((some (([] : List (S26)) : List (S26))).bind fun y136 => (if y136.length + t101.length < 5864062014805 then ((some (y136 ++ t101 : List (S26))).bind fun y139 => (if 0 < (y139.length : Int) then (laws_FnEvBent.l0 kj28 t101 y126 y135 (y139.set (0 : Int).toNat (⟨(rd_T26 y139 0).f0, (rd_T26 y139 0).f1, 101⟩ : S26))) else (none))) else (none))) = some r := by first | (rw [hy135];with_reducible exact H) | (have H2_ := (Option.bind_some _ _).symm.trans H;rw [hy135];with_reducible exact H2_) | (have H2_ := (Option.bind_some _ _).symm.trans H;with_reducible exact H2_) | with_reducible exact H | (rw [hy135];exact H) | exact H
              have Ny135 := Aside0.mk hy135
              clear hy135
              obtain ⟨y136, hy136⟩ : ∃ y_ : List (S26), y_ = (([] : List (S26))) := ⟨_, rfl⟩
              replace H : (if y136.length + t101.length < 5864062014805 then ((some (y136 ++ t101 : List (S26))).bind fun y139 => (if 0 < (y139.length : Int) then (laws_FnEvBent.l0 kj28 t101 y126 y135 (y139.set (0 : Int).toNat (⟨(rd_T26 y139 0).f0, (rd_T26 y139 0).f1, 101⟩ : S26))) else (none))) else (none)) = some r := by first | (rw [hy136];with_reducible exact H) | (have H2_ := (Option.bind_some _ _).symm.trans H;rw [hy136];with_reducible exact H2_) | (have H2_ := (Option.bind_some _ _).symm.trans H;with_reducible exact H2_) | with_reducible exact H | (rw [hy136];exact H) | exact H
              have Ny136 := Aside0.mk hy136
              clear hy136
              by_cases c45 : y136.length + t101.length < 5864062014805
              ·rw [if_pos c45] at H
               have LMc45 := Aside0.mk c45
               clear c45
               obtain ⟨y139, hy139⟩ : ∃ y_ : List (S26), y_ = (y136 ++ t101) := ⟨_, rfl⟩
               replace H : (if 0 < (y139.length : Int) then (laws_FnEvBent.l0 kj28 t101 y126 y135 (y139.set (0 : Int).toNat (⟨(rd_T26 y139 0).f0, (rd_T26 y139 0).f1, 101⟩ : S26))) else (none)) = some r := by first | (rw [hy139];with_reducible exact H) | (have H2_ := (Option.bind_some _ _).symm.trans H;rw [hy139];with_reducible exact H2_) | (have H2_ := (Option.bind_some _ _).symm.trans H;with_reducible exact H2_) | with_reducible exact H | (rw [hy139];exact H) | exact H
               have Ny139 := Aside0.mk hy139
               clear hy139
               by_cases c46 : 0 < (y139.length : Int)
               ·rw [if_pos c46] at H
                have c46b0 : decide (0 < (y139.length : Int)) = true := decide_eq_true c46
                have c46b1 : decide (0 < y139.length) = true := decide_eq_true (by omega)
                clear c46
                obtain ⟨y142, hy142⟩ : ∃ y_ : List (S26), y_ = (y139.set (0 : Int).toNat (⟨(rd_T26 y139 0).f0, (rd_T26 y139 0).f1, 101⟩ : S26)) := ⟨_, rfl⟩
                replace H : (laws_FnEvBent.l0 kj28 t101 y126 y135 y142) = some r := by first | (rw [hy142];with_reducible exact H) | (have H2_ := (Option.bind_some _ _).symm.trans H;rw [hy142];with_reducible exact H2_) | (have H2_ := (Option.bind_some _ _).symm.trans H;with_reducible exact H2_) | with_reducible exact H | (rw [hy142];exact H) | exact H
                have Ny142 := Aside0.mk hy142
                clear hy142
                have H' := Aside0.mk H
                clear H
                obtain ⟨Ao48, co48, eo48⟩ := Kd.R_slice HO_3.out
                subst eo48
                try go_wp2
                have n0_ := Aside0.mk (Kd.R_drew HO_3.out)
                have n1_ := Aside0.mk (below_drew1 HB.out)
                clear HO_3
                clear HB
                have HO_3 := n0_
                have HB := n1_
                clear n0_ n1_
                have p122 : 0 ≤ ((ji38) : Int) := of_decide_eq_true (by first | (with_reducible assumption) | assumption)
                have q122 : (ji38) < (t101.length : Int) := of_decide_eq_true (by first | (with_reducible assumption) | assumption)
                obtain ⟨ad122, e122, hx122_0, hx122_1, hx122_2⟩ := at_T26 (Kd.R_reads' HO_3.out).2.2 (ji38) p122 q122
                cases e122
                replace p122 := eq_true p122
                replace q122 := eq_true q122
                refine start_ (n := 12) (S := fun w' => w'.cell? (ad122.add (((ji38)).toNat * 3)) = some (.int .i64 ((rd_T26 t101 (ji38)).f0)) ∧ w'.cell? ⟨(ad122.add (((ji38)).toNat * 3)).block, (ad122.add (((ji38)).toNat * 3)).off + 1, none⟩ = some (.int .i64 ((rd_T26 t101 (ji38)).f1)) ∧ w'.cell? ⟨(ad122.add (((ji38)).toNat * 3)).block, (ad122.add (((ji38)).toNat * 3)).off + 2, none⟩ = some (.int .i64 ((rd_T26 t101 (ji38)).f2))) (ds := []) #[false, false, false, false, false, false, false, false, false, false, false, false] (by kernel_rfl) rfl rfl ⟨hx122_0, hx122_1, hx122_2⟩ (fun hHeld => ?_);refine with_tabW laws_FnEvBent.tab9 laws_FnEvBent.bits9 (fun HT_ HW_ => ?_)
                generalize wc.drew = w49 at HO_3 HB hx122_0 hx122_1 hx122_2 hHeld ⊢
                refine pure_ (i := 1) (N := some 48) (v := ?_) (a' := ?_) #[false, true, false, false, false, false, false, false, false, false, false, false] rfl rfl (any_of HT_.out (by kernel_rfl)) (fun _ _ _ h => h) (Or.inl ⟨by rfl, ?_⟩) ?_ ?_
                rotate_left
                ·intro w'
                 go_simp
                 with_reducible rfl
                rotate_left
                ·simp only [Act.put, List.setIfInBounds_toArray, List.set_cons_zero, List.set_cons_succ, i64_w, i32_w]
                 rfl
                refine pure_ (i := 3) (N := some 50) (v := ?_) (a' := ?_) #[false, true, false, true, false, false, false, false, false, false, false, false] rfl rfl (any_of HT_.out (by kernel_rfl)) (fun _ _ _ h => h) (Or.inl ⟨by rfl, ?_⟩) ?_ ?_
                rotate_left
                ·intro w'
                 go_simp
                 with_reducible rfl
                rotate_left
                ·simp only [Act.put, List.setIfInBounds_toArray, List.set_cons_zero, List.set_cons_succ, i64_w, i32_w]
                 rfl
                refine pure_ (i := 4) (N := some 51) (v := ?_) (a' := ?_) #[false, true, false, true, true, false, false, false, false, false, false, false] rfl rfl (any_of HT_.out (by kernel_rfl)) (fun _ _ _ h => h) (Or.inl ⟨by rfl, ?_⟩) ?_ ?_
                rotate_left
                ·intro w'
                 go_simp
                 with_reducible rfl
                rotate_left
                ·simp only [Act.put, List.setIfInBounds_toArray, List.set_cons_zero, List.set_cons_succ, i64_w, i32_w]
                 rfl
                refine pure_ (i := 5) (N := some 52) (v := ?_) (a' := ?_) #[false, true, false, true, true, true, false, false, false, false, false, false] rfl rfl (any_of HT_.out (by kernel_rfl)) (fun _ _ _ h => h) (Or.inl ⟨by rfl, ?_⟩) ?_ ?_
                rotate_left
                ·intro w'
                 go_simp
                 with_reducible rfl
                rotate_left
                ·simp only [Act.put, List.setIfInBounds_toArray, List.set_cons_zero, List.set_cons_succ, i64_w, i32_w]
                 rfl
                refine pure_ (i := 6) (N := some 53) (v := ?_) (a' := ?_) #[false, true, false, true, true, true, true, false, false, false, false, false] rfl rfl (any_of HT_.out (by kernel_rfl)) (fun _ _ _ h => h) (Or.inl ⟨by rfl, ?_⟩) ?_ ?_
                rotate_left
                ·intro w'
                 go_simp
                 with_reducible rfl
                rotate_left
                ·simp only [Act.put, List.setIfInBounds_toArray, List.set_cons_zero, List.set_cons_succ, i64_w, i32_w]
                 rfl
                refine pure_ (i := 7) (N := some 54) (v := ?_) (a' := ?_) #[false, true, false, true, true, true, true, true, false, false, false, false] rfl rfl (any_of HT_.out (by kernel_rfl)) (fun _ _ _ h => h) (Or.inl ⟨by rfl, ?_⟩) ?_ ?_
                rotate_left
                ·intro w'
                 go_simp
                 with_reducible rfl
                rotate_left
                ·simp only [Act.put, List.setIfInBounds_toArray, List.set_cons_zero, List.set_cons_succ, i64_w, i32_w]
                 rfl
                refine take_ (i := 8) (N := some 55) (v := ?_) (a' := ?_) #[false, true, false, true, true, true, true, true, true, false, false, false] rfl rfl (take_ofW HT_.out HW_.out (by kernel_rfl)) (fun _ _ _ h => h) (Or.inl ⟨by rfl, ?_⟩) hHeld ?_ ?_
                rotate_left
                ·rintro w' ⟨s0, s1, s2⟩
                 go_simp
                 with_reducible rfl
                rotate_left
                ·simp only [Act.put, List.setIfInBounds_toArray, List.set_cons_zero, List.set_cons_succ, i64_w, i32_w]
                 rfl
                refine join_ (σ := Value × Value × Value) 2 #[true, true, true, true, true, true, true, true, true, true, false, false] (fun s_ => [(47, s_.1), (49, s_.2.1), (56, s_.2.2)]) (fun s_ w' => (w'.cell? (ad122.add (((ji38)).toNat * 3)) = some (.int .i64 ((rd_T26 t101 (ji38)).f0)) ∧ w'.cell? ⟨(ad122.add (((ji38)).toNat * 3)).block, (ad122.add (((ji38)).toNat * 3)).off + 1, none⟩ = some (.int .i64 ((rd_T26 t101 (ji38)).f1)) ∧ w'.cell? ⟨(ad122.add (((ji38)).toNat * 3)).block, (ad122.add (((ji38)).toNat * 3)).off + 2, none⟩ = some (.int .i64 ((rd_T26 t101 (ji38)).f2))) ∧ (Kd.R k26 26 w' w.heap.size (fun k_ => some k_ ≠ (s_.2.2 : Value).ownBlock ∧ some k_ ≠ (.slice (some ad122) t101.length co48 : Value).ownBlock) s_.2.1 y119) ∧ (Kd.R k26 26 w' w.heap.size (fun k_ => some k_ ≠ (s_.2.1 : Value).ownBlock ∧ some k_ ≠ (.slice (some ad122) t101.length co48 : Value).ownBlock) s_.2.2 y123) ∧ (Kd.R k26 26 w' w.heap.size (fun k_ => some k_ ≠ (s_.2.1 : Value).ownBlock ∧ some k_ ≠ (s_.2.2 : Value).ownBlock) (.slice (some ad122) t101.length co48) t101) ∧ (Below w.heap.size w w')) ?_ ?_
                rotate_left
                ·intro hCont
                 refine two_ (i := 0) (j := 9) (Ni := some 47) (Nj := some 56) #[true, true, false, true, true, true, true, true, true, false, false, false] #[false, true, false, true, true, true, true, true, true, true, false, false] rfl rfl rfl rfl (two_of HT_.out (by kernel_rfl)) (by decide) (by decide) (fun K hK => ?_) (fun K hK => ?_)
                 ·skip
                  refine Kd.R_lit_step k26 _ 26 ?hg (N := 47) ?hd (xs := ([] : List (S26))) (inner := []) (ok := fun _ => True) (okp := fun _ => True) ?hr ?hp (fun _ hk => hk) trivial (Below.refl _ _) (Nat.le_refl _) (by simp) ?_;(case hd => rfl);(case hg => rfl);(case hr => first | (go_simp;done) | (go_simp;rfl));(case hp => exact (Reps.none _ _))
                  intro v117 w50 ho51 hb hg_ hnew_
                  have HS0_ := (hb.cell (World.block_lt_of_cell? _ _ (hHeld.1))).trans (hHeld.1)
                  have HS1_ := (hb.cell (World.block_lt_of_cell? _ _ (hHeld.2.1))).trans (hHeld.2.1)
                  have HS2_ := (hb.cell (World.block_lt_of_cell? _ _ (hHeld.2.2))).trans (hHeld.2.2)
                  clear hg_ hnew_
                  (first | rw [← Ny116.out] at ho51 | (simp only [Int.reduceToNat] at ho51;rw [← Ny116.out] at ho51))
                  have n0_ := Aside0.mk (Kd.R_elder' (by (with_reducible repeat (first | apply Kd.R_alloc | apply Kd.R_drewN | apply Kd.R_drew));exact HO_3.out) (Kd.R_base ho51) hb)
                  have n1_ := Aside0.mk (Kd.R_lower (Kd.R_new' ho51 (Kd.R_lt (by (with_reducible repeat (first | apply Kd.R_alloc | apply Kd.R_drewN | apply Kd.R_drew));exact HO_3.out))) (below_size (by exact HB.out)))
                  have n2_ := Aside0.mk (below_step (by exact HB.out) hb)
                  clear HO_3
                  clear HB
                  have HO_3 := n0_
                  have HO118 := n1_
                  have HB := n2_
                  clear n0_ n1_ n2_
                  clear hb ho51
                  refine hK.out _ _ ⟨HS0_, HS1_, HS2_⟩ (fun hHeld => ?_)
                  clear hK K
                  refine norm_ (a' := ?_) ?_ ?_
                  rotate_left
                  ·show Act.put _ (some 47) _ = _
                   simp only [Act.put, List.setIfInBounds_toArray, List.set_cons_zero, List.set_cons_succ, i64_w, i32_w]
                   rfl
                  refine two_ (i := 2) (j := 9) (Ni := some 49) (Nj := some 56) #[true, true, true, true, true, true, true, true, true, false, false, false] #[true, true, false, true, true, true, true, true, true, true, false, false] rfl rfl rfl rfl (two_of HT_.out (by kernel_rfl)) (by decide) (by decide) (fun K hK => ?_) (fun K hK => ?_)
                  ·skip
                   refine Kd.R_append_rows_step k26 (w0 := w) w.heap.size (by rfl) (.tmp 47) (.tmp 48) 32 26 (.agg #[(.int .i64 0), (.int .i64 0), (.int .i64 0)]) 24 rfl Try.underlying32 info26 rfl (by decide) (by omega) v117 y116 t101 _ _ _ (fun k_ => some k_ ≠ (.slice (some ad122) t101.length co48 : Value).ownBlock) (fun _ => False) rfl rfl ?aO ?aR (fun _ _ h => h) (fun _ h => h.elim) ?aF ?aB ?aS ?aL ?_
                   (case aR => repeat (first | exact (Kd.R_reads' HO_3.out).2.2 | (with_reducible refine Kd.C_alloc ?_ _) | (with_reducible refine Kd.C_drewN ?_ _) | (with_reducible refine Kd.C_drew ?_)))
                   (case aB => exact (by exact HB.out))
                   (case aF => exact (fun k_ hk => Kd.fresh' (Kd.R_lt (by (with_reducible repeat (first | apply Kd.R_alloc | apply Kd.R_drewN | apply Kd.R_drew));exact HO_3.out)) k_ hk))
                   (case aO => exact (by (with_reducible repeat (first | apply Kd.R_alloc | apply Kd.R_drewN | apply Kd.R_drew));exact Kd.R_mono HO118.out (fun _ hk => hk.2)))
                   (case aS => exact (below_size (by exact HB.out)))
                   (case aL => have := LMc37.out;omega)
                   intro v120 w52 ho hb hg hat
                   (first | have HS0_ := cell_grown hg (hHeld.1) (by first | (rw [add_block];exact (fun e_ => by have h_ := HO118.out.1 _ e_.symm;first | exact h_.2 rfl | exact h_.1.2 rfl | exact h_.1.1.2 rfl | exact h_.1.1.1.2 rfl | exact h_ rfl)) | (show some (Addr.add _ _).block ≠ _;rw [add_block];exact (fun e_ => by have h_ := HO118.out.1 _ e_.symm;first | exact h_.2 rfl | exact h_.1.2 rfl | exact h_.1.1.2 rfl | exact h_.1.1.1.2 rfl | exact h_ rfl)) | exact (fun e_ => by have h_ := HO118.out.1 _ e_.symm;first | exact h_.2 rfl | exact h_.1.2 rfl | exact h_.1.1.2 rfl | exact h_.1.1.1.2 rfl | exact h_ rfl)) | have HS0_ := cell_grown hg (cell_unalloc (hHeld.1) (by first | (rw [add_block];exact Kd.R_lt HO_3.out _ rfl) | (show (Addr.add _ _).block < _;rw [add_block];exact Kd.R_lt HO_3.out _ rfl) | exact Kd.R_lt HO_3.out _ rfl)) (by first | (rw [add_block];exact (fun e_ => by have h_ := HO118.out.1 _ e_.symm;first | exact h_.2 rfl | exact h_.1.2 rfl | exact h_.1.1.2 rfl | exact h_.1.1.1.2 rfl | exact h_ rfl)) | (show some (Addr.add _ _).block ≠ _;rw [add_block];exact (fun e_ => by have h_ := HO118.out.1 _ e_.symm;first | exact h_.2 rfl | exact h_.1.2 rfl | exact h_.1.1.2 rfl | exact h_.1.1.1.2 rfl | exact h_ rfl)) | exact (fun e_ => by have h_ := HO118.out.1 _ e_.symm;first | exact h_.2 rfl | exact h_.1.2 rfl | exact h_.1.1.2 rfl | exact h_.1.1.1.2 rfl | exact h_ rfl)))
                   (first | have HS1_ := cell_grown hg (hHeld.2.1) (by first | (rw [add_block];exact (fun e_ => by have h_ := HO118.out.1 _ e_.symm;first | exact h_.2 rfl | exact h_.1.2 rfl | exact h_.1.1.2 rfl | exact h_.1.1.1.2 rfl | exact h_ rfl)) | (show some (Addr.add _ _).block ≠ _;rw [add_block];exact (fun e_ => by have h_ := HO118.out.1 _ e_.symm;first | exact h_.2 rfl | exact h_.1.2 rfl | exact h_.1.1.2 rfl | exact h_.1.1.1.2 rfl | exact h_ rfl)) | exact (fun e_ => by have h_ := HO118.out.1 _ e_.symm;first | exact h_.2 rfl | exact h_.1.2 rfl | exact h_.1.1.2 rfl | exact h_.1.1.1.2 rfl | exact h_ rfl)) | have HS1_ := cell_grown hg (cell_unalloc (hHeld.2.1) (by first | (rw [add_block];exact Kd.R_lt HO_3.out _ rfl) | (show (Addr.add _ _).block < _;rw [add_block];exact Kd.R_lt HO_3.out _ rfl) | exact Kd.R_lt HO_3.out _ rfl)) (by first | (rw [add_block];exact (fun e_ => by have h_ := HO118.out.1 _ e_.symm;first | exact h_.2 rfl | exact h_.1.2 rfl | exact h_.1.1.2 rfl | exact h_.1.1.1.2 rfl | exact h_ rfl)) | (show some (Addr.add _ _).block ≠ _;rw [add_block];exact (fun e_ => by have h_ := HO118.out.1 _ e_.symm;first | exact h_.2 rfl | exact h_.1.2 rfl | exact h_.1.1.2 rfl | exact h_.1.1.1.2 rfl | exact h_ rfl)) | exact (fun e_ => by have h_ := HO118.out.1 _ e_.symm;first | exact h_.2 rfl | exact h_.1.2 rfl | exact h_.1.1.2 rfl | exact h_.1.1.1.2 rfl | exact h_ rfl)))
                   (first | have HS2_ := cell_grown hg (hHeld.2.2) (by first | (rw [add_block];exact (fun e_ => by have h_ := HO118.out.1 _ e_.symm;first | exact h_.2 rfl | exact h_.1.2 rfl | exact h_.1.1.2 rfl | exact h_.1.1.1.2 rfl | exact h_ rfl)) | (show some (Addr.add _ _).block ≠ _;rw [add_block];exact (fun e_ => by have h_ := HO118.out.1 _ e_.symm;first | exact h_.2 rfl | exact h_.1.2 rfl | exact h_.1.1.2 rfl | exact h_.1.1.1.2 rfl | exact h_ rfl)) | exact (fun e_ => by have h_ := HO118.out.1 _ e_.symm;first | exact h_.2 rfl | exact h_.1.2 rfl | exact h_.1.1.2 rfl | exact h_.1.1.1.2 rfl | exact h_ rfl)) | have HS2_ := cell_grown hg (cell_unalloc (hHeld.2.2) (by first | (rw [add_block];exact Kd.R_lt HO_3.out _ rfl) | (show (Addr.add _ _).block < _;rw [add_block];exact Kd.R_lt HO_3.out _ rfl) | exact Kd.R_lt HO_3.out _ rfl)) (by first | (rw [add_block];exact (fun e_ => by have h_ := HO118.out.1 _ e_.symm;first | exact h_.2 rfl | exact h_.1.2 rfl | exact h_.1.1.2 rfl | exact h_.1.1.1.2 rfl | exact h_ rfl)) | (show some (Addr.add _ _).block ≠ _;rw [add_block];exact (fun e_ => by have h_ := HO118.out.1 _ e_.symm;first | exact h_.2 rfl | exact h_.1.2 rfl | exact h_.1.1.2 rfl | exact h_.1.1.1.2 rfl | exact h_ rfl)) | exact (fun e_ => by have h_ := HO118.out.1 _ e_.symm;first | exact h_.2 rfl | exact h_.1.2 rfl | exact h_.1.1.2 rfl | exact h_.1.1.1.2 rfl | exact h_ rfl)))
                   rw [← Ny119.out] at ho
                   have n0_ := Aside0.mk (Kd.R_after (ok := (fun _ => True)) (by (with_reducible repeat (first | apply Kd.R_alloc | apply Kd.R_drewN | apply Kd.R_drew));exact HO_3.out) hg hat)
                   have n1_ := Aside0.mk (hb)
                   have n2_ := Aside0.mk (ho)
                   clear HO_3
                   clear HB
                   clear HO118
                   have HO_3 := n0_
                   have HB := n1_
                   have HO121 := n2_
                   clear n0_ n1_ n2_
                   clear ho hb hg hat
                   refine hK.out _ _ ⟨HS0_, HS1_, HS2_⟩ (fun hHeld => ?_)
                   clear hK K
                   refine norm_ (a' := ?_) ?_ ?_
                   rotate_left
                   ·show Act.put _ (some 49) _ = _
                    simp only [Act.put, List.setIfInBounds_toArray, List.set_cons_zero, List.set_cons_succ, i64_w, i32_w]
                    rfl
                   refine one_ (i := 9) (N := some 56) #[true, true, true, true, true, true, true, true, true, true, false, false] rfl rfl (one_of HT_.out (by kernel_rfl)) (by decide) (fun K hK => ?_)
                   refine Kd.R_lit_step k26 _ 26 ?hg (N := 56) ?hd (xs := ([(⟨(rd_T26 t101 (ji38)).f0, (rd_T26 t101 (ji38)).f1, (rd_T26 t101 (ji38)).f2⟩ : S26)] : List (S26))) (inner := [.int .i64 ((rd_T26 t101 (ji38)).f0), .int .i64 ((rd_T26 t101 (ji38)).f1), .int .i64 ((rd_T26 t101 (ji38)).f2)]) (ok := fun _ => True) (okp := fun _ => True) ?hr ?hp (fun _ hk => hk) trivial (Below.refl _ _) (Nat.le_refl _) (by simp) ?_;(case hd => rfl);(case hg => rfl);(case hr => first | (go_simp;done) | (go_simp;rfl));(case hp => exact (Reps.c3 (show Kd.M k26 _ _ _ (⟨(rd_T26 t101 (ji38)).f0, (rd_T26 t101 (ji38)).f1, (rd_T26 t101 (ji38)).f2⟩ : S26) [.int .i64 ((rd_T26 t101 (ji38)).f0), .int .i64 ((rd_T26 t101 (ji38)).f1), .int .i64 ((rd_T26 t101 (ji38)).f2)] from (k26_mkM _ _ _ (⟨(rd_T26 t101 (ji38)).f0, (rd_T26 t101 (ji38)).f1, (rd_T26 t101 (ji38)).f2⟩ : S26) )) (Reps.none _ _)))
                   intro v124 w53 ho54 hb hg_ hnew_
                   have HS0_ := (hb.cell (World.block_lt_of_cell? _ _ (hHeld.1))).trans (hHeld.1)
                   have HS1_ := (hb.cell (World.block_lt_of_cell? _ _ (hHeld.2.1))).trans (hHeld.2.1)
                   have HS2_ := (hb.cell (World.block_lt_of_cell? _ _ (hHeld.2.2))).trans (hHeld.2.2)
                   clear hg_ hnew_
                   (first | rw [← Ny123.out] at ho54 | (simp only [Int.reduceToNat] at ho54;rw [← Ny123.out] at ho54))
                   have n0_ := Aside0.mk (Kd.R_elder' (by (with_reducible repeat (first | apply Kd.R_alloc | apply Kd.R_drewN | apply Kd.R_drew));exact HO_3.out) (Kd.R_base ho54) hb)
                   have n1_ := Aside0.mk (Kd.R_elder' (by (with_reducible repeat (first | apply Kd.R_alloc | apply Kd.R_drewN | apply Kd.R_drew));exact HO121.out) (Kd.R_base ho54) hb)
                   have n2_ := Aside0.mk (Kd.R_lower (Kd.R_new' (Kd.R_new' ho54 (Kd.R_lt (by (with_reducible repeat (first | apply Kd.R_alloc | apply Kd.R_drewN | apply Kd.R_drew));exact HO_3.out))) (Kd.R_lt (by (with_reducible repeat (first | apply Kd.R_alloc | apply Kd.R_drewN | apply Kd.R_drew));exact HO121.out))) (below_size (by exact HB.out)))
                   have n3_ := Aside0.mk (below_step (by exact HB.out) hb)
                   clear HO_3
                   clear HO121
                   clear HB
                   have HO_3 := n0_
                   have HO121 := n1_
                   have HO125 := n2_
                   have HB := n3_
                   clear n0_ n1_ n2_ n3_
                   clear hb ho54
                   refine hK.out _ _ ⟨HS0_, HS1_, HS2_⟩ (fun hHeld => ?_)
                   clear hK K
                   refine norm_ (a' := ?_) ?_ ?_
                   rotate_left
                   ·show Act.put _ (some 56) _ = _
                    simp only [Act.put, List.setIfInBounds_toArray, List.set_cons_zero, List.set_cons_succ, i64_w, i32_w]
                    rfl
                   exact norm_ (by simp only [putAll, Act.put, List.setIfInBounds_toArray, List.set_cons_zero, List.set_cons_succ]) (hCont (v117, v120, v124) _ ⟨hHeld, (by (with_reducible repeat (first | apply Kd.R_alloc | apply Kd.R_drewN | apply Kd.R_drew));exact Kd.R_mono HO121.out (fun _ hk => ⟨hk.2, hk.1⟩)), (by (with_reducible repeat (first | apply Kd.R_alloc | apply Kd.R_drewN | apply Kd.R_drew));exact Kd.R_mono HO125.out (fun _ hk => ⟨hk.2, hk.1.2⟩)), (by (with_reducible repeat (first | apply Kd.R_alloc | apply Kd.R_drewN | apply Kd.R_drew));exact Kd.R_mono HO_3.out (fun _ hk => ⟨hk.1.2, hk.2⟩)), (by exact HB.out)⟩)
                  ·skip
                   refine Kd.R_lit_step k26 _ 26 ?hg (N := 56) ?hd (xs := ([(⟨(rd_T26 t101 (ji38)).f0, (rd_T26 t101 (ji38)).f1, (rd_T26 t101 (ji38)).f2⟩ : S26)] : List (S26))) (inner := [.int .i64 ((rd_T26 t101 (ji38)).f0), .int .i64 ((rd_T26 t101 (ji38)).f1), .int .i64 ((rd_T26 t101 (ji38)).f2)]) (ok := fun _ => True) (okp := fun _ => True) ?hr ?hp (fun _ hk => hk) trivial (Below.refl _ _) (Nat.le_refl _) (by simp) ?_;(case hd => rfl);(case hg => rfl);(case hr => first | (go_simp;done) | (go_simp;rfl));(case hp => exact (Reps.c3 (show Kd.M k26 _ _ _ (⟨(rd_T26 t101 (ji38)).f0, (rd_T26 t101 (ji38)).f1, (rd_T26 t101 (ji38)).f2⟩ : S26) [.int .i64 ((rd_T26 t101 (ji38)).f0), .int .i64 ((rd_T26 t101 (ji38)).f1), .int .i64 ((rd_T26 t101 (ji38)).f2)] from (k26_mkM _ _ _ (⟨(rd_T26 t101 (ji38)).f0, (rd_T26 t101 (ji38)).f1, (rd_T26 t101 (ji38)).f2⟩ : S26) )) (Reps.none _ _)))
                   intro v124 w52 ho53 hb hg_ hnew_
                   have HS0_ := (hb.cell (World.block_lt_of_cell? _ _ (hHeld.1))).trans (hHeld.1)
                   have HS1_ := (hb.cell (World.block_lt_of_cell? _ _ (hHeld.2.1))).trans (hHeld.2.1)
                   have HS2_ := (hb.cell (World.block_lt_of_cell? _ _ (hHeld.2.2))).trans (hHeld.2.2)
                   clear hg_ hnew_
                   (first | rw [← Ny123.out] at ho53 | (simp only [Int.reduceToNat] at ho53;rw [← Ny123.out] at ho53))
                   have n0_ := Aside0.mk (Kd.R_elder' (by (with_reducible repeat (first | apply Kd.R_alloc | apply Kd.R_drewN | apply Kd.R_drew));exact HO_3.out) (Kd.R_base ho53) hb)
                   have n1_ := Aside0.mk (Kd.R_elder' (by (with_reducible repeat (first | apply Kd.R_alloc | apply Kd.R_drewN | apply Kd.R_drew));exact HO118.out) (Kd.R_base ho53) hb)
                   have n2_ := Aside0.mk (Kd.R_lower (Kd.R_new' (Kd.R_new' ho53 (Kd.R_lt (by (with_reducible repeat (first | apply Kd.R_alloc | apply Kd.R_drewN | apply Kd.R_drew));exact HO_3.out))) (Kd.R_lt (by (with_reducible repeat (first | apply Kd.R_alloc | apply Kd.R_drewN | apply Kd.R_drew));exact HO118.out))) (below_size (by exact HB.out)))
                   have n3_ := Aside0.mk (below_step (by exact HB.out) hb)
                   clear HO_3
                   clear HO118
                   clear HB
                   have HO_3 := n0_
                   have HO118 := n1_
                   have HO125 := n2_
                   have HB := n3_
                   clear n0_ n1_ n2_ n3_
                   clear hb ho53
                   refine hK.out _ _ ⟨HS0_, HS1_, HS2_⟩ (fun hHeld => ?_)
                   clear hK K
                   refine norm_ (a' := ?_) ?_ ?_
                   rotate_left
                   ·show Act.put _ (some 56) _ = _
                    simp only [Act.put, List.setIfInBounds_toArray, List.set_cons_zero, List.set_cons_succ, i64_w, i32_w]
                    rfl
                   refine one_ (i := 2) (N := some 49) #[true, true, true, true, true, true, true, true, true, true, false, false] rfl rfl (one_of HT_.out (by kernel_rfl)) (by decide) (fun K hK => ?_)
                   refine Kd.R_append_rows_step k26 (w0 := w) w.heap.size (by rfl) (.tmp 47) (.tmp 48) 32 26 (.agg #[(.int .i64 0), (.int .i64 0), (.int .i64 0)]) 24 rfl Try.underlying32 info26 rfl (by decide) (by omega) v117 y116 t101 _ _ _ (fun k_ => some k_ ≠ (.slice (some ad122) t101.length co48 : Value).ownBlock ∧ some k_ ≠ (v124 : Value).ownBlock) (fun _ => False) rfl rfl ?aO ?aR (fun _ _ h => h) (fun _ h => h.elim) ?aF ?aB ?aS ?aL ?_
                   (case aR => repeat (first | exact (Kd.R_reads' HO_3.out).2.2 | (with_reducible refine Kd.C_alloc ?_ _) | (with_reducible refine Kd.C_drewN ?_ _) | (with_reducible refine Kd.C_drew ?_)))
                   (case aB => exact (by exact HB.out))
                   (case aF => exact (fun k_ hk => ⟨Kd.fresh' (Kd.R_lt (by (with_reducible repeat (first | apply Kd.R_alloc | apply Kd.R_drewN | apply Kd.R_drew));exact HO_3.out)) k_ hk, Kd.fresh' (Kd.R_lt (by (with_reducible repeat (first | apply Kd.R_alloc | apply Kd.R_drewN | apply Kd.R_drew));exact HO125.out)) k_ hk⟩))
                   (case aO => exact (by (with_reducible repeat (first | apply Kd.R_alloc | apply Kd.R_drewN | apply Kd.R_drew));exact Kd.R_mono HO118.out (fun _ hk => ⟨hk.1.2, hk.2⟩)))
                   (case aS => exact (below_size (by exact HB.out)))
                   (case aL => have := LMc37.out;omega)
                   intro v120 w54 ho hb hg hat
                   (first | have HS0_ := cell_grown hg (hHeld.1) (by first | (rw [add_block];exact (fun e_ => by have h_ := HO118.out.1 _ e_.symm;first | exact h_.2 rfl | exact h_.1.2 rfl | exact h_.1.1.2 rfl | exact h_.1.1.1.2 rfl | exact h_ rfl)) | (show some (Addr.add _ _).block ≠ _;rw [add_block];exact (fun e_ => by have h_ := HO118.out.1 _ e_.symm;first | exact h_.2 rfl | exact h_.1.2 rfl | exact h_.1.1.2 rfl | exact h_.1.1.1.2 rfl | exact h_ rfl)) | exact (fun e_ => by have h_ := HO118.out.1 _ e_.symm;first | exact h_.2 rfl | exact h_.1.2 rfl | exact h_.1.1.2 rfl | exact h_.1.1.1.2 rfl | exact h_ rfl)) | have HS0_ := cell_grown hg (cell_unalloc (hHeld.1) (by first | (rw [add_block];exact Kd.R_lt HO_3.out _ rfl) | (show (Addr.add _ _).block < _;rw [add_block];exact Kd.R_lt HO_3.out _ rfl) | exact Kd.R_lt HO_3.out _ rfl)) (by first | (rw [add_block];exact (fun e_ => by have h_ := HO118.out.1 _ e_.symm;first | exact h_.2 rfl | exact h_.1.2 rfl | exact h_.1.1.2 rfl | exact h_.1.1.1.2 rfl | exact h_ rfl)) | (show some (Addr.add _ _).block ≠ _;rw [add_block];exact (fun e_ => by have h_ := HO118.out.1 _ e_.symm;first | exact h_.2 rfl | exact h_.1.2 rfl | exact h_.1.1.2 rfl | exact h_.1.1.1.2 rfl | exact h_ rfl)) | exact (fun e_ => by have h_ := HO118.out.1 _ e_.symm;first | exact h_.2 rfl | exact h_.1.2 rfl | exact h_.1.1.2 rfl | exact h_.1.1.1.2 rfl | exact h_ rfl)))
                   (first | have HS1_ := cell_grown hg (hHeld.2.1) (by first | (rw [add_block];exact (fun e_ => by have h_ := HO118.out.1 _ e_.symm;first | exact h_.2 rfl | exact h_.1.2 rfl | exact h_.1.1.2 rfl | exact h_.1.1.1.2 rfl | exact h_ rfl)) | (show some (Addr.add _ _).block ≠ _;rw [add_block];exact (fun e_ => by have h_ := HO118.out.1 _ e_.symm;first | exact h_.2 rfl | exact h_.1.2 rfl | exact h_.1.1.2 rfl | exact h_.1.1.1.2 rfl | exact h_ rfl)) | exact (fun e_ => by have h_ := HO118.out.1 _ e_.symm;first | exact h_.2 rfl | exact h_.1.2 rfl | exact h_.1.1.2 rfl | exact h_.1.1.1.2 rfl | exact h_ rfl)) | have HS1_ := cell_grown hg (cell_unalloc (hHeld.2.1) (by first | (rw [add_block];exact Kd.R_lt HO_3.out _ rfl) | (show (Addr.add _ _).block < _;rw [add_block];exact Kd.R_lt HO_3.out _ rfl) | exact Kd.R_lt HO_3.out _ rfl)) (by first | (rw [add_block];exact (fun e_ => by have h_ := HO118.out.1 _ e_.symm;first | exact h_.2 rfl | exact h_.1.2 rfl | exact h_.1.1.2 rfl | exact h_.1.1.1.2 rfl | exact h_ rfl)) | (show some (Addr.add _ _).block ≠ _;rw [add_block];exact (fun e_ => by have h_ := HO118.out.1 _ e_.symm;first | exact h_.2 rfl | exact h_.1.2 rfl | exact h_.1.1.2 rfl | exact h_.1.1.1.2 rfl | exact h_ rfl)) | exact (fun e_ => by have h_ := HO118.out.1 _ e_.symm;first | exact h_.2 rfl | exact h_.1.2 rfl | exact h_.1.1.2 rfl | exact h_.1.1.1.2 rfl | exact h_ rfl)))
                   (first | have HS2_ := cell_grown hg (hHeld.2.2) (by first | (rw [add_block];exact (fun e_ => by have h_ := HO118.out.1 _ e_.symm;first | exact h_.2 rfl | exact h_.1.2 rfl | exact h_.1.1.2 rfl | exact h_.1.1.1.2 rfl | exact h_ rfl)) | (show some (Addr.add _ _).block ≠ _;rw [add_block];exact (fun e_ => by have h_ := HO118.out.1 _ e_.symm;first | exact h_.2 rfl | exact h_.1.2 rfl | exact h_.1.1.2 rfl | exact h_.1.1.1.2 rfl | exact h_ rfl)) | exact (fun e_ => by have h_ := HO118.out.1 _ e_.symm;first | exact h_.2 rfl | exact h_.1.2 rfl | exact h_.1.1.2 rfl | exact h_.1.1.1.2 rfl | exact h_ rfl)) | have HS2_ := cell_grown hg (cell_unalloc (hHeld.2.2) (by first | (rw [add_block];exact Kd.R_lt HO_3.out _ rfl) | (show (Addr.add _ _).block < _;rw [add_block];exact Kd.R_lt HO_3.out _ rfl) | exact Kd.R_lt HO_3.out _ rfl)) (by first | (rw [add_block];exact (fun e_ => by have h_ := HO118.out.1 _ e_.symm;first | exact h_.2 rfl | exact h_.1.2 rfl | exact h_.1.1.2 rfl | exact h_.1.1.1.2 rfl | exact h_ rfl)) | (show some (Addr.add _ _).block ≠ _;rw [add_block];exact (fun e_ => by have h_ := HO118.out.1 _ e_.symm;first | exact h_.2 rfl | exact h_.1.2 rfl | exact h_.1.1.2 rfl | exact h_.1.1.1.2 rfl | exact h_ rfl)) | exact (fun e_ => by have h_ := HO118.out.1 _ e_.symm;first | exact h_.2 rfl | exact h_.1.2 rfl | exact h_.1.1.2 rfl | exact h_.1.1.1.2 rfl | exact h_ rfl)))
                   rw [← Ny119.out] at ho
                   have n0_ := Aside0.mk (Kd.R_after (ok := (fun k_ => some k_ ≠ (v124 : Value).ownBlock)) (by (with_reducible repeat (first | apply Kd.R_alloc | apply Kd.R_drewN | apply Kd.R_drew));exact Kd.R_mono HO_3.out (fun _ hk => ⟨hk.2, hk.1.2⟩)) hg hat)
                   have n1_ := Aside0.mk (Kd.R_after (ok := (fun k_ => some k_ ≠ (.slice (some ad122) t101.length co48 : Value).ownBlock)) (by (with_reducible repeat (first | apply Kd.R_alloc | apply Kd.R_drewN | apply Kd.R_drew));exact Kd.R_mono HO125.out (fun _ hk => ⟨hk.1.2, hk.2⟩)) hg hat)
                   have n2_ := Aside0.mk (hb)
                   have n3_ := Aside0.mk (ho)
                   clear HO_3
                   clear HO125
                   clear HB
                   clear HO118
                   have HO_3 := n0_
                   have HO125 := n1_
                   have HB := n2_
                   have HO121 := n3_
                   clear n0_ n1_ n2_ n3_
                   clear ho hb hg hat
                   refine hK.out _ _ ⟨HS0_, HS1_, HS2_⟩ (fun hHeld => ?_)
                   clear hK K
                   refine norm_ (a' := ?_) ?_ ?_
                   rotate_left
                   ·show Act.put _ (some 49) _ = _
                    simp only [Act.put, List.setIfInBounds_toArray, List.set_cons_zero, List.set_cons_succ, i64_w, i32_w]
                    rfl
                   exact norm_ (by simp only [putAll, Act.put, List.setIfInBounds_toArray, List.set_cons_zero, List.set_cons_succ]) (hCont (v117, v120, v124) _ ⟨hHeld, (by (with_reducible repeat (first | apply Kd.R_alloc | apply Kd.R_drewN | apply Kd.R_drew));exact Kd.R_mono HO121.out (fun _ hk => ⟨hk.2, hk.1⟩)), (by (with_reducible repeat (first | apply Kd.R_alloc | apply Kd.R_drewN | apply Kd.R_drew));exact Kd.R_mono HO125.out (fun _ hk => ⟨hk.2, hk.1⟩)), (by (with_reducible repeat (first | apply Kd.R_alloc | apply Kd.R_drewN | apply Kd.R_drew));exact Kd.R_mono HO_3.out (fun _ hk => ⟨hk.2, hk.1⟩)), (by exact HB.out)⟩)
                 ·skip
                  refine Kd.R_lit_step k26 _ 26 ?hg (N := 56) ?hd (xs := ([(⟨(rd_T26 t101 (ji38)).f0, (rd_T26 t101 (ji38)).f1, (rd_T26 t101 (ji38)).f2⟩ : S26)] : List (S26))) (inner := [.int .i64 ((rd_T26 t101 (ji38)).f0), .int .i64 ((rd_T26 t101 (ji38)).f1), .int .i64 ((rd_T26 t101 (ji38)).f2)]) (ok := fun _ => True) (okp := fun _ => True) ?hr ?hp (fun _ hk => hk) trivial (Below.refl _ _) (Nat.le_refl _) (by simp) ?_;(case hd => rfl);(case hg => rfl);(case hr => first | (go_simp;done) | (go_simp;rfl));(case hp => exact (Reps.c3 (show Kd.M k26 _ _ _ (⟨(rd_T26 t101 (ji38)).f0, (rd_T26 t101 (ji38)).f1, (rd_T26 t101 (ji38)).f2⟩ : S26) [.int .i64 ((rd_T26 t101 (ji38)).f0), .int .i64 ((rd_T26 t101 (ji38)).f1), .int .i64 ((rd_T26 t101 (ji38)).f2)] from (k26_mkM _ _ _ (⟨(rd_T26 t101 (ji38)).f0, (rd_T26 t101 (ji38)).f1, (rd_T26 t101 (ji38)).f2⟩ : S26) )) (Reps.none _ _)))
                  intro v124 w50 ho51 hb hg_ hnew_
                  have HS0_ := (hb.cell (World.block_lt_of_cell? _ _ (hHeld.1))).trans (hHeld.1)
                  have HS1_ := (hb.cell (World.block_lt_of_cell? _ _ (hHeld.2.1))).trans (hHeld.2.1)
                  have HS2_ := (hb.cell (World.block_lt_of_cell? _ _ (hHeld.2.2))).trans (hHeld.2.2)
                  clear hg_ hnew_
                  (first | rw [← Ny123.out] at ho51 | (simp only [Int.reduceToNat] at ho51;rw [← Ny123.out] at ho51))
                  have n0_ := Aside0.mk (Kd.R_elder' (by (with_reducible repeat (first | apply Kd.R_alloc | apply Kd.R_drewN | apply Kd.R_drew));exact HO_3.out) (Kd.R_base ho51) hb)
                  have n1_ := Aside0.mk (Kd.R_lower (Kd.R_new' ho51 (Kd.R_lt (by (with_reducible repeat (first | apply Kd.R_alloc | apply Kd.R_drewN | apply Kd.R_drew));exact HO_3.out))) (below_size (by exact HB.out)))
                  have n2_ := Aside0.mk (below_step (by exact HB.out) hb)
                  clear HO_3
                  clear HB
                  have HO_3 := n0_
                  have HO125 := n1_
                  have HB := n2_
                  clear n0_ n1_ n2_
                  clear hb ho51
                  refine hK.out _ _ ⟨HS0_, HS1_, HS2_⟩ (fun hHeld => ?_)
                  clear hK K
                  refine norm_ (a' := ?_) ?_ ?_
                  rotate_left
                  ·show Act.put _ (some 56) _ = _
                   simp only [Act.put, List.setIfInBounds_toArray, List.set_cons_zero, List.set_cons_succ, i64_w, i32_w]
                   rfl
                  refine one_ (i := 0) (N := some 47) #[true, true, false, true, true, true, true, true, true, true, false, false] rfl rfl (one_of HT_.out (by kernel_rfl)) (by decide) (fun K hK => ?_)
                  refine Kd.R_lit_step k26 _ 26 ?hg (N := 47) ?hd (xs := ([] : List (S26))) (inner := []) (ok := fun _ => True) (okp := fun _ => True) ?hr ?hp (fun _ hk => hk) trivial (Below.refl _ _) (Nat.le_refl _) (by simp) ?_;(case hd => rfl);(case hg => rfl);(case hr => first | (go_simp;done) | (go_simp;rfl));(case hp => exact (Reps.none _ _))
                  intro v117 w52 ho53 hb hg_ hnew_
                  have HS0_ := (hb.cell (World.block_lt_of_cell? _ _ (hHeld.1))).trans (hHeld.1)
                  have HS1_ := (hb.cell (World.block_lt_of_cell? _ _ (hHeld.2.1))).trans (hHeld.2.1)
                  have HS2_ := (hb.cell (World.block_lt_of_cell? _ _ (hHeld.2.2))).trans (hHeld.2.2)
                  clear hg_ hnew_
                  (first | rw [← Ny116.out] at ho53 | (simp only [Int.reduceToNat] at ho53;rw [← Ny116.out] at ho53))
                  have n0_ := Aside0.mk (Kd.R_elder' (by (with_reducible repeat (first | apply Kd.R_alloc | apply Kd.R_drewN | apply Kd.R_drew));exact HO_3.out) (Kd.R_base ho53) hb)
                  have n1_ := Aside0.mk (Kd.R_elder' (by (with_reducible repeat (first | apply Kd.R_alloc | apply Kd.R_drewN | apply Kd.R_drew));exact HO125.out) (Kd.R_base ho53) hb)
                  have n2_ := Aside0.mk (Kd.R_lower (Kd.R_new' (Kd.R_new' ho53 (Kd.R_lt (by (with_reducible repeat (first | apply Kd.R_alloc | apply Kd.R_drewN | apply Kd.R_drew));exact HO_3.out))) (Kd.R_lt (by (with_reducible repeat (first | apply Kd.R_alloc | apply Kd.R_drewN | apply Kd.R_drew));exact HO125.out))) (below_size (by exact HB.out)))
                  have n3_ := Aside0.mk (below_step (by exact HB.out) hb)
                  clear HO_3
                  clear HO125
                  clear HB
                  have HO_3 := n0_
                  have HO125 := n1_
                  have HO118 := n2_
                  have HB := n3_
                  clear n0_ n1_ n2_ n3_
                  clear hb ho53
                  refine hK.out _ _ ⟨HS0_, HS1_, HS2_⟩ (fun hHeld => ?_)
                  clear hK K
                  refine norm_ (a' := ?_) ?_ ?_
                  rotate_left
                  ·show Act.put _ (some 47) _ = _
                   simp only [Act.put, List.setIfInBounds_toArray, List.set_cons_zero, List.set_cons_succ, i64_w, i32_w]
                   rfl
                  refine one_ (i := 2) (N := some 49) #[true, true, true, true, true, true, true, true, true, true, false, false] rfl rfl (one_of HT_.out (by kernel_rfl)) (by decide) (fun K hK => ?_)
                  refine Kd.R_append_rows_step k26 (w0 := w) w.heap.size (by rfl) (.tmp 47) (.tmp 48) 32 26 (.agg #[(.int .i64 0), (.int .i64 0), (.int .i64 0)]) 24 rfl Try.underlying32 info26 rfl (by decide) (by omega) v117 y116 t101 _ _ _ (fun k_ => some k_ ≠ (.slice (some ad122) t101.length co48 : Value).ownBlock ∧ some k_ ≠ (v124 : Value).ownBlock) (fun _ => False) rfl rfl ?aO ?aR (fun _ _ h => h) (fun _ h => h.elim) ?aF ?aB ?aS ?aL ?_
                  (case aR => repeat (first | exact (Kd.R_reads' HO_3.out).2.2 | (with_reducible refine Kd.C_alloc ?_ _) | (with_reducible refine Kd.C_drewN ?_ _) | (with_reducible refine Kd.C_drew ?_)))
                  (case aB => exact (by exact HB.out))
                  (case aF => exact (fun k_ hk => ⟨Kd.fresh' (Kd.R_lt (by (with_reducible repeat (first | apply Kd.R_alloc | apply Kd.R_drewN | apply Kd.R_drew));exact HO_3.out)) k_ hk, Kd.fresh' (Kd.R_lt (by (with_reducible repeat (first | apply Kd.R_alloc | apply Kd.R_drewN | apply Kd.R_drew));exact HO125.out)) k_ hk⟩))
                  (case aO => exact (by (with_reducible repeat (first | apply Kd.R_alloc | apply Kd.R_drewN | apply Kd.R_drew));exact Kd.R_mono HO118.out (fun _ hk => ⟨hk.1.2, hk.2⟩)))
                  (case aS => exact (below_size (by exact HB.out)))
                  (case aL => have := LMc37.out;omega)
                  intro v120 w54 ho hb hg hat
                  (first | have HS0_ := cell_grown hg (hHeld.1) (by first | (rw [add_block];exact (fun e_ => by have h_ := HO118.out.1 _ e_.symm;first | exact h_.2 rfl | exact h_.1.2 rfl | exact h_.1.1.2 rfl | exact h_.1.1.1.2 rfl | exact h_ rfl)) | (show some (Addr.add _ _).block ≠ _;rw [add_block];exact (fun e_ => by have h_ := HO118.out.1 _ e_.symm;first | exact h_.2 rfl | exact h_.1.2 rfl | exact h_.1.1.2 rfl | exact h_.1.1.1.2 rfl | exact h_ rfl)) | exact (fun e_ => by have h_ := HO118.out.1 _ e_.symm;first | exact h_.2 rfl | exact h_.1.2 rfl | exact h_.1.1.2 rfl | exact h_.1.1.1.2 rfl | exact h_ rfl)) | have HS0_ := cell_grown hg (cell_unalloc (hHeld.1) (by first | (rw [add_block];exact Kd.R_lt HO_3.out _ rfl) | (show (Addr.add _ _).block < _;rw [add_block];exact Kd.R_lt HO_3.out _ rfl) | exact Kd.R_lt HO_3.out _ rfl)) (by first | (rw [add_block];exact (fun e_ => by have h_ := HO118.out.1 _ e_.symm;first | exact h_.2 rfl | exact h_.1.2 rfl | exact h_.1.1.2 rfl | exact h_.1.1.1.2 rfl | exact h_ rfl)) | (show some (Addr.add _ _).block ≠ _;rw [add_block];exact (fun e_ => by have h_ := HO118.out.1 _ e_.symm;first | exact h_.2 rfl | exact h_.1.2 rfl | exact h_.1.1.2 rfl | exact h_.1.1.1.2 rfl | exact h_ rfl)) | exact (fun e_ => by have h_ := HO118.out.1 _ e_.symm;first | exact h_.2 rfl | exact h_.1.2 rfl | exact h_.1.1.2 rfl | exact h_.1.1.1.2 rfl | exact h_ rfl)))
                  (first | have HS1_ := cell_grown hg (hHeld.2.1) (by first | (rw [add_block];exact (fun e_ => by have h_ := HO118.out.1 _ e_.symm;first | exact h_.2 rfl | exact h_.1.2 rfl | exact h_.1.1.2 rfl | exact h_.1.1.1.2 rfl | exact h_ rfl)) | (show some (Addr.add _ _).block ≠ _;rw [add_block];exact (fun e_ => by have h_ := HO118.out.1 _ e_.symm;first | exact h_.2 rfl | exact h_.1.2 rfl | exact h_.1.1.2 rfl | exact h_.1.1.1.2 rfl | exact h_ rfl)) | exact (fun e_ => by have h_ := HO118.out.1 _ e_.symm;first | exact h_.2 rfl | exact h_.1.2 rfl | exact h_.1.1.2 rfl | exact h_.1.1.1.2 rfl | exact h_ rfl)) | have HS1_ := cell_grown hg (cell_unalloc (hHeld.2.1) (by first | (rw [add_block];exact Kd.R_lt HO_3.out _ rfl) | (show (Addr.add _ _).block < _;rw [add_block];exact Kd.R_lt HO_3.out _ rfl) | exact Kd.R_lt HO_3.out _ rfl)) (by first | (rw [add_block];exact (fun e_ => by have h_ := HO118.out.1 _ e_.symm;first | exact h_.2 rfl | exact h_.1.2 rfl | exact h_.1.1.2 rfl | exact h_.1.1.1.2 rfl | exact h_ rfl)) | (show some (Addr.add _ _).block ≠ _;rw [add_block];exact (fun e_ => by have h_ := HO118.out.1 _ e_.symm;first | exact h_.2 rfl | exact h_.1.2 rfl | exact h_.1.1.2 rfl | exact h_.1.1.1.2 rfl | exact h_ rfl)) | exact (fun e_ => by have h_ := HO118.out.1 _ e_.symm;first | exact h_.2 rfl | exact h_.1.2 rfl | exact h_.1.1.2 rfl | exact h_.1.1.1.2 rfl | exact h_ rfl)))
                  (first | have HS2_ := cell_grown hg (hHeld.2.2) (by first | (rw [add_block];exact (fun e_ => by have h_ := HO118.out.1 _ e_.symm;first | exact h_.2 rfl | exact h_.1.2 rfl | exact h_.1.1.2 rfl | exact h_.1.1.1.2 rfl | exact h_ rfl)) | (show some (Addr.add _ _).block ≠ _;rw [add_block];exact (fun e_ => by have h_ := HO118.out.1 _ e_.symm;first | exact h_.2 rfl | exact h_.1.2 rfl | exact h_.1.1.2 rfl | exact h_.1.1.1.2 rfl | exact h_ rfl)) | exact (fun e_ => by have h_ := HO118.out.1 _ e_.symm;first | exact h_.2 rfl | exact h_.1.2 rfl | exact h_.1.1.2 rfl | exact h_.1.1.1.2 rfl | exact h_ rfl)) | have HS2_ := cell_grown hg (cell_unalloc (hHeld.2.2) (by first | (rw [add_block];exact Kd.R_lt HO_3.out _ rfl) | (show (Addr.add _ _).block < _;rw [add_block];exact Kd.R_lt HO_3.out _ rfl) | exact Kd.R_lt HO_3.out _ rfl)) (by first | (rw [add_block];exact (fun e_ => by have h_ := HO118.out.1 _ e_.symm;first | exact h_.2 rfl | exact h_.1.2 rfl | exact h_.1.1.2 rfl | exact h_.1.1.1.2 rfl | exact h_ rfl)) | (show some (Addr.add _ _).block ≠ _;rw [add_block];exact (fun e_ => by have h_ := HO118.out.1 _ e_.symm;first | exact h_.2 rfl | exact h_.1.2 rfl | exact h_.1.1.2 rfl | exact h_.1.1.1.2 rfl | exact h_ rfl)) | exact (fun e_ => by have h_ := HO118.out.1 _ e_.symm;first | exact h_.2 rfl | exact h_.1.2 rfl | exact h_.1.1.2 rfl | exact h_.1.1.1.2 rfl | exact h_ rfl)))
                  rw [← Ny119.out] at ho
                  have n0_ := Aside0.mk (Kd.R_after (ok := (fun k_ => some k_ ≠ (v124 : Value).ownBlock)) (by (with_reducible repeat (first | apply Kd.R_alloc | apply Kd.R_drewN | apply Kd.R_drew));exact Kd.R_mono HO_3.out (fun _ hk => ⟨hk.1.2, hk.2⟩)) hg hat)
                  have n1_ := Aside0.mk (Kd.R_after (ok := (fun k_ => some k_ ≠ (.slice (some ad122) t101.length co48 : Value).ownBlock)) (by (with_reducible repeat (first | apply Kd.R_alloc | apply Kd.R_drewN | apply Kd.R_drew));exact Kd.R_mono HO125.out (fun _ hk => ⟨hk.1.2, hk.2⟩)) hg hat)
                  have n2_ := Aside0.mk (hb)
                  have n3_ := Aside0.mk (ho)
                  clear HO_3
                  clear HO125
                  clear HB
                  clear HO118
                  have HO_3 := n0_
                  have HO125 := n1_
                  have HB := n2_
                  have HO121 := n3_
                  clear n0_ n1_ n2_ n3_
                  clear ho hb hg hat
                  refine hK.out _ _ ⟨HS0_, HS1_, HS2_⟩ (fun hHeld => ?_)
                  clear hK K
                  refine norm_ (a' := ?_) ?_ ?_
                  rotate_left
                  ·show Act.put _ (some 49) _ = _
                   simp only [Act.put, List.setIfInBounds_toArray, List.set_cons_zero, List.set_cons_succ, i64_w, i32_w]
                   rfl
                  exact norm_ (by simp only [putAll, Act.put, List.setIfInBounds_toArray, List.set_cons_zero, List.set_cons_succ]) (hCont (v117, v120, v124) _ ⟨hHeld, (by (with_reducible repeat (first | apply Kd.R_alloc | apply Kd.R_drewN | apply Kd.R_drew));exact Kd.R_mono HO121.out (fun _ hk => ⟨hk.2, hk.1⟩)), (by (with_reducible repeat (first | apply Kd.R_alloc | apply Kd.R_drewN | apply Kd.R_drew));exact Kd.R_mono HO125.out (fun _ hk => ⟨hk.2, hk.1⟩)), (by (with_reducible repeat (first | apply Kd.R_alloc | apply Kd.R_drewN | apply Kd.R_drew));exact Kd.R_mono HO_3.out (fun _ hk => ⟨hk.2, hk.1⟩)), (by exact HB.out)⟩)
                rintro ⟨v117, v120, v124⟩ w55 ⟨hS_, h0_, h1_, h2_, h3_⟩
                have n0_ : Aside0 (Kd.R k26 26 w55 w.heap.size (fun k_ => some k_ ≠ (v124 : Value).ownBlock ∧ some k_ ≠ (.slice (some ad122) t101.length co48 : Value).ownBlock) v120 y119) := ⟨h0_⟩
                have n1_ : Aside0 (Kd.R k26 26 w55 w.heap.size (fun k_ => some k_ ≠ (v120 : Value).ownBlock ∧ some k_ ≠ (.slice (some ad122) t101.length co48 : Value).ownBlock) v124 y123) := ⟨h1_⟩
                have n2_ : Aside0 (Kd.R k26 26 w55 w.heap.size (fun k_ => some k_ ≠ (v120 : Value).ownBlock ∧ some k_ ≠ (v124 : Value).ownBlock) (.slice (some ad122) t101.length co48) t101) := ⟨h2_⟩
                have n3_ : Aside0 (Below w.heap.size w w55) := ⟨h3_⟩
                clear HO_3
                clear HB
                clear h0_ h1_ h2_ h3_
                have HO121 := n0_
                have HO125 := n1_
                have HO_3 := n2_
                have HB := n3_
                clear n0_ n1_ n2_ n3_
                have hHeld : w55.cell? (ad122.add (((ji38)).toNat * 3)) = some (.int .i64 ((rd_T26 t101 (ji38)).f0)) ∧ w55.cell? ⟨(ad122.add (((ji38)).toNat * 3)).block, (ad122.add (((ji38)).toNat * 3)).off + 1, none⟩ = some (.int .i64 ((rd_T26 t101 (ji38)).f1)) ∧ w55.cell? ⟨(ad122.add (((ji38)).toNat * 3)).block, (ad122.add (((ji38)).toNat * 3)).off + 2, none⟩ = some (.int .i64 ((rd_T26 t101 (ji38)).f2)) := hS_
                obtain ⟨Ao57, co57, eo57⟩ := Kd.R_slice HO125.out
                (first | subst eo57 | (injection eo57 with f1_ f2_ f3_;have f4_ := f1_.symm;have f5_ := f3_.symm;clear f1_ f2_ f3_;subst f4_;subst f5_))
                refine norm_ (a' := ?_) ?_ ?_
                rotate_left
                ·simp only [putAll, Act.put, List.setIfInBounds_toArray, List.set_cons_zero, List.set_cons_succ]
                 rfl
                refine one_ (i := 10) (N := some 57) #[true, true, true, true, true, true, true, true, true, true, true, false] rfl rfl (one_of HT_.out (by kernel_rfl)) (by decide) (fun K hK => ?_)
                refine Kd.R_append_rows_step k26 (w0 := w) w.heap.size (by rfl) (.tmp 49) (.tmp 56) 32 26 (.agg #[(.int .i64 0), (.int .i64 0), (.int .i64 0)]) 24 rfl Try.underlying32 info26 rfl (by decide) (by omega) v120 y119 y123 _ _ _ (fun k_ => some k_ ≠ (.slice (some ad122) t101.length co48 : Value).ownBlock ∧ some k_ ≠ (.slice Ao57 y123.length co57 : Value).ownBlock) (fun _ => False) rfl rfl ?aO ?aR (fun _ _ h => h) (fun _ h => h.elim) ?aF ?aB ?aS ?aL ?_
                (case aR => repeat (first | exact (Kd.R_reads' HO125.out).2.2 | (with_reducible refine Kd.C_alloc ?_ _) | (with_reducible refine Kd.C_drewN ?_ _) | (with_reducible refine Kd.C_drew ?_)))
                (case aB => exact (by exact HB.out))
                (case aF => exact (fun k_ hk => ⟨Kd.fresh' (Kd.R_lt (by (with_reducible repeat (first | apply Kd.R_alloc | apply Kd.R_drewN | apply Kd.R_drew));exact HO_3.out)) k_ hk, Kd.fresh' (Kd.R_lt (by (with_reducible repeat (first | apply Kd.R_alloc | apply Kd.R_drewN | apply Kd.R_drew));exact HO125.out)) k_ hk⟩))
                (case aO => exact (by (with_reducible repeat (first | apply Kd.R_alloc | apply Kd.R_drewN | apply Kd.R_drew));exact Kd.R_mono HO121.out (fun _ hk => ⟨hk.2, hk.1⟩)))
                (case aS => exact (below_size (by exact HB.out)))
                (case aL => have := LMc41.out;omega)
                intro v127 w56 ho hb hg hat
                (first | have HS0_ := cell_grown hg (hHeld.1) (by first | (rw [add_block];exact (fun e_ => by have h_ := HO121.out.1 _ e_.symm;first | exact h_.2 rfl | exact h_.1.2 rfl | exact h_.1.1.2 rfl | exact h_.1.1.1.2 rfl | exact h_ rfl)) | (show some (Addr.add _ _).block ≠ _;rw [add_block];exact (fun e_ => by have h_ := HO121.out.1 _ e_.symm;first | exact h_.2 rfl | exact h_.1.2 rfl | exact h_.1.1.2 rfl | exact h_.1.1.1.2 rfl | exact h_ rfl)) | exact (fun e_ => by have h_ := HO121.out.1 _ e_.symm;first | exact h_.2 rfl | exact h_.1.2 rfl | exact h_.1.1.2 rfl | exact h_.1.1.1.2 rfl | exact h_ rfl)) | have HS0_ := cell_grown hg (cell_unalloc (hHeld.1) (by first | (rw [add_block];exact Kd.R_lt HO_3.out _ rfl) | (show (Addr.add _ _).block < _;rw [add_block];exact Kd.R_lt HO_3.out _ rfl) | exact Kd.R_lt HO_3.out _ rfl)) (by first | (rw [add_block];exact (fun e_ => by have h_ := HO121.out.1 _ e_.symm;first | exact h_.2 rfl | exact h_.1.2 rfl | exact h_.1.1.2 rfl | exact h_.1.1.1.2 rfl | exact h_ rfl)) | (show some (Addr.add _ _).block ≠ _;rw [add_block];exact (fun e_ => by have h_ := HO121.out.1 _ e_.symm;first | exact h_.2 rfl | exact h_.1.2 rfl | exact h_.1.1.2 rfl | exact h_.1.1.1.2 rfl | exact h_ rfl)) | exact (fun e_ => by have h_ := HO121.out.1 _ e_.symm;first | exact h_.2 rfl | exact h_.1.2 rfl | exact h_.1.1.2 rfl | exact h_.1.1.1.2 rfl | exact h_ rfl)))
                (first | have HS1_ := cell_grown hg (hHeld.2.1) (by first | (rw [add_block];exact (fun e_ => by have h_ := HO121.out.1 _ e_.symm;first | exact h_.2 rfl | exact h_.1.2 rfl | exact h_.1.1.2 rfl | exact h_.1.1.1.2 rfl | exact h_ rfl)) | (show some (Addr.add _ _).block ≠ _;rw [add_block];exact (fun e_ => by have h_ := HO121.out.1 _ e_.symm;first | exact h_.2 rfl | exact h_.1.2 rfl | exact h_.1.1.2 rfl | exact h_.1.1.1.2 rfl | exact h_ rfl)) | exact (fun e_ => by have h_ := HO121.out.1 _ e_.symm;first | exact h_.2 rfl | exact h_.1.2 rfl | exact h_.1.1.2 rfl | exact h_.1.1.1.2 rfl | exact h_ rfl)) | have HS1_ := cell_grown hg (cell_unalloc (hHeld.2.1) (by first | (rw [add_block];exact Kd.R_lt HO_3.out _ rfl) | (show (Addr.add _ _).block < _;rw [add_block];exact Kd.R_lt HO_3.out _ rfl) | exact Kd.R_lt HO_3.out _ rfl)) (by first | (rw [add_block];exact (fun e_ => by have h_ := HO121.out.1 _ e_.symm;first | exact h_.2 rfl | exact h_.1.2 rfl | exact h_.1.1.2 rfl | exact h_.1.1.1.2 rfl | exact h_ rfl)) | (show some (Addr.add _ _).block ≠ _;rw [add_block];exact (fun e_ => by have h_ := HO121.out.1 _ e_.symm;first | exact h_.2 rfl | exact h_.1.2 rfl | exact h_.1.1.2 rfl | exact h_.1.1.1.2 rfl | exact h_ rfl)) | exact (fun e_ => by have h_ := HO121.out.1 _ e_.symm;first | exact h_.2 rfl | exact h_.1.2 rfl | exact h_.1.1.2 rfl | exact h_.1.1.1.2 rfl | exact h_ rfl)))
                (first | have HS2_ := cell_grown hg (hHeld.2.2) (by first | (rw [add_block];exact (fun e_ => by have h_ := HO121.out.1 _ e_.symm;first | exact h_.2 rfl | exact h_.1.2 rfl | exact h_.1.1.2 rfl | exact h_.1.1.1.2 rfl | exact h_ rfl)) | (show some (Addr.add _ _).block ≠ _;rw [add_block];exact (fun e_ => by have h_ := HO121.out.1 _ e_.symm;first | exact h_.2 rfl | exact h_.1.2 rfl | exact h_.1.1.2 rfl | exact h_.1.1.1.2 rfl | exact h_ rfl)) | exact (fun e_ => by have h_ := HO121.out.1 _ e_.symm;first | exact h_.2 rfl | exact h_.1.2 rfl | exact h_.1.1.2 rfl | exact h_.1.1.1.2 rfl | exact h_ rfl)) | have HS2_ := cell_grown hg (cell_unalloc (hHeld.2.2) (by first | (rw [add_block];exact Kd.R_lt HO_3.out _ rfl) | (show (Addr.add _ _).block < _;rw [add_block];exact Kd.R_lt HO_3.out _ rfl) | exact Kd.R_lt HO_3.out _ rfl)) (by first | (rw [add_block];exact (fun e_ => by have h_ := HO121.out.1 _ e_.symm;first | exact h_.2 rfl | exact h_.1.2 rfl | exact h_.1.1.2 rfl | exact h_.1.1.1.2 rfl | exact h_ rfl)) | (show some (Addr.add _ _).block ≠ _;rw [add_block];exact (fun e_ => by have h_ := HO121.out.1 _ e_.symm;first | exact h_.2 rfl | exact h_.1.2 rfl | exact h_.1.1.2 rfl | exact h_.1.1.1.2 rfl | exact h_ rfl)) | exact (fun e_ => by have h_ := HO121.out.1 _ e_.symm;first | exact h_.2 rfl | exact h_.1.2 rfl | exact h_.1.1.2 rfl | exact h_.1.1.1.2 rfl | exact h_ rfl)))
                rw [← Ny126.out] at ho
                have n0_ := Aside0.mk (Kd.R_after (ok := (fun k_ => some k_ ≠ (.slice Ao57 y123.length co57 : Value).ownBlock)) (by (with_reducible repeat (first | apply Kd.R_alloc | apply Kd.R_drewN | apply Kd.R_drew));exact Kd.R_mono HO_3.out (fun _ hk => ⟨hk.2, hk.1⟩)) hg hat)
                have n1_ := Aside0.mk (Kd.R_after (ok := (fun k_ => some k_ ≠ (.slice (some ad122) t101.length co48 : Value).ownBlock)) (by (with_reducible repeat (first | apply Kd.R_alloc | apply Kd.R_drewN | apply Kd.R_drew));exact Kd.R_mono HO125.out (fun _ hk => ⟨hk.2, hk.1⟩)) hg hat)
                have n2_ := Aside0.mk (hb)
                have n3_ := Aside0.mk (ho)
                clear HO_3
                clear HO125
                clear HB
                clear HO121
                have HO_3 := n0_
                have HO125 := n1_
                have HB := n2_
                have HO128 := n3_
                clear n0_ n1_ n2_ n3_
                clear ho hb hg hat
                refine hK.out _ _ ⟨HS0_, HS1_, HS2_⟩ (fun hHeld => ?_)
                clear hK K
                refine norm_ (a' := ?_) ?_ ?_
                rotate_left
                ·show Act.put _ (some 57) _ = _
                 simp only [Act.put, List.setIfInBounds_toArray, List.set_cons_zero, List.set_cons_succ, i64_w, i32_w]
                 rfl
                refine pure_ (i := 11) (N := some 6) (v := ?_) (a' := ?_) #[true, true, true, true, true, true, true, true, true, true, true, true] rfl rfl (any_of HT_.out (by kernel_rfl)) (fun _ _ _ h => h) (Or.inl ⟨by rfl, ?_⟩) ?_ ?_
                rotate_left
                ·intro w'
                 go_simp
                 with_reducible rfl
                rotate_left
                ·simp only [Act.put, List.setIfInBounds_toArray, List.set_cons_zero, List.set_cons_succ, i64_w, i32_w]
                 rfl
                refine done_ (done_of HT_.out (by kernel_rfl)) ?_
                try go_wp2_with (first | ((with_reducible refine gate_dst (N := 58) rfl ?_);(try (refine gate_guard (by rfl) ?_;dsimp only));refine Kd.R_lit k26 _ 26 ?hg (N := 58) ?hd (xs := ([] : List (S26))) (inner := []) (ok := fun _ => True) (okp := fun _ => True) ?hr ?hp (fun _ hk => hk) trivial (Below.refl _ _) (Nat.le_refl _) (by simp) ?_;(case hd => rfl);(case hg => rfl);(case hr => first | (go_simp;done) | (go_simp;rfl));(case hp => exact (Reps.none _ _));intro v130 w58 ho59 hb hg_ hnew_;clear hg_ hnew_;(first | rw [← Ny129.out] at ho59 | (simp only [Int.reduceToNat] at ho59;rw [← Ny129.out] at ho59));have n0_ := Aside0.mk (Kd.R_elder' (by (with_reducible repeat (first | apply Kd.R_alloc | apply Kd.R_drewN | apply Kd.R_drew));exact HO_3.out) (Kd.R_base ho59) hb);have n1_ := Aside0.mk (Kd.R_elder' (by (with_reducible repeat (first | apply Kd.R_alloc | apply Kd.R_drewN | apply Kd.R_drew));exact HO125.out) (Kd.R_base ho59) hb);have n2_ := Aside0.mk (Kd.R_elder' (by (with_reducible repeat (first | apply Kd.R_alloc | apply Kd.R_drewN | apply Kd.R_drew));exact HO128.out) (Kd.R_base ho59) hb);have n3_ := Aside0.mk (Kd.R_lower (Kd.R_new' (Kd.R_new' (Kd.R_new' ho59 (Kd.R_lt (by (with_reducible repeat (first | apply Kd.R_alloc | apply Kd.R_drewN | apply Kd.R_drew));exact HO_3.out))) (Kd.R_lt (by (with_reducible repeat (first | apply Kd.R_alloc | apply Kd.R_drewN | apply Kd.R_drew));exact HO125.out))) (Kd.R_lt (by (with_reducible repeat (first | apply Kd.R_alloc | apply Kd.R_drewN | apply Kd.R_drew));exact HO128.out))) (below_size (by repeat (first | (with_reducible first | exact HB.out | apply below_alloc | apply pw_below_drewN | apply below_drew1) | exact HB.out))));have n4_ := Aside0.mk (below_step (by repeat (first | (with_reducible first | exact HB.out | apply below_alloc | apply pw_below_drewN | apply below_drew1) | exact HB.out)) hb);clear HO_3;clear HO125;clear HO128;clear HB;have HO_3 := n0_;have HO125 := n1_;have HO128 := n2_;have HO131 := n3_;have HB := n4_;clear n0_ n1_ n2_ n3_ n4_;clear hb ho59) | ((with_reducible refine gate_builtin (b := .append) (xs := #[.tmp 58, .tmp 59]) rfl ?_);(try (refine gate_guard (by rfl) ?_;dsimp only));at_builtin;refine Kd.R_append_rows k26 (w0 := w) w.heap.size rfl (.tmp 58) (.tmp 59) 32 26 (.agg #[(.int .i64 0), (.int .i64 0), (.int .i64 0)]) 24 rfl Try.underlying32 info26 rfl (by decide) (by omega) v130 y129 t101 _ _ _ (fun k_ => some k_ ≠ (.slice (some ad122) t101.length co48 : Value).ownBlock ∧ some k_ ≠ (.slice Ao57 y123.length co57 : Value).ownBlock ∧ some k_ ≠ (v127 : Value).ownBlock) (fun _ => False) rfl rfl ?aO ?aR (fun _ _ h => h) (fun _ h => h.elim) ?aF ?aB ?aS ?aL ?_;(case aR => repeat (first | exact (Kd.R_reads' HO_3.out).2.2 | (with_reducible refine Kd.C_alloc ?_ _) | (with_reducible refine Kd.C_drewN ?_ _) | (with_reducible refine Kd.C_drew ?_)));(case aB => exact (by repeat (first | (with_reducible first | exact HB.out | apply below_alloc | apply pw_below_drewN | apply below_drew1) | exact HB.out)));(case aF => exact (fun k_ hk => ⟨Kd.fresh' (Kd.R_lt (by (with_reducible repeat (first | apply Kd.R_alloc | apply Kd.R_drewN | apply Kd.R_drew));exact HO_3.out)) k_ hk, Kd.fresh' (Kd.R_lt (by (with_reducible repeat (first | apply Kd.R_alloc | apply Kd.R_drewN | apply Kd.R_drew));exact HO125.out)) k_ hk, Kd.fresh' (Kd.R_lt (by (with_reducible repeat (first | apply Kd.R_alloc | apply Kd.R_drewN | apply Kd.R_drew));exact HO128.out)) k_ hk⟩));(case aO => exact (by (with_reducible repeat (first | apply Kd.R_alloc | apply Kd.R_drewN | apply Kd.R_drew));exact Kd.R_mono HO131.out (fun _ hk => ⟨hk.1.1.2, ⟨hk.1.2, hk.2⟩⟩)));(case aS => exact (below_size (by repeat (first | (with_reducible first | exact HB.out | apply below_alloc | apply pw_below_drewN | apply below_drew1) | exact HB.out))));(case aL => have := LMc42.out;omega);intro v133 w60 ho hb hg hat;rw [← Ny132.out] at ho;have n0_ := Aside0.mk (Kd.R_after (ok := (fun k_ => some k_ ≠ (.slice Ao57 y123.length co57 : Value).ownBlock ∧ some k_ ≠ (v127 : Value).ownBlock)) (by (with_reducible repeat (first | apply Kd.R_alloc | apply Kd.R_drewN | apply Kd.R_drew));exact HO_3.out) hg hat);have n1_ := Aside0.mk (Kd.R_after (ok := (fun k_ => some k_ ≠ (.slice (some ad122) t101.length co48 : Value).ownBlock ∧ some k_ ≠ (v127 : Value).ownBlock)) (by (with_reducible repeat (first | apply Kd.R_alloc | apply Kd.R_drewN | apply Kd.R_drew));exact HO125.out) hg hat);have n2_ := Aside0.mk (Kd.R_after (ok := (fun k_ => some k_ ≠ (.slice (some ad122) t101.length co48 : Value).ownBlock ∧ some k_ ≠ (.slice Ao57 y123.length co57 : Value).ownBlock)) (by (with_reducible repeat (first | apply Kd.R_alloc | apply Kd.R_drewN | apply Kd.R_drew));exact HO128.out) hg hat);have n3_ := Aside0.mk (hb);have n4_ := Aside0.mk (ho);clear HO_3;clear HO125;clear HO128;clear HB;clear HO131;have HO_3 := n0_;have HO125 := n1_;have HO128 := n2_;have HB := n3_;have HO134 := n4_;clear n0_ n1_ n2_ n3_ n4_;clear ho hb hg hat;have p44 : 0 ≤ (0 : Int) := (by omega);have q44 : (0 : Int) < ((y132.length : Int) : Int) := of_decide_eq_true (by first | (with_reducible assumption) | assumption);have qi44 : (0 < y132.length) = True := eq_true (by omega);obtain ⟨go44, co44, eo44, gb44, gl44, cl44, HG44⟩ := Kd.R_form HO134.out (by omega);(first | cases eo44 | (injection eo44 with ea_ en_ ec_;(first | subst ea_ | (injection ea_ with ea_;subst ea_));subst ec_;clear en_));have GB44 := Aside0.mk gb44;have GG44 := Aside0.mk HG44;clear gb44 gl44 HG44;obtain ⟨ce44, hcl44, hM44, hcc44, hfr44⟩ := Kd.R_elem HO134.out z26 (0 : Int) p44 q44;obtain rfl := k26_openM hM44;have hx44_0 : w60.cell? ⟨go44, (0 : Int).toNat * 3, none⟩ = some (.int .i64 ((rd_T26 y132 0).f0)) := hcc44 0 _ rfl;have hx44_1 : w60.cell? ⟨go44, (0 : Int).toNat * 3 + 1, none⟩ = some (.int .i64 ((rd_T26 y132 0).f1)) := hcc44 1 _ rfl;have hx44_2 : w60.cell? ⟨go44, (0 : Int).toNat * 3 + 2, none⟩ = some (.int .i64 ((rd_T26 y132 0).f2)) := hcc44 2 _ rfl;have hf44_0 : w60.frozen? ⟨go44, (0 : Int).toNat * 3, none⟩ = false := hfr44 0;have hf44_1 : w60.frozen? ⟨go44, (0 : Int).toNat * 3 + 1, none⟩ = false := hfr44 1;have hf44_2 : w60.frozen? ⟨go44, (0 : Int).toNat * 3 + 2, none⟩ = false := hfr44 2;clear hcl44 hcc44 hfr44 hM44;(try rw [show ((0 : Int)).toNat = 0 from rfl] at hx44_0);(try simp only [Nat.reduceMul, Nat.zero_mul, Nat.zero_add, Nat.reduceAdd] at hx44_0);(try rw [show ((0 : Int)).toNat = 0 from rfl] at hf44_0);(try simp only [Nat.reduceMul, Nat.zero_mul, Nat.zero_add, Nat.reduceAdd] at hf44_0);(try rw [show ((0 : Int)).toNat = 0 from rfl] at hx44_1);(try simp only [Nat.reduceMul, Nat.zero_mul, Nat.zero_add, Nat.reduceAdd] at hx44_1);(try rw [show ((0 : Int)).toNat = 0 from rfl] at hf44_1);(try simp only [Nat.reduceMul, Nat.zero_mul, Nat.zero_add, Nat.reduceAdd] at hf44_1);(try rw [show ((0 : Int)).toNat = 0 from rfl] at hx44_2);(try simp only [Nat.reduceMul, Nat.zero_mul, Nat.zero_add, Nat.reduceAdd] at hx44_2);(try rw [show ((0 : Int)).toNat = 0 from rfl] at hf44_2);(try simp only [Nat.reduceMul, Nat.zero_mul, Nat.zero_add, Nat.reduceAdd] at hf44_2);replace p44 := eq_true p44;replace q44 := eq_true q44;have HX61 := Aside0.mk (show Kd.R k26 26 w60 w.heap.size (fun k_ => some k_ ≠ (.slice (some ad122) t101.length co48 : Value).ownBlock ∧ some k_ ≠ (.slice Ao57 y123.length co57 : Value).ownBlock ∧ some k_ ≠ (v127 : Value).ownBlock) (.slice (some ⟨go44, 0, none⟩) y132.length co44) y132 from (by (with_reducible repeat (first | apply Kd.R_alloc | apply Kd.R_drewN | apply Kd.R_drew));exact HO134.out));obtain ⟨ce61, hcl61, hM61, hcc61, hfr61⟩ := Kd.R_elem HX61.out z26 (0 : Int) (by omega) (by have h_ : (0 : Int) < ((y132.length : Int) : Int) := of_decide_eq_true (by first | (with_reducible assumption) | assumption);first | exact h_ | (have e_ := (Kd.R_reads' HO134.out).1;omega) | simpa using h_);obtain rfl := k26_openM hM61;have HP61 := Kd.R_seg HX61.out (0 : Int) (by omega) (by have h_ : (0 : Int) < ((y132.length : Int) : Int) := of_decide_eq_true (by first | (with_reducible assumption) | assumption);first | exact h_ | (have e_ := (Kd.R_reads' HO134.out).1;omega) | simpa using h_) (seg := [.int .i64 5]) (j := 0) hcl61 hcc61 (show 1 ≤ 3 from by decide) (x' := (⟨5, (rd_T26 y132 0).f1, (rd_T26 y132 0).f2⟩ : S26)) (k26_mkM _ _ _ (⟨5, (rd_T26 y132 0).f1, (rd_T26 y132 0).f2⟩ : S26) ) (fun _ hk => hk);have hx61_0 := hcc61 0 _ rfl;(try simp only [show (k26).sz = 3 from rfl, Nat.mul_one, Nat.add_zero] at hx61_0);(try rw [show ((0 : Int)).toNat = 0 from rfl] at hx61_0);(try simp only [Nat.reduceMul, Nat.zero_mul, Nat.zero_add, Nat.reduceAdd] at hx61_0);have hf61_0 := hfr61 0;(try simp only [show (k26).sz = 3 from rfl, Nat.mul_one, Nat.add_zero] at hf61_0);(try rw [show ((0 : Int)).toNat = 0 from rfl] at hf61_0);(try simp only [Nat.reduceMul, Nat.zero_mul, Nat.zero_add, Nat.reduceAdd] at hf61_0);clear hcl61 hcc61 hfr61 hM61) | ((with_reducible refine gate_store (t := 3) (p := 63) rfl ?_);refine store_event (t := 3) (p := 63) (v := ?vo_w62) (w1 := (w60.setCell ⟨go44, 0, none⟩ (.int .i64 5))) ?hg ?ho ?hn ?hr ?_;(case ho => rfl);(case hg => rfl);(case hn => rfl);(case hr => first | (go_simp;done) | (go_simp;rfl));intro w62 hw;have hg : w60.grownBy w62 (some go44) := (by rw [hw];exact HP61.2);have hp_ : Kd.R k26 26 w62 w.heap.size (fun k_ => some k_ ≠ (.slice (some ad122) t101.length co48 : Value).ownBlock ∧ some k_ ≠ (.slice Ao57 y123.length co57 : Value).ownBlock ∧ some k_ ≠ (v127 : Value).ownBlock) (.slice (some ⟨go44, 0, none⟩) y132.length co44) y135 := (by rw [hw, Ny135.out];exact HP61.1);clear HP61;have n0_ := Aside0.mk (Kd.R_after (v := (.slice (some ⟨go44, 0, none⟩) y132.length co44)) (v1 := (.slice (some ⟨go44, 0, none⟩) y132.length co44)) (ok := (fun k_ => some k_ ≠ (.slice Ao57 y123.length co57 : Value).ownBlock ∧ some k_ ≠ (v127 : Value).ownBlock)) (by (with_reducible repeat (first | apply Kd.R_alloc | apply Kd.R_drewN | apply Kd.R_drew));exact HO_3.out) hg (.inl rfl));have n1_ := Aside0.mk (Kd.R_after (v := (.slice (some ⟨go44, 0, none⟩) y132.length co44)) (v1 := (.slice (some ⟨go44, 0, none⟩) y132.length co44)) (ok := (fun k_ => some k_ ≠ (.slice (some ad122) t101.length co48 : Value).ownBlock ∧ some k_ ≠ (v127 : Value).ownBlock)) (by (with_reducible repeat (first | apply Kd.R_alloc | apply Kd.R_drewN | apply Kd.R_drew));exact HO125.out) hg (.inl rfl));have n2_ := Aside0.mk (Kd.R_after (v := (.slice (some ⟨go44, 0, none⟩) y132.length co44)) (v1 := (.slice (some ⟨go44, 0, none⟩) y132.length co44)) (ok := (fun k_ => some k_ ≠ (.slice (some ad122) t101.length co48 : Value).ownBlock ∧ some k_ ≠ (.slice Ao57 y123.length co57 : Value).ownBlock)) (by (with_reducible repeat (first | apply Kd.R_alloc | apply Kd.R_drewN | apply Kd.R_drew));exact HO128.out) hg (.inl rfl));have n3_ := Aside0.mk (hp_);have n4_ := Aside0.mk ((by rw [hw];exact below_set (HB.out) GB44.out : Below w.heap.size w w62));clear HO_3;clear HO125;clear HO128;clear HO134;clear HB;have HO_3 := n0_;have HO125 := n1_;have HO128 := n2_;have HO134 := n3_;have HB := n4_;clear n0_ n1_ n2_ n3_ n4_;clear hg hw hp_) | ((with_reducible refine gate_dst (N := 64) rfl ?_);(try (refine gate_guard (by rfl) ?_;dsimp only));refine Kd.R_lit k26 _ 26 ?hg (N := 64) ?hd (xs := ([] : List (S26))) (inner := []) (ok := fun _ => True) (okp := fun _ => True) ?hr ?hp (fun _ hk => hk) trivial (Below.refl _ _) (Nat.le_refl _) (by simp) ?_;(case hd => rfl);(case hg => rfl);(case hr => first | (go_simp;done) | (go_simp;rfl));(case hp => exact (Reps.none _ _));intro v137 w63 ho64 hb hg_ hnew_;clear hg_ hnew_;(first | rw [← Ny136.out] at ho64 | (simp only [Int.reduceToNat] at ho64;rw [← Ny136.out] at ho64));have n0_ := Aside0.mk (Kd.R_elder' (by (with_reducible repeat (first | apply Kd.R_alloc | apply Kd.R_drewN | apply Kd.R_drew));exact HO_3.out) (Kd.R_base ho64) hb);have n1_ := Aside0.mk (Kd.R_elder' (by (with_reducible repeat (first | apply Kd.R_alloc | apply Kd.R_drewN | apply Kd.R_drew));exact HO125.out) (Kd.R_base ho64) hb);have n2_ := Aside0.mk (Kd.R_elder' (by (with_reducible repeat (first | apply Kd.R_alloc | apply Kd.R_drewN | apply Kd.R_drew));exact HO128.out) (Kd.R_base ho64) hb);have n3_ := Aside0.mk (Kd.R_elder' (by (with_reducible repeat (first | apply Kd.R_alloc | apply Kd.R_drewN | apply Kd.R_drew));exact HO134.out) (Kd.R_base ho64) hb);have n4_ := Aside0.mk (Kd.R_lower (Kd.R_new' (Kd.R_new' (Kd.R_new' (Kd.R_new' ho64 (Kd.R_lt (by (with_reducible repeat (first | apply Kd.R_alloc | apply Kd.R_drewN | apply Kd.R_drew));exact HO_3.out))) (Kd.R_lt (by (with_reducible repeat (first | apply Kd.R_alloc | apply Kd.R_drewN | apply Kd.R_drew));exact HO125.out))) (Kd.R_lt (by (with_reducible repeat (first | apply Kd.R_alloc | apply Kd.R_drewN | apply Kd.R_drew));exact HO128.out))) (Kd.R_lt (by (with_reducible repeat (first | apply Kd.R_alloc | apply Kd.R_drewN | apply Kd.R_drew));exact HO134.out))) (below_size (by repeat (first | (with_reducible first | exact HB.out | apply below_alloc | apply pw_below_drewN | apply below_drew1) | exact HB.out))));have n5_ := Aside0.mk (below_step (by repeat (first | (with_reducible first | exact HB.out | apply below_alloc | apply pw_below_drewN | apply below_drew1) | exact HB.out)) hb);clear HO_3;clear HO125;clear HO128;clear HO134;clear HB;have HO_3 := n0_;have HO125 := n1_;have HO128 := n2_;have HO134 := n3_;have HO138 := n4_;have HB := n5_;clear n0_ n1_ n2_ n3_ n4_ n5_;clear hb ho64) | ((with_reducible refine gate_builtin (b := .append) (xs := #[.tmp 64, .tmp 65]) rfl ?_);(try (refine gate_guard (by rfl) ?_;dsimp only));at_builtin;refine Kd.R_append_rows k26 (w0 := w) w.heap.size rfl (.tmp 64) (.tmp 65) 32 26 (.agg #[(.int .i64 0), (.int .i64 0), (.int .i64 0)]) 24 rfl Try.underlying32 info26 rfl (by decide) (by omega) v137 y136 t101 _ _ _ (fun k_ => some k_ ≠ (.slice (some ad122) t101.length co48 : Value).ownBlock ∧ some k_ ≠ (.slice Ao57 y123.length co57 : Value).ownBlock ∧ some k_ ≠ (v127 : Value).ownBlock ∧ some k_ ≠ (.slice (some ⟨go44, 0, none⟩) y132.length co44 : Value).ownBlock) (fun _ => False) rfl rfl ?aO ?aR (fun _ _ h => h) (fun _ h => h.elim) ?aF ?aB ?aS ?aL ?_;(case aR => repeat (first | exact (Kd.R_reads' HO_3.out).2.2 | (with_reducible refine Kd.C_alloc ?_ _) | (with_reducible refine Kd.C_drewN ?_ _) | (with_reducible refine Kd.C_drew ?_)));(case aB => exact (by repeat (first | (with_reducible first | exact HB.out | apply below_alloc | apply pw_below_drewN | apply below_drew1) | exact HB.out)));(case aF => exact (fun k_ hk => ⟨Kd.fresh' (Kd.R_lt (by (with_reducible repeat (first | apply Kd.R_alloc | apply Kd.R_drewN | apply Kd.R_drew));exact HO_3.out)) k_ hk, Kd.fresh' (Kd.R_lt (by (with_reducible repeat (first | apply Kd.R_alloc | apply Kd.R_drewN | apply Kd.R_drew));exact HO125.out)) k_ hk, Kd.fresh' (Kd.R_lt (by (with_reducible repeat (first | apply Kd.R_alloc | apply Kd.R_drewN | apply Kd.R_drew));exact HO128.out)) k_ hk, Kd.fresh' (Kd.R_lt (by (with_reducible repeat (first | apply Kd.R_alloc | apply Kd.R_drewN | apply Kd.R_drew));exact HO134.out)) k_ hk⟩));(case aO => exact (by (with_reducible repeat (first | apply Kd.R_alloc | apply Kd.R_drewN | apply Kd.R_drew));exact Kd.R_mono HO138.out (fun _ hk => ⟨hk.1.1.1.2, ⟨hk.1.1.2, ⟨hk.1.2, hk.2⟩⟩⟩)));(case aS => exact (below_size (by repeat (first | (with_reducible first | exact HB.out | apply below_alloc | apply pw_below_drewN | apply below_drew1) | exact HB.out))));(case aL => have := LMc45.out;omega);intro v140 w65 ho hb hg hat;rw [← Ny139.out] at ho;have n0_ := Aside0.mk (Kd.R_after (ok := (fun k_ => some k_ ≠ (.slice Ao57 y123.length co57 : Value).ownBlock ∧ some k_ ≠ (v127 : Value).ownBlock ∧ some k_ ≠ (.slice (some ⟨go44, 0, none⟩) y132.length co44 : Value).ownBlock)) (by (with_reducible repeat (first | apply Kd.R_alloc | apply Kd.R_drewN | apply Kd.R_drew));exact Kd.R_mono HO_3.out (fun _ hk => ⟨⟨hk.1.1.1, ⟨hk.1.1.2, hk.1.2⟩⟩, hk.2⟩)) hg hat);have n1_ := Aside0.mk (Kd.R_after (ok := (fun k_ => some k_ ≠ (.slice (some ad122) t101.length co48 : Value).ownBlock ∧ some k_ ≠ (v127 : Value).ownBlock ∧ some k_ ≠ (.slice (some ⟨go44, 0, none⟩) y132.length co44 : Value).ownBlock)) (by (with_reducible repeat (first | apply Kd.R_alloc | apply Kd.R_drewN | apply Kd.R_drew));exact Kd.R_mono HO125.out (fun _ hk => ⟨⟨hk.1.1.1, ⟨hk.1.1.2, hk.1.2⟩⟩, hk.2⟩)) hg hat);have n2_ := Aside0.mk (Kd.R_after (ok := (fun k_ => some k_ ≠ (.slice (some ad122) t101.length co48 : Value).ownBlock ∧ some k_ ≠ (.slice Ao57 y123.length co57 : Value).ownBlock ∧ some k_ ≠ (.slice (some ⟨go44, 0, none⟩) y132.length co44 : Value).ownBlock)) (by (with_reducible repeat (first | apply Kd.R_alloc | apply Kd.R_drewN | apply Kd.R_drew));exact Kd.R_mono HO128.out (fun _ hk => ⟨⟨hk.1.1.1, ⟨hk.1.1.2, hk.1.2⟩⟩, hk.2⟩)) hg hat);have n3_ := Aside0.mk (Kd.R_after (ok := (fun k_ => some k_ ≠ (.slice (some ad122) t101.length co48 : Value).ownBlock ∧ some k_ ≠ (.slice Ao57 y123.length co57 : Value).ownBlock ∧ some k_ ≠ (v127 : Value).ownBlock)) (by (with_reducible repeat (first | apply Kd.R_alloc | apply Kd.R_drewN | apply Kd.R_drew));exact HO134.out) hg hat);have n4_ := Aside0.mk (hb);have n5_ := Aside0.mk (ho);clear HO_3;clear HO125;clear HO128;clear HO134;clear HB;clear HO138;have HO_3 := n0_;have HO125 := n1_;have HO128 := n2_;have HO134 := n3_;have HB := n4_;have HO141 := n5_;clear n0_ n1_ n2_ n3_ n4_ n5_;clear ho hb hg hat;have p47 : 0 ≤ (0 : Int) := (by omega);have q47 : (0 : Int) < ((y139.length : Int) : Int) := of_decide_eq_true (by first | (with_reducible assumption) | assumption);have qi47 : (0 < y139.length) = True := eq_true (by omega);obtain ⟨go47, co47, eo47, gb47, gl47, cl47, HG47⟩ := Kd.R_form HO141.out (by omega);(first | cases eo47 | (injection eo47 with ea_ en_ ec_;(first | subst ea_ | (injection ea_ with ea_;subst ea_));subst ec_;clear en_));have GB47 := Aside0.mk gb47;have GG47 := Aside0.mk HG47;clear gb47 gl47 HG47;obtain ⟨ce47, hcl47, hM47, hcc47, hfr47⟩ := Kd.R_elem HO141.out z26 (0 : Int) p47 q47;obtain rfl := k26_openM hM47;have hx47_0 : w65.cell? ⟨go47, (0 : Int).toNat * 3, none⟩ = some (.int .i64 ((rd_T26 y139 0).f0)) := hcc47 0 _ rfl;have hx47_1 : w65.cell? ⟨go47, (0 : Int).toNat * 3 + 1, none⟩ = some (.int .i64 ((rd_T26 y139 0).f1)) := hcc47 1 _ rfl;have hx47_2 : w65.cell? ⟨go47, (0 : Int).toNat * 3 + 2, none⟩ = some (.int .i64 ((rd_T26 y139 0).f2)) := hcc47 2 _ rfl;have hf47_0 : w65.frozen? ⟨go47, (0 : Int).toNat * 3, none⟩ = false := hfr47 0;have hf47_1 : w65.frozen? ⟨go47, (0 : Int).toNat * 3 + 1, none⟩ = false := hfr47 1;have hf47_2 : w65.frozen? ⟨go47, (0 : Int).toNat * 3 + 2, none⟩ = false := hfr47 2;clear hcl47 hcc47 hfr47 hM47;(try rw [show ((0 : Int)).toNat = 0 from rfl] at hx47_0);(try simp only [Nat.reduceMul, Nat.zero_mul, Nat.zero_add, Nat.reduceAdd] at hx47_0);(try rw [show ((0 : Int)).toNat = 0 from rfl] at hf47_0);(try simp only [Nat.reduceMul, Nat.zero_mul, Nat.zero_add, Nat.reduceAdd] at hf47_0);(try rw [show ((0 : Int)).toNat = 0 from rfl] at hx47_1);(try simp only [Nat.reduceMul, Nat.zero_mul, Nat.zero_add, Nat.reduceAdd] at hx47_1);(try rw [show ((0 : Int)).toNat = 0 from rfl] at hf47_1);(try simp only [Nat.reduceMul, Nat.zero_mul, Nat.zero_add, Nat.reduceAdd] at hf47_1);(try rw [show ((0 : Int)).toNat = 0 from rfl] at hx47_2);(try simp only [Nat.reduceMul, Nat.zero_mul, Nat.zero_add, Nat.reduceAdd] at hx47_2);(try rw [show ((0 : Int)).toNat = 0 from rfl] at hf47_2);(try simp only [Nat.reduceMul, Nat.zero_mul, Nat.zero_add, Nat.reduceAdd] at hf47_2);replace p47 := eq_true p47;replace q47 := eq_true q47;have HX66 := Aside0.mk (show Kd.R k26 26 w65 w.heap.size (fun k_ => some k_ ≠ (.slice (some ad122) t101.length co48 : Value).ownBlock ∧ some k_ ≠ (.slice Ao57 y123.length co57 : Value).ownBlock ∧ some k_ ≠ (v127 : Value).ownBlock ∧ some k_ ≠ (.slice (some ⟨go44, 0, none⟩) y132.length co44 : Value).ownBlock) (.slice (some ⟨go47, 0, none⟩) y139.length co47) y139 from (by (with_reducible repeat (first | apply Kd.R_alloc | apply Kd.R_drewN | apply Kd.R_drew));exact HO141.out));obtain ⟨ce66, hcl66, hM66, hcc66, hfr66⟩ := Kd.R_elem HX66.out z26 (0 : Int) (by omega) (by have h_ : (0 : Int) < ((y139.length : Int) : Int) := of_decide_eq_true (by first | (with_reducible assumption) | assumption);first | exact h_ | (have e_ := (Kd.R_reads' HO141.out).1;omega) | simpa using h_);obtain rfl := k26_openM hM66;have HP66 := Kd.R_seg HX66.out (0 : Int) (by omega) (by have h_ : (0 : Int) < ((y139.length : Int) : Int) := of_decide_eq_true (by first | (with_reducible assumption) | assumption);first | exact h_ | (have e_ := (Kd.R_reads' HO141.out).1;omega) | simpa using h_) (seg := [.int .i64 101]) (j := 2) hcl66 hcc66 (show 3 ≤ 3 from by decide) (x' := (⟨(rd_T26 y139 0).f0, (rd_T26 y139 0).f1, 101⟩ : S26)) (k26_mkM _ _ _ (⟨(rd_T26 y139 0).f0, (rd_T26 y139 0).f1, 101⟩ : S26) ) (fun _ hk => hk);have hx66_2 := hcc66 2 _ rfl;(try simp only [show (k26).sz = 3 from rfl, Nat.mul_one, Nat.add_zero] at hx66_2);(try rw [show ((0 : Int)).toNat = 0 from rfl] at hx66_2);(try simp only [Nat.reduceMul, Nat.zero_mul, Nat.zero_add, Nat.reduceAdd] at hx66_2);have hf66_2 := hfr66 2;(try simp only [show (k26).sz = 3 from rfl, Nat.mul_one, Nat.add_zero] at hf66_2);(try rw [show ((0 : Int)).toNat = 0 from rfl] at hf66_2);(try simp only [Nat.reduceMul, Nat.zero_mul, Nat.zero_add, Nat.reduceAdd] at hf66_2);clear hcl66 hcc66 hfr66 hM66) | ((with_reducible refine gate_store (t := 3) (p := 69) rfl ?_);refine store_event (t := 3) (p := 69) (v := ?vo_w67) (w1 := (w65.setCell ⟨go47, 2, none⟩ (.int .i64 101))) ?hg ?ho ?hn ?hr ?_;(case ho => rfl);(case hg => rfl);(case hn => rfl);(case hr => first | (go_simp;done) | (go_simp;rfl));intro w67 hw;have hg : w65.grownBy w67 (some go47) := (by rw [hw];exact HP66.2);have hp_ : Kd.R k26 26 w67 w.heap.size (fun k_ => some k_ ≠ (.slice (some ad122) t101.length co48 : Value).ownBlock ∧ some k_ ≠ (.slice Ao57 y123.length co57 : Value).ownBlock ∧ some k_ ≠ (v127 : Value).ownBlock ∧ some k_ ≠ (.slice (some ⟨go44, 0, none⟩) y132.length co44 : Value).ownBlock) (.slice (some ⟨go47, 0, none⟩) y139.length co47) y142 := (by rw [hw, Ny142.out];exact HP66.1);clear HP66;have n0_ := Aside0.mk (Kd.R_after (v := (.slice (some ⟨go47, 0, none⟩) y139.length co47)) (v1 := (.slice (some ⟨go47, 0, none⟩) y139.length co47)) (ok := (fun k_ => some k_ ≠ (.slice Ao57 y123.length co57 : Value).ownBlock ∧ some k_ ≠ (v127 : Value).ownBlock ∧ some k_ ≠ (.slice (some ⟨go44, 0, none⟩) y132.length co44 : Value).ownBlock)) (by (with_reducible repeat (first | apply Kd.R_alloc | apply Kd.R_drewN | apply Kd.R_drew));exact HO_3.out) hg (.inl rfl));have n1_ := Aside0.mk (Kd.R_after (v := (.slice (some ⟨go47, 0, none⟩) y139.length co47)) (v1 := (.slice (some ⟨go47, 0, none⟩) y139.length co47)) (ok := (fun k_ => some k_ ≠ (.slice (some ad122) t101.length co48 : Value).ownBlock ∧ some k_ ≠ (v127 : Value).ownBlock ∧ some k_ ≠ (.slice (some ⟨go44, 0, none⟩) y132.length co44 : Value).ownBlock)) (by (with_reducible repeat (first | apply Kd.R_alloc | apply Kd.R_drewN | apply Kd.R_drew));exact HO125.out) hg (.inl rfl));have n2_ := Aside0.mk (Kd.R_after (v := (.slice (some ⟨go47, 0, none⟩) y139.length co47)) (v1 := (.slice (some ⟨go47, 0, none⟩) y139.length co47)) (ok := (fun k_ => some k_ ≠ (.slice (some ad122) t101.length co48 : Value).ownBlock ∧ some k_ ≠ (.slice Ao57 y123.length co57 : Value).ownBlock ∧ some k_ ≠ (.slice (some ⟨go44, 0, none⟩) y132.length co44 : Value).ownBlock)) (by (with_reducible repeat (first | apply Kd.R_alloc | apply Kd.R_drewN | apply Kd.R_drew));exact HO128.out) hg (.inl rfl));have n3_ := Aside0.mk (Kd.R_after (v := (.slice (some ⟨go47, 0, none⟩) y139.length co47)) (v1 := (.slice (some ⟨go47, 0, none⟩) y139.length co47)) (ok := (fun k_ => some k_ ≠ (.slice (some ad122) t101.length co48 : Value).ownBlock ∧ some k_ ≠ (.slice Ao57 y123.length co57 : Value).ownBlock ∧ some k_ ≠ (v127 : Value).ownBlock)) (by (with_reducible repeat (first | apply Kd.R_alloc | apply Kd.R_drewN | apply Kd.R_drew));exact HO134.out) hg (.inl rfl));have n4_ := Aside0.mk (hp_);have n5_ := Aside0.mk ((by rw [hw];exact below_set (HB.out) GB47.out : Below w.heap.size w w67));clear HO_3;clear HO125;clear HO128;clear HO134;clear HO141;clear HB;have HO_3 := n0_;have HO125 := n1_;have HO128 := n2_;have HO134 := n3_;have HO141 := n4_;have HB := n5_;clear n0_ n1_ n2_ n3_ n4_ n5_;clear hg hw hp_))
                go_loopg [6] kj28 (fun kq v6 w' => ∃ (x6_3 : List (S26)), Aside0 (laws_FnEvBent.l0 kq t101 x6_3 y135 y142 = some r) ∧ Aside0 (kq ≤ kj28) ∧ Aside0 (Kd.R k26 26 w' w.heap.size (fun k_ => some k_ ≠ (v6 : Value).ownBlock ∧ some k_ ≠ ((.slice (some ⟨go44, 0, none⟩) y132.length co44) : Value).ownBlock ∧ some k_ ≠ ((.slice (some ⟨go47, 0, none⟩) y139.length co47) : Value).ownBlock) (.slice (some ad122) t101.length co48) t101) ∧ Aside0 (Kd.R k26 26 w' w.heap.size (fun k_ => some k_ ≠ ((.slice (some ad122) t101.length co48) : Value).ownBlock ∧ some k_ ≠ ((.slice (some ⟨go44, 0, none⟩) y132.length co44) : Value).ownBlock ∧ some k_ ≠ ((.slice (some ⟨go47, 0, none⟩) y139.length co47) : Value).ownBlock) v6 x6_3) ∧ Aside0 (Kd.R k26 26 w' w.heap.size (fun k_ => some k_ ≠ ((.slice (some ad122) t101.length co48) : Value).ownBlock ∧ some k_ ≠ (v6 : Value).ownBlock ∧ some k_ ≠ ((.slice (some ⟨go47, 0, none⟩) y139.length co47) : Value).ownBlock) (.slice (some ⟨go44, 0, none⟩) y132.length co44) y135) ∧ Aside0 (Kd.R k26 26 w' w.heap.size (fun k_ => some k_ ≠ ((.slice (some ad122) t101.length co48) : Value).ownBlock ∧ some k_ ≠ (v6 : Value).ownBlock ∧ some k_ ≠ ((.slice (some ⟨go44, 0, none⟩) y132.length co44) : Value).ownBlock) (.slice (some ⟨go47, 0, none⟩) y139.length co47) y142) ∧ Aside0 (Below w.heap.size w w'))
                case atStart => exact ⟨(y126), H', ⟨Nat.le_refl _⟩, ⟨by (with_reducible repeat (first | apply Kd.R_alloc | apply Kd.R_drewN | apply Kd.R_drew));exact Kd.R_mono HO_3.out (fun _ hk => ⟨hk.1.2.1, ⟨hk.1.2.2, hk.2⟩⟩)⟩, ⟨by (with_reducible repeat (first | apply Kd.R_alloc | apply Kd.R_drewN | apply Kd.R_drew));exact Kd.R_mono HO128.out (fun _ hk => ⟨hk.1.1, ⟨hk.1.2.2, hk.2⟩⟩)⟩, ⟨by (with_reducible repeat (first | apply Kd.R_alloc | apply Kd.R_drewN | apply Kd.R_drew));exact Kd.R_mono HO134.out (fun _ hk => ⟨hk.1.1, ⟨hk.1.2.2, hk.2⟩⟩)⟩, ⟨by (with_reducible repeat (first | apply Kd.R_alloc | apply Kd.R_drewN | apply Kd.R_drew));exact Kd.R_mono HO141.out (fun _ hk => ⟨hk.1, ⟨hk.2.2.1, hk.2.2.2⟩⟩)⟩, ⟨by repeat (first | (with_reducible first | exact HB.out | apply below_alloc | apply pw_below_drewN | apply below_drew1) | exact HB.out)⟩⟩
                case round =>
                 clear H'
                 try clear c1
                 try clear p1
                 try clear q1
                 try clear hx1
                 try clear c2
                 try clear c2b0
                 try clear c2b1
                 try clear p2
                 try clear c3
                 try clear c4
                 try clear p4
                 try clear q4
                 try clear hx4
                 try clear qi4
                 try clear hf4
                 try clear c6
                 try clear p6
                 try clear hx6
                 try clear hf6
                 try clear c8
                 try clear c10
                 try clear c10b0
                 try clear c10b1
                 try clear c10b2
                 try clear p12
                 try clear q12
                 try clear hx12
                 try clear c16
                 try clear c16b0
                 try clear c16b1
                 try clear c16b2
                 try clear c18
                 try clear c19
                 try clear c24
                 try clear c25
                 try clear c28
                 try clear c31
                 try clear c36
                 try clear c37
                 try clear c39
                 try clear c39b0
                 try clear c40
                 try clear c40b0
                 try clear c41
                 try clear c42
                 try clear c43
                 try clear c43b0
                 try clear c43b1
                 try clear c44
                 try clear p44
                 try clear q44
                 try clear hx44
                 try clear qi44
                 try clear hf44
                 try clear c45
                 try clear c46
                 try clear c46b0
                 try clear c46b1
                 try clear c47
                 try clear p47
                 try clear q47
                 try clear hx47
                 try clear qi47
                 try clear hf47
                 try clear c61
                 try clear hx61
                 try clear hf61
                 try clear p64
                 try clear c66
                 try clear hx66
                 try clear hf66
                 try clear hx122_0
                 try clear hx122_1
                 try clear hx122_2
                 try clear hx44_0
                 try clear hx44_1
                 try clear hx44_2
                 try clear hx47_0
                 try clear hx47_1
                 try clear hx47_2
                 try clear hx61_0
                 try clear hx66_2
                 try clear p122
                 try clear p2
                 try clear p44
                 try clear p47
                 try clear q122
                 try clear q44
                 try clear q47
                 obtain ⟨x6_3, HA, HK3, HO_3, HO_6, HO_7, HO_8, HB⟩ := hrel
                 have hl7_3 := (Kd.R_reads' HO_7.out).1
                 rw [hl7_3] at HO_7
                 (try simp only [hl7_3])
                 (try simp only [hl7_3] at HO_3)
                 (try simp only [hl7_3] at HO_6)
                 (try simp only [hl7_3] at HO_8)
                 have hl8_3 := (Kd.R_reads' HO_8.out).1
                 rw [hl8_3] at HO_8
                 (try simp only [hl8_3])
                 (try simp only [hl8_3] at HO_3)
                 (try simp only [hl8_3] at HO_6)
                 (try simp only [hl8_3] at HO_7)
                 cases gk with
                 | zero => exact absurd HA.out (by simp [laws_FnEvBent.l0])
                 | succ k3 =>
                  have H := HA.out
                  clear HA
                  simp only [laws_FnEvBent.l0] at H
                  by_cases c68 : (x6_3.length : Int) < 25
                  ·rw [if_pos c68] at H
                   have c68b0 : decide ((x6_3.length : Int) < 25) = true := decide_eq_true c68
                   have c68b1 : decide (x6_3.length < 25) = true := decide_eq_true (by omega)
                   clear c68
                   obtain ⟨ji69, hji69⟩ : ∃ j_ : Int, (wrap64 ((x6_3.length : Int) - 1)) = j_ := ⟨_, rfl⟩
                   replace H : (if 0 ≤ (ji69) then (if (ji69) < (x6_3.length : Int) then ((some (([(⟨0, wrap64 (((rd_T26 x6_3 (ji69)).f1) + 1), 0⟩ : S26)] : List (S26)) : List (S26))).bind fun y144 => (if x6_3.length + y144.length < 5864062014805 then (laws_FnEvBent.l0 k3 t101 (x6_3 ++ y144) y135 y142) else (none))) else (none)) else (none)) = some r := by first | (rw [hji69] at H;exact H) | (simp only [hji69] at H ⊢;exact H)
                   have hji69w : (IntKind.i64.wrap ((x6_3.length : Int) - 1)) = ji69 := (i64_w _).trans hji69
                   by_cases c70 : 0 ≤ (ji69)
                   ·rw [if_pos c70] at H
                    have c70b0 : decide (0 ≤ (ji69)) = true := decide_eq_true c70
                    clear c70
                    by_cases c71 : (ji69) < (x6_3.length : Int)
                    ·rw [if_pos c71] at H
                     have c71b0 : decide ((ji69) < (x6_3.length : Int)) = true := decide_eq_true c71
                     clear c71
                     obtain ⟨y144, hy144⟩ : ∃ y_ : List (S26), y_ = (([(⟨0, wrap64 (((rd_T26 x6_3 (ji69)).f1) + 1), 0⟩ : S26)] : List (S26))) := ⟨_, rfl⟩
                     replace H : (if x6_3.length + y144.length < 5864062014805 then (laws_FnEvBent.l0 k3 t101 (x6_3 ++ y144) y135 y142) else (none)) = some r := by first | (rw [hy144];with_reducible exact H) | (have H2_ := (Option.bind_some _ _).symm.trans H;rw [hy144];with_reducible exact H2_) | (have H2_ := (Option.bind_some _ _).symm.trans H;with_reducible exact H2_) | with_reducible exact H | (rw [hy144];exact H) | exact H
                     have Ny144 := Aside0.mk hy144
                     clear hy144
                     by_cases c72 : x6_3.length + y144.length < 5864062014805
                     ·rw [if_pos c72] at H
                      have LMc72 := Aside0.mk c72
                      clear c72
                      obtain ⟨y147, hy147⟩ : ∃ y_ : List (S26), y_ = (x6_3 ++ y144) := ⟨_, rfl⟩
                      replace H : (laws_FnEvBent.l0 k3 t101 y147 y135 y142) = some r := by first | (rw [hy147];with_reducible exact H) | (have H2_ := (Option.bind_some _ _).symm.trans H;rw [hy147];with_reducible exact H2_) | (have H2_ := (Option.bind_some _ _).symm.trans H;with_reducible exact H2_) | with_reducible exact H | (rw [hy147];exact H) | exact H
                      have Ny147 := Aside0.mk hy147
                      clear hy147
                      have H' := Aside0.mk H
                      clear H
                      obtain ⟨Ao73, co73, eo73⟩ := Kd.R_slice HO_6.out
                      subst eo73
                      have p143 : 0 ≤ ((ji69) : Int) := of_decide_eq_true (by first | (with_reducible assumption) | assumption)
                      have q143 : (ji69) < (x6_3.length : Int) := of_decide_eq_true (by first | (with_reducible assumption) | assumption)
                      obtain ⟨ad143, e143, hx143_0, hx143_1, hx143_2⟩ := at_T26 (Kd.R_reads' HO_6.out).2.2 (ji69) p143 q143
                      cases e143
                      replace p143 := eq_true p143
                      replace q143 := eq_true q143
                      go_wp2_with (first | ((with_reducible refine gate_dst (N := 83) rfl ?_);(try (refine gate_guard (by rfl) ?_;dsimp only));refine Kd.R_lit k26 _ 26 ?hg (N := 83) ?hd (xs := ([(⟨0, wrap64 (((rd_T26 x6_3 (ji69)).f1) + 1), 0⟩ : S26)] : List (S26))) (inner := [.int .i64 0, .int .i64 (wrap64 (((rd_T26 x6_3 (ji69)).f1) + 1)), .int .i64 0]) (ok := fun _ => True) (okp := fun _ => True) ?hr ?hp (fun _ hk => hk) trivial (Below.refl _ _) (Nat.le_refl _) (by simp) ?_;(case hd => rfl);(case hg => rfl);(case hr => first | (go_simp;done) | (go_simp;rfl));(case hp => exact (Reps.c3 (show Kd.M k26 _ _ _ (⟨0, wrap64 (((rd_T26 x6_3 (ji69)).f1) + 1), 0⟩ : S26) [.int .i64 0, .int .i64 (wrap64 (((rd_T26 x6_3 (ji69)).f1) + 1)), .int .i64 0] from (k26_mkM _ _ _ (⟨0, wrap64 (((rd_T26 x6_3 (ji69)).f1) + 1), 0⟩ : S26) )) (Reps.none _ _)));intro v145 w74 ho75 hb hg_ hnew_;clear hg_ hnew_;(first | rw [← Ny144.out] at ho75 | (simp only [Int.reduceToNat] at ho75;rw [← Ny144.out] at ho75));have n0_ := Aside0.mk (Kd.R_elder' (by (with_reducible repeat (first | apply Kd.R_alloc | apply Kd.R_drewN | apply Kd.R_drew));exact HO_3.out) (Kd.R_base ho75) hb);have n1_ := Aside0.mk (Kd.R_elder' (by (with_reducible repeat (first | apply Kd.R_alloc | apply Kd.R_drewN | apply Kd.R_drew));exact HO_6.out) (Kd.R_base ho75) hb);have n2_ := Aside0.mk (Kd.R_elder' (by (with_reducible repeat (first | apply Kd.R_alloc | apply Kd.R_drewN | apply Kd.R_drew));exact HO_7.out) (Kd.R_base ho75) hb);have n3_ := Aside0.mk (Kd.R_elder' (by (with_reducible repeat (first | apply Kd.R_alloc | apply Kd.R_drewN | apply Kd.R_drew));exact HO_8.out) (Kd.R_base ho75) hb);have n4_ := Aside0.mk (Kd.R_lower (Kd.R_new' (Kd.R_new' (Kd.R_new' (Kd.R_new' ho75 (Kd.R_lt (by (with_reducible repeat (first | apply Kd.R_alloc | apply Kd.R_drewN | apply Kd.R_drew));exact HO_3.out))) (Kd.R_lt (by (with_reducible repeat (first | apply Kd.R_alloc | apply Kd.R_drewN | apply Kd.R_drew));exact HO_6.out))) (Kd.R_lt (by (with_reducible repeat (first | apply Kd.R_alloc | apply Kd.R_drewN | apply Kd.R_drew));exact HO_7.out))) (Kd.R_lt (by (with_reducible repeat (first | apply Kd.R_alloc | apply Kd.R_drewN | apply Kd.R_drew));exact HO_8.out))) (below_size (by exact HB.out)));have n5_ := Aside0.mk (below_step (by exact HB.out) hb);clear HO_3;clear HO_6;clear HO_7;clear HO_8;clear HB;have HO_3 := n0_;have HO_6 := n1_;have HO_7 := n2_;have HO_8 := n3_;have HO146 := n4_;have HB := n5_;clear n0_ n1_ n2_ n3_ n4_ n5_;clear hb ho75;obtain ⟨Ao77, co77, eo77⟩ := Kd.R_slice HO146.out;subst eo77) | ((with_reducible refine gate_builtin (b := .append) (xs := #[.tmp 73, .tmp 83]) rfl ?_);(try (refine gate_guard (by rfl) ?_;dsimp only));at_builtin;refine Kd.R_append_rows k26 (w0 := w) w.heap.size rfl (.tmp 73) (.tmp 83) 32 26 (.agg #[(.int .i64 0), (.int .i64 0), (.int .i64 0)]) 24 rfl Try.underlying32 info26 rfl (by decide) (by omega) (.slice (some ad143) x6_3.length co73) x6_3 y144 _ _ _ (fun k_ => some k_ ≠ (.slice (some ad122) t101.length co48 : Value).ownBlock ∧ some k_ ≠ (.slice (some ⟨go44, 0, none⟩) y135.length co44 : Value).ownBlock ∧ some k_ ≠ (.slice (some ⟨go47, 0, none⟩) y142.length co47 : Value).ownBlock ∧ some k_ ≠ (.slice Ao77 y144.length co77 : Value).ownBlock) (fun _ => False) rfl rfl ?aO ?aR (fun _ _ h => h) (fun _ h => h.elim) ?aF ?aB ?aS ?aL ?_;(case aR => repeat (first | exact (Kd.R_reads' HO146.out).2.2 | (with_reducible refine Kd.C_alloc ?_ _) | (with_reducible refine Kd.C_drewN ?_ _) | (with_reducible refine Kd.C_drew ?_)));(case aB => exact (by exact HB.out));(case aF => exact (fun k_ hk => ⟨Kd.fresh' (Kd.R_lt (by (with_reducible repeat (first | apply Kd.R_alloc | apply Kd.R_drewN | apply Kd.R_drew));exact HO_3.out)) k_ hk, Kd.fresh' (Kd.R_lt (by (with_reducible repeat (first | apply Kd.R_alloc | apply Kd.R_drewN | apply Kd.R_drew));exact HO_7.out)) k_ hk, Kd.fresh' (Kd.R_lt (by (with_reducible repeat (first | apply Kd.R_alloc | apply Kd.R_drewN | apply Kd.R_drew));exact HO_8.out)) k_ hk, Kd.fresh' (Kd.R_lt (by (with_reducible repeat (first | apply Kd.R_alloc | apply Kd.R_drewN | apply Kd.R_drew));exact HO146.out)) k_ hk⟩));(case aO => exact (by (with_reducible repeat (first | apply Kd.R_alloc | apply Kd.R_drewN | apply Kd.R_drew));exact Kd.R_mono HO_6.out (fun _ hk => ⟨hk.1.1, ⟨hk.1.2.1, ⟨hk.1.2.2, hk.2⟩⟩⟩)));(case aS => exact (below_size (by exact HB.out)));(case aL => have := LMc72.out;omega);intro v148 w76 ho hb hg hat;rw [← Ny147.out] at ho;have n0_ := Aside0.mk (Kd.R_after (ok := (fun k_ => some k_ ≠ (.slice (some ⟨go44, 0, none⟩) y135.length co44 : Value).ownBlock ∧ some k_ ≠ (.slice (some ⟨go47, 0, none⟩) y142.length co47 : Value).ownBlock ∧ some k_ ≠ (.slice Ao77 y144.length co77 : Value).ownBlock)) (by (with_reducible repeat (first | apply Kd.R_alloc | apply Kd.R_drewN | apply Kd.R_drew));exact Kd.R_mono HO_3.out (fun _ hk => ⟨⟨hk.1.2.1, ⟨hk.1.2.2, hk.2⟩⟩, hk.1.1⟩)) hg hat);have n1_ := Aside0.mk (Kd.R_after (ok := (fun k_ => some k_ ≠ (.slice (some ad122) t101.length co48 : Value).ownBlock ∧ some k_ ≠ (.slice (some ⟨go47, 0, none⟩) y142.length co47 : Value).ownBlock ∧ some k_ ≠ (.slice Ao77 y144.length co77 : Value).ownBlock)) (by (with_reducible repeat (first | apply Kd.R_alloc | apply Kd.R_drewN | apply Kd.R_drew));exact Kd.R_mono HO_7.out (fun _ hk => ⟨⟨hk.1.1, ⟨hk.1.2.2, hk.2⟩⟩, hk.1.2.1⟩)) hg hat);have n2_ := Aside0.mk (Kd.R_after (ok := (fun k_ => some k_ ≠ (.slice (some ad122) t101.length co48 : Value).ownBlock ∧ some k_ ≠ (.slice (some ⟨go44, 0, none⟩) y135.length co44 : Value).ownBlock ∧ some k_ ≠ (.slice Ao77 y144.length co77 : Value).ownBlock)) (by (with_reducible repeat (first | apply Kd.R_alloc | apply Kd.R_drewN | apply Kd.R_drew));exact Kd.R_mono HO_8.out (fun _ hk => ⟨⟨hk.1.1, ⟨hk.1.2.2, hk.2⟩⟩, hk.1.2.1⟩)) hg hat);have n3_ := Aside0.mk (Kd.R_after (ok := (fun k_ => some k_ ≠ (.slice (some ad122) t101.length co48 : Value).ownBlock ∧ some k_ ≠ (.slice (some ⟨go44, 0, none⟩) y135.length co44 : Value).ownBlock ∧ some k_ ≠ (.slice (some ⟨go47, 0, none⟩) y142.length co47 : Value).ownBlock)) (by (with_reducible repeat (first | apply Kd.R_alloc | apply Kd.R_drewN | apply Kd.R_drew));exact Kd.R_mono HO146.out (fun _ hk => ⟨⟨hk.1.1.1.2, ⟨hk.1.2, hk.2⟩⟩, hk.1.1.2⟩)) hg hat);have n4_ := Aside0.mk (hb);have n5_ := Aside0.mk (ho);clear HO_3;clear HO_7;clear HO_8;clear HO146;clear HB;clear HO_6;have HO_3 := n0_;have HO_7 := n1_;have HO_8 := n2_;have HO146 := n3_;have HB := n4_;have HO149 := n5_;clear n0_ n1_ n2_ n3_ n4_ n5_;clear ho hb hg hat))
                      (try simp only [← hl7_3, ← hl8_3])
                      go_roundg k3
                      case measure => have := HJ4.out;have := HJ28.out;have := HK3.out;omega
                      case rel => exact ⟨(y147), H', ⟨by have := HJ4.out;have := HJ28.out;have := HK3.out;omega⟩, ⟨by (try simp only [hl7_3]);(try simp only [hl8_3]);(with_reducible repeat (first | apply Kd.R_alloc | apply Kd.R_drewN | apply Kd.R_drew));exact Kd.R_mono HO_3.out (fun _ hk => ⟨hk.2, ⟨hk.1.1, hk.1.2.1⟩⟩)⟩, ⟨by (try simp only [hl7_3]);(try simp only [hl8_3]);(with_reducible repeat (first | apply Kd.R_alloc | apply Kd.R_drewN | apply Kd.R_drew));exact Kd.R_mono HO149.out (fun _ hk => ⟨hk.1, ⟨hk.2.1, hk.2.2.1⟩⟩)⟩, ⟨by (try simp only [hl7_3]);(try simp only [hl8_3]);(with_reducible repeat (first | apply Kd.R_alloc | apply Kd.R_drewN | apply Kd.R_drew));exact Kd.R_mono HO_7.out (fun _ hk => ⟨hk.1.1, ⟨hk.2, hk.1.2.1⟩⟩)⟩, ⟨by (try simp only [hl7_3]);(try simp only [hl8_3]);(with_reducible repeat (first | apply Kd.R_alloc | apply Kd.R_drewN | apply Kd.R_drew));exact Kd.R_mono HO_8.out (fun _ hk => ⟨hk.1.1, ⟨hk.2, hk.1.2.1⟩⟩)⟩, ⟨by repeat (first | (with_reducible first | exact HB.out | apply below_alloc | apply pw_below_drewN | apply below_drew1) | exact HB.out)⟩⟩
                     ·rw [if_neg c72] at H
                      exact absurd H (by simp)
                    ·rw [if_neg c71] at H
                     exact absurd H (by simp)
                   ·rw [if_neg c70] at H
                    exact absurd H (by simp)
                  ·rw [if_neg c68] at H
                   have c68b0 : decide ((x6_3.length : Int) < 25) = false := decide_eq_false c68
                   have c68b1 : decide (x6_3.length < 25) = false := decide_eq_false (by omega)
                   clear c68
                   replace H := Option.bind_eq_some_iff.mp H
                   obtain ⟨t150, A780, H⟩ := H
                   replace H : (if t150 = true then (some false) else ((impl_EvsOk.f k3 y135).bind fun t151 => (if t151 = true then (some false) else ((impl_EvsOk.f k3 y142).bind fun t152 => (if t152 = true then (some false) else (if 1 ≤ (t101.length : Int) then ((impl_EvsOk.f k3 (t101.drop 1)).bind fun t157 => (if t157 = true then (if 0 < (y135.length : Int) then ((impl_EvOk.f ((rd_T26 y135 0).f0) ((rd_T26 y135 0).f1) ((rd_T26 y135 0).f2)).bind fun t159 => (if t159 = true then (some false) else (if 0 < (y142.length : Int) then ((impl_EvOk.f ((rd_T26 y142 0).f0) ((rd_T26 y142 0).f1) ((rd_T26 y142 0).f2)).bind fun t161 => (some (!t161))) else (none)))) else (none)) else (some false))) else (none))))))) = some r := H
                   have A78 := Aside0.mk A780
                   clear A780
                   by_cases c79 : t150 = true
                   ·subst c79
                    have H1 : (some false) = some r := by rw [if_pos rfl] at H;exact H
                    clear H
                    have H := H1
                    clear H1
                    obtain rfl := Option.some.inj H
                    obtain ⟨Ao80, co80, eo80⟩ := Kd.R_slice HO_6.out
                    subst eo80
                    go_wp2_with (first | ((with_reducible refine gate_callee (f := 19) rfl ?_);refine goesL_ (some 86) rfl rfl Try.func19 (by kernel_rfl) rfl #[.slice Ao80 x6_3.length co80] rfl (by (try simp only [List.map_toArray, List.map_cons, List.map_nil]);first | done | rfl | (simp only [List.length_drop, List.length_take];rfl)) ?_;(with_reducible refine (impl_EvsOk.calls k3 _ _ x6_3 true _ ?side1 ?side2 A78.out).mono ?_);(case side1 => repeat (first | exact (Kd.R_reads' HO_6.out).2.2 | (with_reducible refine Kd.C_alloc ?_ _) | (with_reducible refine Kd.C_drewN ?_ _) | (with_reducible refine Kd.C_drew ?_)));(case side2 => exact (Kd.R_reads' HO_6.out).2.1);rintro e w81 ⟨rfl, hb⟩;refine ⟨_, rfl, ?_⟩;have n0_ := Aside0.mk (Kd.R_below (by (with_reducible repeat (first | apply Kd.R_alloc | apply Kd.R_drewN | apply Kd.R_drew));exact HO_3.out) hb);have n1_ := Aside0.mk (Kd.R_below (by (with_reducible repeat (first | apply Kd.R_alloc | apply Kd.R_drewN | apply Kd.R_drew));exact HO_6.out) hb);have n2_ := Aside0.mk (Kd.R_below (by (with_reducible repeat (first | apply Kd.R_alloc | apply Kd.R_drewN | apply Kd.R_drew));exact HO_7.out) hb);have n3_ := Aside0.mk (Kd.R_below (by (with_reducible repeat (first | apply Kd.R_alloc | apply Kd.R_drewN | apply Kd.R_drew));exact HO_8.out) hb);have n4_ := Aside0.mk (below_step (by exact HB.out) hb);clear HO_3;clear HO_6;clear HO_7;clear HO_8;clear HB;have HO_3 := n0_;have HO_6 := n1_;have HO_7 := n2_;have HO_8 := n3_;have HB := n4_;clear n0_ n1_ n2_ n3_ n4_;(try clear hb);(try clear hb2);(try clear hk);(try clear hi)))
                    go_ret
                    exact ⟨by first | rfl | (simp [errW_none, errW_some] <;> rfl) | (simp only [← hji38];first | rfl | (simp [errW_none, errW_some] <;> rfl)) | (simp [*, errW_none, errW_some] <;> rfl), by repeat (first | (with_reducible first | exact HB.out | apply below_alloc | apply pw_below_drewN | apply below_drew1) | exact HB.out)⟩
                   ·replace c79 := Bool.eq_false_iff.mpr c79
                    subst c79
                    have H1 : ((impl_EvsOk.f k3 y135).bind fun t151 => (if t151 = true then (some false) else ((impl_EvsOk.f k3 y142).bind fun t152 => (if t152 = true then (some false) else (if 1 ≤ (t101.length : Int) then ((impl_EvsOk.f k3 (t101.drop 1)).bind fun t157 => (if t157 = true then (if 0 < (y135.length : Int) then ((impl_EvOk.f ((rd_T26 y135 0).f0) ((rd_T26 y135 0).f1) ((rd_T26 y135 0).f2)).bind fun t159 => (if t159 = true then (some false) else (if 0 < (y142.length : Int) then ((impl_EvOk.f ((rd_T26 y142 0).f0) ((rd_T26 y142 0).f1) ((rd_T26 y142 0).f2)).bind fun t161 => (some (!t161))) else (none)))) else (none)) else (some false))) else (none)))))) = some r := by rw [if_neg (show ¬ (false = true) by decide)] at H;exact H
                    clear H
                    have H := H1
                    clear H1
                    replace H := Option.bind_eq_some_iff.mp H
                    obtain ⟨t151, A820, H⟩ := H
                    replace H : (if t151 = true then (some false) else ((impl_EvsOk.f k3 y142).bind fun t152 => (if t152 = true then (some false) else (if 1 ≤ (t101.length : Int) then ((impl_EvsOk.f k3 (t101.drop 1)).bind fun t157 => (if t157 = true then (if 0 < (y135.length : Int) then ((impl_EvOk.f ((rd_T26 y135 0).f0) ((rd_T26 y135 0).f1) ((rd_T26 y135 0).f2)).bind fun t159 => (if t159 = true then (some false) else (if 0 < (y142.length : Int) then ((impl_EvOk.f ((rd_T26 y142 0).f0) ((rd_T26 y142 0).f1) ((rd_T26 y142 0).f2)).bind fun t161 => (some (!t161))) else (none)))) else (none)) else (some false))) else (none))))) = some r := H
                    have A82 := Aside0.mk A820
                    clear A820
                    by_cases c83 : t151 = true
                    ·subst c83
                     have H1 : (some false) = some r := by rw [if_pos rfl] at H;exact H
                     clear H
                     have H := H1
                     clear H1
                     obtain rfl := Option.some.inj H
                     obtain ⟨Ao84, co84, eo84⟩ := Kd.R_slice HO_6.out
                     subst eo84
                     go_wp2_with (first | ((with_reducible refine gate_callee (f := 19) rfl ?_);refine goesL_ (some 86) rfl rfl Try.func19 (by kernel_rfl) rfl #[.slice Ao84 x6_3.length co84] rfl (by (try simp only [List.map_toArray, List.map_cons, List.map_nil]);first | done | rfl | (simp only [List.length_drop, List.length_take];rfl)) ?_;(with_reducible refine (impl_EvsOk.calls k3 _ _ x6_3 false _ ?side1 ?side2 A78.out).mono ?_);(case side1 => repeat (first | exact (Kd.R_reads' HO_6.out).2.2 | (with_reducible refine Kd.C_alloc ?_ _) | (with_reducible refine Kd.C_drewN ?_ _) | (with_reducible refine Kd.C_drew ?_)));(case side2 => exact (Kd.R_reads' HO_6.out).2.1);rintro e w85 ⟨rfl, hb⟩;refine ⟨_, rfl, ?_⟩;have n0_ := Aside0.mk (Kd.R_below (by (with_reducible repeat (first | apply Kd.R_alloc | apply Kd.R_drewN | apply Kd.R_drew));exact HO_3.out) hb);have n1_ := Aside0.mk (Kd.R_below (by (with_reducible repeat (first | apply Kd.R_alloc | apply Kd.R_drewN | apply Kd.R_drew));exact HO_6.out) hb);have n2_ := Aside0.mk (Kd.R_below (by (with_reducible repeat (first | apply Kd.R_alloc | apply Kd.R_drewN | apply Kd.R_drew));exact HO_7.out) hb);have n3_ := Aside0.mk (Kd.R_below (by (with_reducible repeat (first | apply Kd.R_alloc | apply Kd.R_drewN | apply Kd.R_drew));exact HO_8.out) hb);have n4_ := Aside0.mk (below_step (by exact HB.out) hb);clear HO_3;clear HO_6;clear HO_7;clear HO_8;clear HB;have HO_3 := n0_;have HO_6 := n1_;have HO_7 := n2_;have HO_8 := n3_;have HB := n4_;clear n0_ n1_ n2_ n3_ n4_;(try clear hb);(try clear hb2);(try clear hk);(try clear hi)) | (go_at_call 19;(with_reducible refine (impl_EvsOk.calls k3 _ _ y135 true _ ?side1 ?side2 A82.out).mono ?_);(case side1 => repeat (first | exact (Kd.R_reads' HO_7.out).2.2 | (with_reducible refine Kd.C_alloc ?_ _) | (with_reducible refine Kd.C_drewN ?_ _) | (with_reducible refine Kd.C_drew ?_)));(case side2 => exact (Kd.R_reads' HO_7.out).2.1);rintro e w86 ⟨rfl, hb⟩;have n0_ := Aside0.mk (Kd.R_below (by (with_reducible repeat (first | apply Kd.R_alloc | apply Kd.R_drewN | apply Kd.R_drew));exact HO_3.out) hb);have n1_ := Aside0.mk (Kd.R_below (by (with_reducible repeat (first | apply Kd.R_alloc | apply Kd.R_drewN | apply Kd.R_drew));exact HO_6.out) hb);have n2_ := Aside0.mk (Kd.R_below (by (with_reducible repeat (first | apply Kd.R_alloc | apply Kd.R_drewN | apply Kd.R_drew));exact HO_7.out) hb);have n3_ := Aside0.mk (Kd.R_below (by (with_reducible repeat (first | apply Kd.R_alloc | apply Kd.R_drewN | apply Kd.R_drew));exact HO_8.out) hb);have n4_ := Aside0.mk (below_step (by exact HB.out) hb);clear HO_3;clear HO_6;clear HO_7;clear HO_8;clear HB;have HO_3 := n0_;have HO_6 := n1_;have HO_7 := n2_;have HO_8 := n3_;have HB := n4_;clear n0_ n1_ n2_ n3_ n4_;(try clear hb);(try clear hb2);(try clear hk);(try clear hi)))
                     go_ret
                     exact ⟨by first | rfl | (simp [errW_none, errW_some] <;> rfl) | (simp only [← hji38];first | rfl | (simp [errW_none, errW_some] <;> rfl)) | (simp [*, errW_none, errW_some] <;> rfl), by repeat (first | (with_reducible first | exact HB.out | apply below_alloc | apply pw_below_drewN | apply below_drew1) | exact HB.out)⟩
                    ·replace c83 := Bool.eq_false_iff.mpr c83
                     subst c83
                     have H1 : ((impl_EvsOk.f k3 y142).bind fun t152 => (if t152 = true then (some false) else (if 1 ≤ (t101.length : Int) then ((impl_EvsOk.f k3 (t101.drop 1)).bind fun t157 => (if t157 = true then (if 0 < (y135.length : Int) then ((impl_EvOk.f ((rd_T26 y135 0).f0) ((rd_T26 y135 0).f1) ((rd_T26 y135 0).f2)).bind fun t159 => (if t159 = true then (some false) else (if 0 < (y142.length : Int) then ((impl_EvOk.f ((rd_T26 y142 0).f0) ((rd_T26 y142 0).f1) ((rd_T26 y142 0).f2)).bind fun t161 => (some (!t161))) else (none)))) else (none)) else (some false))) else (none)))) = some r := by rw [if_neg (show ¬ (false = true) by decide)] at H;exact H
                     clear H
                     have H := H1
                     clear H1
                     replace H := Option.bind_eq_some_iff.mp H
                     obtain ⟨t152, A870, H⟩ := H
                     replace H : (if t152 = true then (some false) else (if 1 ≤ (t101.length : Int) then ((impl_EvsOk.f k3 (t101.drop 1)).bind fun t157 => (if t157 = true then (if 0 < (y135.length : Int) then ((impl_EvOk.f ((rd_T26 y135 0).f0) ((rd_T26 y135 0).f1) ((rd_T26 y135 0).f2)).bind fun t159 => (if t159 = true then (some false) else (if 0 < (y142.length : Int) then ((impl_EvOk.f ((rd_T26 y142 0).f0) ((rd_T26 y142 0).f1) ((rd_T26 y142 0).f2)).bind fun t161 => (some (!t161))) else (none)))) else (none)) else (some false))) else (none))) = some r := H
                     have A87 := Aside0.mk A870
                     clear A870
                     by_cases c88 : t152 = true
                     ·subst c88
                      have H1 : (some false) = some r := by rw [if_pos rfl] at H;exact H
                      clear H
                      have H := H1
                      clear H1
                      obtain rfl := Option.some.inj H
                      obtain ⟨Ao89, co89, eo89⟩ := Kd.R_slice HO_6.out
                      subst eo89
                      go_wp2_with (first | ((with_reducible refine gate_callee (f := 19) rfl ?_);refine goesL_ (some 86) rfl rfl Try.func19 (by kernel_rfl) rfl #[.slice Ao89 x6_3.length co89] rfl (by (try simp only [List.map_toArray, List.map_cons, List.map_nil]);first | done | rfl | (simp only [List.length_drop, List.length_take];rfl)) ?_;(with_reducible refine (impl_EvsOk.calls k3 _ _ x6_3 false _ ?side1 ?side2 A78.out).mono ?_);(case side1 => repeat (first | exact (Kd.R_reads' HO_6.out).2.2 | (with_reducible refine Kd.C_alloc ?_ _) | (with_reducible refine Kd.C_drewN ?_ _) | (with_reducible refine Kd.C_drew ?_)));(case side2 => exact (Kd.R_reads' HO_6.out).2.1);rintro e w90 ⟨rfl, hb⟩;refine ⟨_, rfl, ?_⟩;have n0_ := Aside0.mk (Kd.R_below (by (with_reducible repeat (first | apply Kd.R_alloc | apply Kd.R_drewN | apply Kd.R_drew));exact HO_3.out) hb);have n1_ := Aside0.mk (Kd.R_below (by (with_reducible repeat (first | apply Kd.R_alloc | apply Kd.R_drewN | apply Kd.R_drew));exact HO_6.out) hb);have n2_ := Aside0.mk (Kd.R_below (by (with_reducible repeat (first | apply Kd.R_alloc | apply Kd.R_drewN | apply Kd.R_drew));exact HO_7.out) hb);have n3_ := Aside0.mk (Kd.R_below (by (with_reducible repeat (first | apply Kd.R_alloc | apply Kd.R_drewN | apply Kd.R_drew));exact HO_8.out) hb);have n4_ := Aside0.mk (below_step (by exact HB.out) hb);clear HO_3;clear HO_6;clear HO_7;clear HO_8;clear HB;have HO_3 := n0_;have HO_6 := n1_;have HO_7 := n2_;have HO_8 := n3_;have HB := n4_;clear n0_ n1_ n2_ n3_ n4_;(try clear hb);(try clear hb2);(try clear hk);(try clear hi)) | (go_at_call 19;(with_reducible refine (impl_EvsOk.calls k3 _ _ y135 false _ ?side1 ?side2 A82.out).mono ?_);(case side1 => repeat (first | exact (Kd.R_reads' HO_7.out).2.2 | (with_reducible refine Kd.C_alloc ?_ _) | (with_reducible refine Kd.C_drewN ?_ _) | (with_reducible refine Kd.C_drew ?_)));(case side2 => exact (Kd.R_reads' HO_7.out).2.1);rintro e w91 ⟨rfl, hb⟩;have n0_ := Aside0.mk (Kd.R_below (by (with_reducible repeat (first | apply Kd.R_alloc | apply Kd.R_drewN | apply Kd.R_drew));exact HO_3.out) hb);have n1_ := Aside0.mk (Kd.R_below (by (with_reducible repeat (first | apply Kd.R_alloc | apply Kd.R_drewN | apply Kd.R_drew));exact HO_6.out) hb);have n2_ := Aside0.mk (Kd.R_below (by (with_reducible repeat (first | apply Kd.R_alloc | apply Kd.R_drewN | apply Kd.R_drew));exact HO_7.out) hb);have n3_ := Aside0.mk (Kd.R_below (by (with_reducible repeat (first | apply Kd.R_alloc | apply Kd.R_drewN | apply Kd.R_drew));exact HO_8.out) hb);have n4_ := Aside0.mk (below_step (by exact HB.out) hb);clear HO_3;clear HO_6;clear HO_7;clear HO_8;clear HB;have HO_3 := n0_;have HO_6 := n1_;have HO_7 := n2_;have HO_8 := n3_;have HB := n4_;clear n0_ n1_ n2_ n3_ n4_;(try clear hb);(try clear hb2);(try clear hk);(try clear hi)) | (go_at_call 19;(with_reducible refine (impl_EvsOk.calls k3 _ _ y142 true _ ?side1 ?side2 A87.out).mono ?_);(case side1 => repeat (first | exact (Kd.R_reads' HO_8.out).2.2 | (with_reducible refine Kd.C_alloc ?_ _) | (with_reducible refine Kd.C_drewN ?_ _) | (with_reducible refine Kd.C_drew ?_)));(case side2 => exact (Kd.R_reads' HO_8.out).2.1);rintro e w92 ⟨rfl, hb⟩;have n0_ := Aside0.mk (Kd.R_below (by (with_reducible repeat (first | apply Kd.R_alloc | apply Kd.R_drewN | apply Kd.R_drew));exact HO_3.out) hb);have n1_ := Aside0.mk (Kd.R_below (by (with_reducible repeat (first | apply Kd.R_alloc | apply Kd.R_drewN | apply Kd.R_drew));exact HO_6.out) hb);have n2_ := Aside0.mk (Kd.R_below (by (with_reducible repeat (first | apply Kd.R_alloc | apply Kd.R_drewN | apply Kd.R_drew));exact HO_7.out) hb);have n3_ := Aside0.mk (Kd.R_below (by (with_reducible repeat (first | apply Kd.R_alloc | apply Kd.R_drewN | apply Kd.R_drew));exact HO_8.out) hb);have n4_ := Aside0.mk (below_step (by exact HB.out) hb);clear HO_3;clear HO_6;clear HO_7;clear HO_8;clear HB;have HO_3 := n0_;have HO_6 := n1_;have HO_7 := n2_;have HO_8 := n3_;have HB := n4_;clear n0_ n1_ n2_ n3_ n4_;(try clear hb);(try clear hb2);(try clear hk);(try clear hi)))
                      go_ret
                      exact ⟨by first | rfl | (simp [errW_none, errW_some] <;> rfl) | (simp only [← hji38];first | rfl | (simp [errW_none, errW_some] <;> rfl)) | (simp [*, errW_none, errW_some] <;> rfl), by repeat (first | (with_reducible first | exact HB.out | apply below_alloc | apply pw_below_drewN | apply below_drew1) | exact HB.out)⟩
                     ·replace c88 := Bool.eq_false_iff.mpr c88
                      subst c88
                      have H1 : (if 1 ≤ (t101.length : Int) then ((impl_EvsOk.f k3 (t101.drop 1)).bind fun t157 => (if t157 = true then (if 0 < (y135.length : Int) then ((impl_EvOk.f ((rd_T26 y135 0).f0) ((rd_T26 y135 0).f1) ((rd_T26 y135 0).f2)).bind fun t159 => (if t159 = true then (some false) else (if 0 < (y142.length : Int) then ((impl_EvOk.f ((rd_T26 y142 0).f0) ((rd_T26 y142 0).f1) ((rd_T26 y142 0).f2)).bind fun t161 => (some (!t161))) else (none)))) else (none)) else (some false))) else (none)) = some r := by rw [if_neg (show ¬ (false = true) by decide)] at H;exact H
                      clear H
                      have H := H1
                      clear H1
                      by_cases c93 : 1 ≤ (t101.length : Int)
                      ·rw [if_pos c93] at H
                       have c93b0 := eq_true c93
                       have c93b1 : decide (1 ≤ (t101.length : Int)) = true := decide_eq_true c93
                       clear c93
                       obtain ⟨y153, hy153⟩ : ∃ y_ : List (S26), y_ = (t101.drop 1) := ⟨_, rfl⟩
                       replace H : ((impl_EvsOk.f k3 y153).bind fun t157 => (if t157 = true then (if 0 < (y135.length : Int) then ((impl_EvOk.f ((rd_T26 y135 0).f0) ((rd_T26 y135 0).f1) ((rd_T26 y135 0).f2)).bind fun t159 => (if t159 = true then (some false) else (if 0 < (y142.length : Int) then ((impl_EvOk.f ((rd_T26 y142 0).f0) ((rd_T26 y142 0).f1) ((rd_T26 y142 0).f2)).bind fun t161 => (some (!t161))) else (none)))) else (none)) else (some false))) = some r := by first | (rw [hy153];with_reducible exact H) | (have H2_ := (Option.bind_some _ _).symm.trans H;rw [hy153];with_reducible exact H2_) | (have H2_ := (Option.bind_some _ _).symm.trans H;with_reducible exact H2_) | with_reducible exact H | (rw [hy153];exact H) | exact H
                       have Ny153 := Aside0.mk hy153
                       clear hy153
                       replace H := Option.bind_eq_some_iff.mp H
                       obtain ⟨t157, A940, H⟩ := H
                       replace H : (if t157 = true then (if 0 < (y135.length : Int) then ((impl_EvOk.f ((rd_T26 y135 0).f0) ((rd_T26 y135 0).f1) ((rd_T26 y135 0).f2)).bind fun t159 => (if t159 = true then (some false) else (if 0 < (y142.length : Int) then ((impl_EvOk.f ((rd_T26 y142 0).f0) ((rd_T26 y142 0).f1) ((rd_T26 y142 0).f2)).bind fun t161 => (some (!t161))) else (none)))) else (none)) else (some false)) = some r := H
                       have A94 := Aside0.mk A940
                       clear A940
                       by_cases c95 : t157 = true
                       ·subst c95
                        have H1 : (if 0 < (y135.length : Int) then ((impl_EvOk.f ((rd_T26 y135 0).f0) ((rd_T26 y135 0).f1) ((rd_T26 y135 0).f2)).bind fun t159 => (if t159 = true then (some false) else (if 0 < (y142.length : Int) then ((impl_EvOk.f ((rd_T26 y142 0).f0) ((rd_T26 y142 0).f1) ((rd_T26 y142 0).f2)).bind fun t161 => (some (!t161))) else (none)))) else (none)) = some r := by rw [if_pos rfl] at H;exact H
                        clear H
                        have H := H1
                        clear H1
                        by_cases c96 : 0 < (y135.length : Int)
                        ·rw [if_pos c96] at H
                         have c96b0 : decide (0 < (y135.length : Int)) = true := decide_eq_true c96
                         have c96b1 : decide (0 < y135.length) = true := decide_eq_true (by omega)
                         clear c96
                         replace H := Option.bind_eq_some_iff.mp H
                         obtain ⟨t159, A970, H⟩ := H
                         replace H : (if t159 = true then (some false) else (if 0 < (y142.length : Int) then ((impl_EvOk.f ((rd_T26 y142 0).f0) ((rd_T26 y142 0).f1) ((rd_T26 y142 0).f2)).bind fun t161 => (some (!t161))) else (none))) = some r := H
                         have A97 := Aside0.mk A970
                         clear A970
                         by_cases c98 : t159 = true
                         ·subst c98
                          have H1 : (some false) = some r := by rw [if_pos rfl] at H;exact H
                          clear H
                          have H := H1
                          clear H1
                          obtain rfl := Option.some.inj H
                          obtain ⟨Ao99, co99, eo99⟩ := Kd.R_slice HO_6.out
                          subst eo99
                          go_wp2_with (first | ((with_reducible refine gate_callee (f := 19) rfl ?_);refine goesL_ (some 86) rfl rfl Try.func19 (by kernel_rfl) rfl #[.slice Ao99 x6_3.length co99] rfl (by (try simp only [List.map_toArray, List.map_cons, List.map_nil]);first | done | rfl | (simp only [List.length_drop, List.length_take];rfl)) ?_;(with_reducible refine (impl_EvsOk.calls k3 _ _ x6_3 false _ ?side1 ?side2 A78.out).mono ?_);(case side1 => repeat (first | exact (Kd.R_reads' HO_6.out).2.2 | (with_reducible refine Kd.C_alloc ?_ _) | (with_reducible refine Kd.C_drewN ?_ _) | (with_reducible refine Kd.C_drew ?_)));(case side2 => exact (Kd.R_reads' HO_6.out).2.1);rintro e w100 ⟨rfl, hb⟩;refine ⟨_, rfl, ?_⟩;have n0_ := Aside0.mk (Kd.R_below (by (with_reducible repeat (first | apply Kd.R_alloc | apply Kd.R_drewN | apply Kd.R_drew));exact HO_3.out) hb);have n1_ := Aside0.mk (Kd.R_below (by (with_reducible repeat (first | apply Kd.R_alloc | apply Kd.R_drewN | apply Kd.R_drew));exact HO_6.out) hb);have n2_ := Aside0.mk (Kd.R_below (by (with_reducible repeat (first | apply Kd.R_alloc | apply Kd.R_drewN | apply Kd.R_drew));exact HO_7.out) hb);have n3_ := Aside0.mk (Kd.R_below (by (with_reducible repeat (first | apply Kd.R_alloc | apply Kd.R_drewN | apply Kd.R_drew));exact HO_8.out) hb);have n4_ := Aside0.mk (below_step (by exact HB.out) hb);clear HO_3;clear HO_6;clear HO_7;clear HO_8;clear HB;have HO_3 := n0_;have HO_6 := n1_;have HO_7 := n2_;have HO_8 := n3_;have HB := n4_;clear n0_ n1_ n2_ n3_ n4_;(try clear hb);(try clear hb2);(try clear hk);(try clear hi)) | (go_at_call 19;(with_reducible refine (impl_EvsOk.calls k3 _ _ y135 false _ ?side1 ?side2 A82.out).mono ?_);(case side1 => repeat (first | exact (Kd.R_reads' HO_7.out).2.2 | (with_reducible refine Kd.C_alloc ?_ _) | (with_reducible refine Kd.C_drewN ?_ _) | (with_reducible refine Kd.C_drew ?_)));(case side2 => exact (Kd.R_reads' HO_7.out).2.1);rintro e w101 ⟨rfl, hb⟩;have n0_ := Aside0.mk (Kd.R_below (by (with_reducible repeat (first | apply Kd.R_alloc | apply Kd.R_drewN | apply Kd.R_drew));exact HO_3.out) hb);have n1_ := Aside0.mk (Kd.R_below (by (with_reducible repeat (first | apply Kd.R_alloc | apply Kd.R_drewN | apply Kd.R_drew));exact HO_6.out) hb);have n2_ := Aside0.mk (Kd.R_below (by (with_reducible repeat (first | apply Kd.R_alloc | apply Kd.R_drewN | apply Kd.R_drew));exact HO_7.out) hb);have n3_ := Aside0.mk (Kd.R_below (by (with_reducible repeat (first | apply Kd.R_alloc | apply Kd.R_drewN | apply Kd.R_drew));exact HO_8.out) hb);have n4_ := Aside0.mk (below_step (by exact HB.out) hb);clear HO_3;clear HO_6;clear HO_7;clear HO_8;clear HB;have HO_3 := n0_;have HO_6 := n1_;have HO_7 := n2_;have HO_8 := n3_;have HB := n4_;clear n0_ n1_ n2_ n3_ n4_;(try clear hb);(try clear hb2);(try clear hk);(try clear hi)) | (go_at_call 19;(with_reducible refine (impl_EvsOk.calls k3 _ _ y142 false _ ?side1 ?side2 A87.out).mono ?_);(case side1 => repeat (first | exact (Kd.R_reads' HO_8.out).2.2 | (with_reducible refine Kd.C_alloc ?_ _) | (with_reducible refine Kd.C_drewN ?_ _) | (with_reducible refine Kd.C_drew ?_)));(case side2 => exact (Kd.R_reads' HO_8.out).2.1);rintro e w102 ⟨rfl, hb⟩;have n0_ := Aside0.mk (Kd.R_below (by (with_reducible repeat (first | apply Kd.R_alloc | apply Kd.R_drewN | apply Kd.R_drew));exact HO_3.out) hb);have n1_ := Aside0.mk (Kd.R_below (by (with_reducible repeat (first | apply Kd.R_alloc | apply Kd.R_drewN | apply Kd.R_drew));exact HO_6.out) hb);have n2_ := Aside0.mk (Kd.R_below (by (with_reducible repeat (first | apply Kd.R_alloc | apply Kd.R_drewN | apply Kd.R_drew));exact HO_7.out) hb);have n3_ := Aside0.mk (Kd.R_below (by (with_reducible repeat (first | apply Kd.R_alloc | apply Kd.R_drewN | apply Kd.R_drew));exact HO_8.out) hb);have n4_ := Aside0.mk (below_step (by exact HB.out) hb);clear HO_3;clear HO_6;clear HO_7;clear HO_8;clear HB;have HO_3 := n0_;have HO_6 := n1_;have HO_7 := n2_;have HO_8 := n3_;have HB := n4_;clear n0_ n1_ n2_ n3_ n4_;(try clear hb);(try clear hb2);(try clear hk);(try clear hi);have q103 : (1 : Int) ≤ ((t101.length : Int) : Int) := of_decide_eq_true (by first | (with_reducible assumption) | assumption);obtain ⟨i0103, hi0103, _, hsz103, _⟩ := info_parts info26;have hroom103 : t101.length ≤ co48 := (Kd.R_reads' HO_3.out).2.1;have hC103 : Kd.C k26 _ (some ad122) t101.length t101 := (Kd.R_reads' HO_3.out).2.2;have hcut103 := cut_from (P := Try.prog) 32 26 .i64 Try.underlying32 hi0103 3 hsz103 (some ad122) t101.length co48 1 (by omega) q103;have hr103 := Kd.C_drop (m := (1 : Int).toNat) (c := co48) hC103 (by omega) hroom103;obtain ⟨A103, hA103⟩ : ∃ A1, A1 = (if co48 = (1 : Int).toNat then (some ad122) else ((some ad122) : Option Addr).map (·.add ((1 : Int).toNat * 3))) := ⟨_, rfl⟩;obtain ⟨c103, hc103⟩ : ∃ c1, c1 = co48 - (1 : Int).toNat := ⟨_, rfl⟩;have hy103 : y153.length = t101.length - (1 : Int).toNat := (by rw [Ny153.out, List.length_drop] <;> omega);rw [show (t101).drop (1 : Int).toNat = y153 from Ny153.out.symm] at hr103;replace hr103 : Kd.C k26 _ A103 y153.length y153 := (by rw [hA103];exact hr103);rw [← hy103, ← hA103, ← hc103] at hcut103;have HR156 := Aside0.mk hr103;have HC156 := Aside0.mk (show y153.length ≤ c103 from by rw [hy103, hc103];exact Nat.sub_le_sub_right hroom103 _);clear hr103 hC103 hroom103 hi0103 hsz103 hc103;have KY103 := Aside0.mk hy103;have KA103 := Aside0.mk hA103;clear hy103 hA103;have KL103 := Aside0.mk (show 1 ≤ t101.length from by omega);replace q103 := eq_true q103) | (go_at_call 19;(with_reducible refine (impl_EvsOk.calls k3 _ _ y153 true _ ?side1 ?side2 A94.out).mono ?_);(case side1 => repeat (first | exact (by repeat (first | (with_reducible exact HR156.out) | (with_reducible refine Kd.C_alloc ?_ _) | (with_reducible refine Kd.C_drewN ?_ _) | (with_reducible refine Kd.C_drew ?_) | exact HR156.out)) | (with_reducible refine Kd.C_alloc ?_ _) | (with_reducible refine Kd.C_drewN ?_ _) | (with_reducible refine Kd.C_drew ?_)));(case side2 => exact HC156.out);rintro e w104 ⟨rfl, hb⟩;have n0_ := Aside0.mk (Kd.R_below (by (with_reducible repeat (first | apply Kd.R_alloc | apply Kd.R_drewN | apply Kd.R_drew));exact HO_3.out) hb);have n1_ := Aside0.mk (Kd.R_below (by (with_reducible repeat (first | apply Kd.R_alloc | apply Kd.R_drewN | apply Kd.R_drew));exact HO_6.out) hb);have n2_ := Aside0.mk (Kd.R_below (by (with_reducible repeat (first | apply Kd.R_alloc | apply Kd.R_drewN | apply Kd.R_drew));exact HO_7.out) hb);have n3_ := Aside0.mk (Kd.R_below (by (with_reducible repeat (first | apply Kd.R_alloc | apply Kd.R_drewN | apply Kd.R_drew));exact HO_8.out) hb);have n4_ := Aside0.mk (Kd.C_below (by repeat (first | (with_reducible exact HR156.out) | (with_reducible refine Kd.C_alloc ?_ _) | (with_reducible refine Kd.C_drewN ?_ _) | (with_reducible refine Kd.C_drew ?_) | exact HR156.out)) hb);have n5_ := Aside0.mk (below_step (by exact HB.out) hb);clear HO_3;clear HO_6;clear HO_7;clear HO_8;clear HR156;clear HB;have HO_3 := n0_;have HO_6 := n1_;have HO_7 := n2_;have HO_8 := n3_;have HR156 := n4_;have HB := n5_;clear n0_ n1_ n2_ n3_ n4_ n5_;(try clear hb);(try clear hb2);(try clear hk);(try clear hi);have p158 : 0 ≤ (0 : Int) := (by omega);have q158 : 0 < (y135.length : Int) := of_decide_eq_true (by first | (with_reducible assumption) | assumption);obtain ⟨ad158, e158, hx158_0, hx158_1, hx158_2⟩ := at_T26 (Kd.R_reads' HO_7.out).2.2 0 p158 q158;obtain rfl : (⟨go44, 0, none⟩ : Addr) = ad158 := (by injection e158);(first | simp only [add_plain] at hx158_0 | simp only [add_at] at hx158_0 | simp only [Addr.add, Nat.zero_add] at hx158_0 | skip);(first | simp only [add_plain] at hx158_1 | simp only [add_at] at hx158_1 | simp only [Addr.add, Nat.zero_add] at hx158_1 | skip);(first | simp only [add_plain] at hx158_2 | simp only [add_at] at hx158_2 | simp only [Addr.add, Nat.zero_add] at hx158_2 | skip);have qi158 : (0 < y135.length) = True := eq_true (by omega);(try rw [show ((0 : Int)).toNat = 0 from rfl] at hx158_0);(try rw [show 0 * 3 = 0 from rfl] at hx158_0);(try rw [Addr.add_zero'] at hx158_0);(try rw [show ((0 : Int)).toNat = 0 from rfl] at hx158_1);(try rw [show 0 * 3 = 0 from rfl] at hx158_1);(try rw [Addr.add_zero'] at hx158_1);(try rw [show ((0 : Int)).toNat = 0 from rfl] at hx158_2);(try rw [show 0 * 3 = 0 from rfl] at hx158_2);(try rw [Addr.add_zero'] at hx158_2);replace p158 := eq_true p158;replace q158 := eq_true q158) | (go_at_call 12;(with_reducible refine (impl_EvOk.calls ((rd_T26 y135 0).f0) ((rd_T26 y135 0).f1) ((rd_T26 y135 0).f2) true _ A97.out).mono ?_);rintro e w105 ⟨rfl, hb⟩;have n0_ := Aside0.mk (Kd.R_below (by (with_reducible repeat (first | apply Kd.R_alloc | apply Kd.R_drewN | apply Kd.R_drew));exact HO_3.out) hb);have n1_ := Aside0.mk (Kd.R_below (by (with_reducible repeat (first | apply Kd.R_alloc | apply Kd.R_drewN | apply Kd.R_drew));exact HO_6.out) hb);have n2_ := Aside0.mk (Kd.R_below (by (with_reducible repeat (first | apply Kd.R_alloc | apply Kd.R_drewN | apply Kd.R_drew));exact HO_7.out) hb);have n3_ := Aside0.mk (Kd.R_below (by (with_reducible repeat (first | apply Kd.R_alloc | apply Kd.R_drewN | apply Kd.R_drew));exact HO_8.out) hb);have n4_ := Aside0.mk (Kd.C_below (by repeat (first | (with_reducible exact HR156.out) | (with_reducible refine Kd.C_alloc ?_ _) | (with_reducible refine Kd.C_drewN ?_ _) | (with_reducible refine Kd.C_drew ?_) | exact HR156.out)) hb);have n5_ := Aside0.mk (below_step (by exact HB.out) hb);clear HO_3;clear HO_6;clear HO_7;clear HO_8;clear HR156;clear HB;have HO_3 := n0_;have HO_6 := n1_;have HO_7 := n2_;have HO_8 := n3_;have HR156 := n4_;have HB := n5_;clear n0_ n1_ n2_ n3_ n4_ n5_;(try clear hb);(try clear hb2);(try clear hk);(try clear hi)))
                          go_ret
                          exact ⟨by first | rfl | (simp [errW_none, errW_some] <;> rfl) | (simp only [← hji38];first | rfl | (simp [errW_none, errW_some] <;> rfl)) | (simp [*, errW_none, errW_some] <;> rfl), by repeat (first | (with_reducible first | exact HB.out | apply below_alloc | apply pw_below_drewN | apply below_drew1) | exact HB.out)⟩
                         ·replace c98 := Bool.eq_false_iff.mpr c98
                          subst c98
                          have H1 : (if 0 < (y142.length : Int) then ((impl_EvOk.f ((rd_T26 y142 0).f0) ((rd_T26 y142 0).f1) ((rd_T26 y142 0).f2)).bind fun t161 => (some (!t161))) else (none)) = some r := by rw [if_neg (show ¬ (false = true) by decide)] at H;exact H
                          clear H
                          have H := H1
                          clear H1
                          by_cases c106 : 0 < (y142.length : Int)
                          ·rw [if_pos c106] at H
                           have c106b0 : decide (0 < (y142.length : Int)) = true := decide_eq_true c106
                           have c106b1 : decide (0 < y142.length) = true := decide_eq_true (by omega)
                           clear c106
                           replace H := Option.bind_eq_some_iff.mp H
                           obtain ⟨t161, A1070, H⟩ := H
                           replace H : (some (!t161)) = some r := H
                           have A107 := Aside0.mk A1070
                           clear A1070
                           obtain rfl := Option.some.inj H
                           obtain ⟨Ao108, co108, eo108⟩ := Kd.R_slice HO_6.out
                           subst eo108
                           go_wp2_with (first | ((with_reducible refine gate_callee (f := 19) rfl ?_);refine goesL_ (some 86) rfl rfl Try.func19 (by kernel_rfl) rfl #[.slice Ao108 x6_3.length co108] rfl (by (try simp only [List.map_toArray, List.map_cons, List.map_nil]);first | done | rfl | (simp only [List.length_drop, List.length_take];rfl)) ?_;(with_reducible refine (impl_EvsOk.calls k3 _ _ x6_3 false _ ?side1 ?side2 A78.out).mono ?_);(case side1 => repeat (first | exact (Kd.R_reads' HO_6.out).2.2 | (with_reducible refine Kd.C_alloc ?_ _) | (with_reducible refine Kd.C_drewN ?_ _) | (with_reducible refine Kd.C_drew ?_)));(case side2 => exact (Kd.R_reads' HO_6.out).2.1);rintro e w109 ⟨rfl, hb⟩;refine ⟨_, rfl, ?_⟩;have n0_ := Aside0.mk (Kd.R_below (by (with_reducible repeat (first | apply Kd.R_alloc | apply Kd.R_drewN | apply Kd.R_drew));exact HO_3.out) hb);have n1_ := Aside0.mk (Kd.R_below (by (with_reducible repeat (first | apply Kd.R_alloc | apply Kd.R_drewN | apply Kd.R_drew));exact HO_6.out) hb);have n2_ := Aside0.mk (Kd.R_below (by (with_reducible repeat (first | apply Kd.R_alloc | apply Kd.R_drewN | apply Kd.R_drew));exact HO_7.out) hb);have n3_ := Aside0.mk (Kd.R_below (by (with_reducible repeat (first | apply Kd.R_alloc | apply Kd.R_drewN | apply Kd.R_drew));exact HO_8.out) hb);have n4_ := Aside0.mk (below_step (by exact HB.out) hb);clear HO_3;clear HO_6;clear HO_7;clear HO_8;clear HB;have HO_3 := n0_;have HO_6 := n1_;have HO_7 := n2_;have HO_8 := n3_;have HB := n4_;clear n0_ n1_ n2_ n3_ n4_;(try clear hb);(try clear hb2);(try clear hk);(try clear hi)) | (go_at_call 19;(with_reducible refine (impl_EvsOk.calls k3 _ _ y135 false _ ?side1 ?side2 A82.out).mono ?_);(case side1 => repeat (first | exact (Kd.R_reads' HO_7.out).2.2 | (with_reducible refine Kd.C_alloc ?_ _) | (with_reducible refine Kd.C_drewN ?_ _) | (with_reducible refine Kd.C_drew ?_)));(case side2 => exact (Kd.R_reads' HO_7.out).2.1);rintro e w110 ⟨rfl, hb⟩;have n0_ := Aside0.mk (Kd.R_below (by (with_reducible repeat (first | apply Kd.R_alloc | apply Kd.R_drewN | apply Kd.R_drew));exact HO_3.out) hb);have n1_ := Aside0.mk (Kd.R_below (by (with_reducible repeat (first | apply Kd.R_alloc | apply Kd.R_drewN | apply Kd.R_drew));exact HO_6.out) hb);have n2_ := Aside0.mk (Kd.R_below (by (with_reducible repeat (first | apply Kd.R_alloc | apply Kd.R_drewN | apply Kd.R_drew));exact HO_7.out) hb);have n3_ := Aside0.mk (Kd.R_below (by (with_reducible repeat (first | apply Kd.R_alloc | apply Kd.R_drewN | apply Kd.R_drew));exact HO_8.out) hb);have n4_ := Aside0.mk (below_step (by exact HB.out) hb);clear HO_3;clear HO_6;clear HO_7;clear HO_8;clear HB;have HO_3 := n0_;have HO_6 := n1_;have HO_7 := n2_;have HO_8 := n3_;have HB := n4_;clear n0_ n1_ n2_ n3_ n4_;(try clear hb);(try clear hb2);(try clear hk);(try clear hi)) | (go_at_call 19;(with_reducible refine (impl_EvsOk.calls k3 _ _ y142 false _ ?side1 ?side2 A87.out).mono ?_);(case side1 => repeat (first | exact (Kd.R_reads' HO_8.out).2.2 | (with_reducible refine Kd.C_alloc ?_ _) | (with_reducible refine Kd.C_drewN ?_ _) | (with_reducible refine Kd.C_drew ?_)));(case side2 => exact (Kd.R_reads' HO_8.out).2.1);rintro e w111 ⟨rfl, hb⟩;have n0_ := Aside0.mk (Kd.R_below (by (with_reducible repeat (first | apply Kd.R_alloc | apply Kd.R_drewN | apply Kd.R_drew));exact HO_3.out) hb);have n1_ := Aside0.mk (Kd.R_below (by (with_reducible repeat (first | apply Kd.R_alloc | apply Kd.R_drewN | apply Kd.R_drew));exact HO_6.out) hb);have n2_ := Aside0.mk (Kd.R_below (by (with_reducible repeat (first | apply Kd.R_alloc | apply Kd.R_drewN | apply Kd.R_drew));exact HO_7.out) hb);have n3_ := Aside0.mk (Kd.R_below (by (with_reducible repeat (first | apply Kd.R_alloc | apply Kd.R_drewN | apply Kd.R_drew));exact HO_8.out) hb);have n4_ := Aside0.mk (below_step (by exact HB.out) hb);clear HO_3;clear HO_6;clear HO_7;clear HO_8;clear HB;have HO_3 := n0_;have HO_6 := n1_;have HO_7 := n2_;have HO_8 := n3_;have HB := n4_;clear n0_ n1_ n2_ n3_ n4_;(try clear hb);(try clear hb2);(try clear hk);(try clear hi);have q112 : (1 : Int) ≤ ((t101.length : Int) : Int) := of_decide_eq_true (by first | (with_reducible assumption) | assumption);obtain ⟨i0112, hi0112, _, hsz112, _⟩ := info_parts info26;have hroom112 : t101.length ≤ co48 := (Kd.R_reads' HO_3.out).2.1;have hC112 : Kd.C k26 _ (some ad122) t101.length t101 := (Kd.R_reads' HO_3.out).2.2;have hcut112 := cut_from (P := Try.prog) 32 26 .i64 Try.underlying32 hi0112 3 hsz112 (some ad122) t101.length co48 1 (by omega) q112;have hr112 := Kd.C_drop (m := (1 : Int).toNat) (c := co48) hC112 (by omega) hroom112;obtain ⟨A112, hA112⟩ : ∃ A1, A1 = (if co48 = (1 : Int).toNat then (some ad122) else ((some ad122) : Option Addr).map (·.add ((1 : Int).toNat * 3))) := ⟨_, rfl⟩;obtain ⟨c112, hc112⟩ : ∃ c1, c1 = co48 - (1 : Int).toNat := ⟨_, rfl⟩;have hy112 : y153.length = t101.length - (1 : Int).toNat := (by rw [Ny153.out, List.length_drop] <;> omega);rw [show (t101).drop (1 : Int).toNat = y153 from Ny153.out.symm] at hr112;replace hr112 : Kd.C k26 _ A112 y153.length y153 := (by rw [hA112];exact hr112);rw [← hy112, ← hA112, ← hc112] at hcut112;have HR156 := Aside0.mk hr112;have HC156 := Aside0.mk (show y153.length ≤ c112 from by rw [hy112, hc112];exact Nat.sub_le_sub_right hroom112 _);clear hr112 hC112 hroom112 hi0112 hsz112 hc112;have KY112 := Aside0.mk hy112;have KA112 := Aside0.mk hA112;clear hy112 hA112;have KL112 := Aside0.mk (show 1 ≤ t101.length from by omega);replace q112 := eq_true q112) | (go_at_call 19;(with_reducible refine (impl_EvsOk.calls k3 _ _ y153 true _ ?side1 ?side2 A94.out).mono ?_);(case side1 => repeat (first | exact (by repeat (first | (with_reducible exact HR156.out) | (with_reducible refine Kd.C_alloc ?_ _) | (with_reducible refine Kd.C_drewN ?_ _) | (with_reducible refine Kd.C_drew ?_) | exact HR156.out)) | (with_reducible refine Kd.C_alloc ?_ _) | (with_reducible refine Kd.C_drewN ?_ _) | (with_reducible refine Kd.C_drew ?_)));(case side2 => exact HC156.out);rintro e w113 ⟨rfl, hb⟩;have n0_ := Aside0.mk (Kd.R_below (by (with_reducible repeat (first | apply Kd.R_alloc | apply Kd.R_drewN | apply Kd.R_drew));exact HO_3.out) hb);have n1_ := Aside0.mk (Kd.R_below (by (with_reducible repeat (first | apply Kd.R_alloc | apply Kd.R_drewN | apply Kd.R_drew));exact HO_6.out) hb);have n2_ := Aside0.mk (Kd.R_below (by (with_reducible repeat (first | apply Kd.R_alloc | apply Kd.R_drewN | apply Kd.R_drew));exact HO_7.out) hb);have n3_ := Aside0.mk (Kd.R_below (by (with_reducible repeat (first | apply Kd.R_alloc | apply Kd.R_drewN | apply Kd.R_drew));exact HO_8.out) hb);have n4_ := Aside0.mk (Kd.C_below (by repeat (first | (with_reducible exact HR156.out) | (with_reducible refine Kd.C_alloc ?_ _) | (with_reducible refine Kd.C_drewN ?_ _) | (with_reducible refine Kd.C_drew ?_) | exact HR156.out)) hb);have n5_ := Aside0.mk (below_step (by exact HB.out) hb);clear HO_3;clear HO_6;clear HO_7;clear HO_8;clear HR156;clear HB;have HO_3 := n0_;have HO_6 := n1_;have HO_7 := n2_;have HO_8 := n3_;have HR156 := n4_;have HB := n5_;clear n0_ n1_ n2_ n3_ n4_ n5_;(try clear hb);(try clear hb2);(try clear hk);(try clear hi);have p158 : 0 ≤ (0 : Int) := (by omega);have q158 : 0 < (y135.length : Int) := of_decide_eq_true (by first | (with_reducible assumption) | assumption);obtain ⟨ad158, e158, hx158_0, hx158_1, hx158_2⟩ := at_T26 (Kd.R_reads' HO_7.out).2.2 0 p158 q158;obtain rfl : (⟨go44, 0, none⟩ : Addr) = ad158 := (by injection e158);(first | simp only [add_plain] at hx158_0 | simp only [add_at] at hx158_0 | simp only [Addr.add, Nat.zero_add] at hx158_0 | skip);(first | simp only [add_plain] at hx158_1 | simp only [add_at] at hx158_1 | simp only [Addr.add, Nat.zero_add] at hx158_1 | skip);(first | simp only [add_plain] at hx158_2 | simp only [add_at] at hx158_2 | simp only [Addr.add, Nat.zero_add] at hx158_2 | skip);have qi158 : (0 < y135.length) = True := eq_true (by omega);(try rw [show ((0 : Int)).toNat = 0 from rfl] at hx158_0);(try rw [show 0 * 3 = 0 from rfl] at hx158_0);(try rw [Addr.add_zero'] at hx158_0);(try rw [show ((0 : Int)).toNat = 0 from rfl] at hx158_1);(try rw [show 0 * 3 = 0 from rfl] at hx158_1);(try rw [Addr.add_zero'] at hx158_1);(try rw [show ((0 : Int)).toNat = 0 from rfl] at hx158_2);(try rw [show 0 * 3 = 0 from rfl] at hx158_2);(try rw [Addr.add_zero'] at hx158_2);replace p158 := eq_true p158;replace q158 := eq_true q158) | (go_at_call 12;(with_reducible refine (impl_EvOk.calls ((rd_T26 y135 0).f0) ((rd_T26 y135 0).f1) ((rd_T26 y135 0).f2) false _ A97.out).mono ?_);rintro e w114 ⟨rfl, hb⟩;have n0_ := Aside0.mk (Kd.R_below (by (with_reducible repeat (first | apply Kd.R_alloc | apply Kd.R_drewN | apply Kd.R_drew));exact HO_3.out) hb);have n1_ := Aside0.mk (Kd.R_below (by (with_reducible repeat (first | apply Kd.R_alloc | apply Kd.R_drewN | apply Kd.R_drew));exact HO_6.out) hb);have n2_ := Aside0.mk (Kd.R_below (by (with_reducible repeat (first | apply Kd.R_alloc | apply Kd.R_drewN | apply Kd.R_drew));exact HO_7.out) hb);have n3_ := Aside0.mk (Kd.R_below (by (with_reducible repeat (first | apply Kd.R_alloc | apply Kd.R_drewN | apply Kd.R_drew));exact HO_8.out) hb);have n4_ := Aside0.mk (Kd.C_below (by repeat (first | (with_reducible exact HR156.out) | (with_reducible refine Kd.C_alloc ?_ _) | (with_reducible refine Kd.C_drewN ?_ _) | (with_reducible refine Kd.C_drew ?_) | exact HR156.out)) hb);have n5_ := Aside0.mk (below_step (by exact HB.out) hb);clear HO_3;clear HO_6;clear HO_7;clear HO_8;clear HR156;clear HB;have HO_3 := n0_;have HO_6 := n1_;have HO_7 := n2_;have HO_8 := n3_;have HR156 := n4_;have HB := n5_;clear n0_ n1_ n2_ n3_ n4_ n5_;(try clear hb);(try clear hb2);(try clear hk);(try clear hi);have p160 : 0 ≤ (0 : Int) := (by omega);have q160 : 0 < (y142.length : Int) := of_decide_eq_true (by first | (with_reducible assumption) | assumption);obtain ⟨ad160, e160, hx160_0, hx160_1, hx160_2⟩ := at_T26 (Kd.R_reads' HO_8.out).2.2 0 p160 q160;obtain rfl : (⟨go47, 0, none⟩ : Addr) = ad160 := (by injection e160);(first | simp only [add_plain] at hx160_0 | simp only [add_at] at hx160_0 | simp only [Addr.add, Nat.zero_add] at hx160_0 | skip);(first | simp only [add_plain] at hx160_1 | simp only [add_at] at hx160_1 | simp only [Addr.add, Nat.zero_add] at hx160_1 | skip);(first | simp only [add_plain] at hx160_2 | simp only [add_at] at hx160_2 | simp only [Addr.add, Nat.zero_add] at hx160_2 | skip);have qi160 : (0 < y142.length) = True := eq_true (by omega);(try rw [show ((0 : Int)).toNat = 0 from rfl] at hx160_0);(try rw [show 0 * 3 = 0 from rfl] at hx160_0);(try rw [Addr.add_zero'] at hx160_0);(try rw [show ((0 : Int)).toNat = 0 from rfl] at hx160_1);(try rw [show 0 * 3 = 0 from rfl] at hx160_1);(try rw [Addr.add_zero'] at hx160_1);(try rw [show ((0 : Int)).toNat = 0 from rfl] at hx160_2);(try rw [show 0 * 3 = 0 from rfl] at hx160_2);(try rw [Addr.add_zero'] at hx160_2);replace p160 := eq_true p160;replace q160 := eq_true q160) | (go_at_call 12;(with_reducible refine (impl_EvOk.calls ((rd_T26 y142 0).f0) ((rd_T26 y142 0).f1) ((rd_T26 y142 0).f2) t161 _ A107.out).mono ?_);rintro e w115 ⟨rfl, hb⟩;have n0_ := Aside0.mk (Kd.R_below (by (with_reducible repeat (first | apply Kd.R_alloc | apply Kd.R_drewN | apply Kd.R_drew));exact HO_3.out) hb);have n1_ := Aside0.mk (Kd.R_below (by (with_reducible repeat (first | apply Kd.R_alloc | apply Kd.R_drewN | apply Kd.R_drew));exact HO_6.out) hb);have n2_ := Aside0.mk (Kd.R_below (by (with_reducible repeat (first | apply Kd.R_alloc | apply Kd.R_drewN | apply Kd.R_drew));exact HO_7.out) hb);have n3_ := Aside0.mk (Kd.R_below (by (with_reducible repeat (first | apply Kd.R_alloc | apply Kd.R_drewN | apply Kd.R_drew));exact HO_8.out) hb);have n4_ := Aside0.mk (Kd.C_below (by repeat (first | (with_reducible exact HR156.out) | (with_reducible refine Kd.C_alloc ?_ _) | (with_reducible refine Kd.C_drewN ?_ _) | (with_reducible refine Kd.C_drew ?_) | exact HR156.out)) hb);have n5_ := Aside0.mk (below_step (by exact HB.out) hb);clear HO_3;clear HO_6;clear HO_7;clear HO_8;clear HR156;clear HB;have HO_3 := n0_;have HO_6 := n1_;have HO_7 := n2_;have HO_8 := n3_;have HR156 := n4_;have HB := n5_;clear n0_ n1_ n2_ n3_ n4_ n5_;(try clear hb);(try clear hb2);(try clear hk);(try clear hi)))
                           go_ret
                           exact ⟨by first | rfl | (simp [errW_none, errW_some] <;> rfl) | (simp only [← hji38];first | rfl | (simp [errW_none, errW_some] <;> rfl)) | (simp [*, errW_none, errW_some] <;> rfl), by repeat (first | (with_reducible first | exact HB.out | apply below_alloc | apply pw_below_drewN | apply below_drew1) | exact HB.out)⟩
                          ·rw [if_neg c106] at H
                           exact absurd H (by simp)
                        ·rw [if_neg c96] at H
                         exact absurd H (by simp)
                       ·replace c95 := Bool.eq_false_iff.mpr c95
                        subst c95
                        have H1 : (some false) = some r := by rw [if_neg (show ¬ (false = true) by decide)] at H;exact H
                        clear H
                        have H := H1
                        clear H1
                        obtain rfl := Option.some.inj H
                        obtain ⟨Ao116, co116, eo116⟩ := Kd.R_slice HO_6.out
                        subst eo116
                        go_wp2_with (first | ((with_reducible refine gate_callee (f := 19) rfl ?_);refine goesL_ (some 86) rfl rfl Try.func19 (by kernel_rfl) rfl #[.slice Ao116 x6_3.length co116] rfl (by (try simp only [List.map_toArray, List.map_cons, List.map_nil]);first | done | rfl | (simp only [List.length_drop, List.length_take];rfl)) ?_;(with_reducible refine (impl_EvsOk.calls k3 _ _ x6_3 false _ ?side1 ?side2 A78.out).mono ?_);(case side1 => repeat (first | exact (Kd.R_reads' HO_6.out).2.2 | (with_reducible refine Kd.C_alloc ?_ _) | (with_reducible refine Kd.C_drewN ?_ _) | (with_reducible refine Kd.C_drew ?_)));(case side2 => exact (Kd.R_reads' HO_6.out).2.1);rintro e w117 ⟨rfl, hb⟩;refine ⟨_, rfl, ?_⟩;have n0_ := Aside0.mk (Kd.R_below (by (with_reducible repeat (first | apply Kd.R_alloc | apply Kd.R_drewN | apply Kd.R_drew));exact HO_3.out) hb);have n1_ := Aside0.mk (Kd.R_below (by (with_reducible repeat (first | apply Kd.R_alloc | apply Kd.R_drewN | apply Kd.R_drew));exact HO_6.out) hb);have n2_ := Aside0.mk (Kd.R_below (by (with_reducible repeat (first | apply Kd.R_alloc | apply Kd.R_drewN | apply Kd.R_drew));exact HO_7.out) hb);have n3_ := Aside0.mk (Kd.R_below (by (with_reducible repeat (first | apply Kd.R_alloc | apply Kd.R_drewN | apply Kd.R_drew));exact HO_8.out) hb);have n4_ := Aside0.mk (below_step (by exact HB.out) hb);clear HO_3;clear HO_6;clear HO_7;clear HO_8;clear HB;have HO_3 := n0_;have HO_6 := n1_;have HO_7 := n2_;have HO_8 := n3_;have HB := n4_;clear n0_ n1_ n2_ n3_ n4_;(try clear hb);(try clear hb2);(try clear hk);(try clear hi)) | (go_at_call 19;(with_reducible refine (impl_EvsOk.calls k3 _ _ y135 false _ ?side1 ?side2 A82.out).mono ?_);(case side1 => repeat (first | exact (Kd.R_reads' HO_7.out).2.2 | (with_reducible refine Kd.C_alloc ?_ _) | (with_reducible refine Kd.C_drewN ?_ _) | (with_reducible refine Kd.C_drew ?_)));(case side2 => exact (Kd.R_reads' HO_7.out).2.1);rintro e w118 ⟨rfl, hb⟩;have n0_ := Aside0.mk (Kd.R_below (by (with_reducible repeat (first | apply Kd.R_alloc | apply Kd.R_drewN | apply Kd.R_drew));exact HO_3.out) hb);have n1_ := Aside0.mk (Kd.R_below (by (with_reducible repeat (first | apply Kd.R_alloc | apply Kd.R_drewN | apply Kd.R_drew));exact HO_6.out) hb);have n2_ := Aside0.mk (Kd.R_below (by (with_reducible repeat (first | apply Kd.R_alloc | apply Kd.R_drewN | apply Kd.R_drew));exact HO_7.out) hb);have n3_ := Aside0.mk (Kd.R_below (by (with_reducible repeat (first | apply Kd.R_alloc | apply Kd.R_drewN | apply Kd.R_drew));exact HO_8.out) hb);have n4_ := Aside0.mk (below_step (by exact HB.out) hb);clear HO_3;clear HO_6;clear HO_7;clear HO_8;clear HB;have HO_3 := n0_;have HO_6 := n1_;have HO_7 := n2_;have HO_8 := n3_;have HB := n4_;clear n0_ n1_ n2_ n3_ n4_;(try clear hb);(try clear hb2);(try clear hk);(try clear hi)) | (go_at_call 19;(with_reducible refine (impl_EvsOk.calls k3 _ _ y142 false _ ?side1 ?side2 A87.out).mono ?_);(case side1 => repeat (first | exact (Kd.R_reads' HO_8.out).2.2 | (with_reducible refine Kd.C_alloc ?_ _) | (with_reducible refine Kd.C_drewN ?_ _) | (with_reducible refine Kd.C_drew ?_)));(case side2 => exact (Kd.R_reads' HO_8.out).2.1);rintro e w119 ⟨rfl, hb⟩;have n0_ := Aside0.mk (Kd.R_below (by (with_reducible repeat (first | apply Kd.R_alloc | apply Kd.R_drewN | apply Kd.R_drew));exact HO_3.out) hb);have n1_ := Aside0.mk (Kd.R_below (by (with_reducible repeat (first | apply Kd.R_alloc | apply Kd.R_drewN | apply Kd.R_drew));exact HO_6.out) hb);have n2_ := Aside0.mk (Kd.R_below (by (with_reducible repeat (first | apply Kd.R_alloc | apply Kd.R_drewN | apply Kd.R_drew));exact HO_7.out) hb);have n3_ := Aside0.mk (Kd.R_below (by (with_reducible repeat (first | apply Kd.R_alloc | apply Kd.R_drewN | apply Kd.R_drew));exact HO_8.out) hb);have n4_ := Aside0.mk (below_step (by exact HB.out) hb);clear HO_3;clear HO_6;clear HO_7;clear HO_8;clear HB;have HO_3 := n0_;have HO_6 := n1_;have HO_7 := n2_;have HO_8 := n3_;have HB := n4_;clear n0_ n1_ n2_ n3_ n4_;(try clear hb);(try clear hb2);(try clear hk);(try clear hi);have q120 : (1 : Int) ≤ ((t101.length : Int) : Int) := of_decide_eq_true (by first | (with_reducible assumption) | assumption);obtain ⟨i0120, hi0120, _, hsz120, _⟩ := info_parts info26;have hroom120 : t101.length ≤ co48 := (Kd.R_reads' HO_3.out).2.1;have hC120 : Kd.C k26 _ (some ad122) t101.length t101 := (Kd.R_reads' HO_3.out).2.2;have hcut120 := cut_from (P := Try.prog) 32 26 .i64 Try.underlying32 hi0120 3 hsz120 (some ad122) t101.length co48 1 (by omega) q120;have hr120 := Kd.C_drop (m := (1 : Int).toNat) (c := co48) hC120 (by omega) hroom120;obtain ⟨A120, hA120⟩ : ∃ A1, A1 = (if co48 = (1 : Int).toNat then (some ad122) else ((some ad122) : Option Addr).map (·.add ((1 : Int).toNat * 3))) := ⟨_, rfl⟩;obtain ⟨c120, hc120⟩ : ∃ c1, c1 = co48 - (1 : Int).toNat := ⟨_, rfl⟩;have hy120 : y153.length = t101.length - (1 : Int).toNat := (by rw [Ny153.out, List.length_drop] <;> omega);rw [show (t101).drop (1 : Int).toNat = y153 from Ny153.out.symm] at hr120;replace hr120 : Kd.C k26 _ A120 y153.length y153 := (by rw [hA120];exact hr120);rw [← hy120, ← hA120, ← hc120] at hcut120;have HR156 := Aside0.mk hr120;have HC156 := Aside0.mk (show y153.length ≤ c120 from by rw [hy120, hc120];exact Nat.sub_le_sub_right hroom120 _);clear hr120 hC120 hroom120 hi0120 hsz120 hc120;have KY120 := Aside0.mk hy120;have KA120 := Aside0.mk hA120;clear hy120 hA120;have KL120 := Aside0.mk (show 1 ≤ t101.length from by omega);replace q120 := eq_true q120) | (go_at_call 19;(with_reducible refine (impl_EvsOk.calls k3 _ _ y153 false _ ?side1 ?side2 A94.out).mono ?_);(case side1 => repeat (first | exact (by repeat (first | (with_reducible exact HR156.out) | (with_reducible refine Kd.C_alloc ?_ _) | (with_reducible refine Kd.C_drewN ?_ _) | (with_reducible refine Kd.C_drew ?_) | exact HR156.out)) | (with_reducible refine Kd.C_alloc ?_ _) | (with_reducible refine Kd.C_drewN ?_ _) | (with_reducible refine Kd.C_drew ?_)));(case side2 => exact HC156.out);rintro e w121 ⟨rfl, hb⟩;have n0_ := Aside0.mk (Kd.R_below (by (with_reducible repeat (first | apply Kd.R_alloc | apply Kd.R_drewN | apply Kd.R_drew));exact HO_3.out) hb);have n1_ := Aside0.mk (Kd.R_below (by (with_reducible repeat (first | apply Kd.R_alloc | apply Kd.R_drewN | apply Kd.R_drew));exact HO_6.out) hb);have n2_ := Aside0.mk (Kd.R_below (by (with_reducible repeat (first | apply Kd.R_alloc | apply Kd.R_drewN | apply Kd.R_drew));exact HO_7.out) hb);have n3_ := Aside0.mk (Kd.R_below (by (with_reducible repeat (first | apply Kd.R_alloc | apply Kd.R_drewN | apply Kd.R_drew));exact HO_8.out) hb);have n4_ := Aside0.mk (Kd.C_below (by repeat (first | (with_reducible exact HR156.out) | (with_reducible refine Kd.C_alloc ?_ _) | (with_reducible refine Kd.C_drewN ?_ _) | (with_reducible refine Kd.C_drew ?_) | exact HR156.out)) hb);have n5_ := Aside0.mk (below_step (by exact HB.out) hb);clear HO_3;clear HO_6;clear HO_7;clear HO_8;clear HR156;clear HB;have HO_3 := n0_;have HO_6 := n1_;have HO_7 := n2_;have HO_8 := n3_;have HR156 := n4_;have HB := n5_;clear n0_ n1_ n2_ n3_ n4_ n5_;(try clear hb);(try clear hb2);(try clear hk);(try clear hi)))
                        go_ret
                        exact ⟨by first | rfl | (simp [errW_none, errW_some] <;> rfl) | (simp only [← hji38];first | rfl | (simp [errW_none, errW_some] <;> rfl)) | (simp [*, errW_none, errW_some] <;> rfl), by repeat (first | (with_reducible first | exact HB.out | apply below_alloc | apply pw_below_drewN | apply below_drew1) | exact HB.out)⟩
                      ·rw [if_neg c93] at H
                       exact absurd H (by simp)
               ·rw [if_neg c46] at H
                exact absurd H (by simp)
              ·rw [if_neg c45] at H
               exact absurd H (by simp)
             ·rw [if_neg c43] at H
              exact absurd H (by simp)
            ·rw [if_neg c42] at H
             exact absurd H (by simp)
           ·rw [if_neg c41] at H
            exact absurd H (by simp)
          ·rw [if_neg c40] at H
           exact absurd H (by simp)
         ·rw [if_neg c39] at H
          exact absurd H (by simp)
        ·rw [if_neg c37] at H
         exact absurd H (by simp)

end Go.Proofs.Ytiebpoikhijbgaa.M
namespace Go.Proofs.Ytiebpoikhijbgaa.M
open Go.RowKit Go.Proofs.YtiebpoikhijbgaaW.PrintWords Go.Proofs.YtiebpoikhijbgaaW.PrintLast

theorem w_small {i : Int} (h0 : -9223372036854775808 ≤ i) (h1 : i ≤ 9223372036854775807) : wrap64 i = i := by
  unfold wrap64
  omega
theorem w_succ {n : Nat} (h : n < 9223372036854775807) : wrap64 ((n : Int) + 1) = ((n + 1 : Nat) : Int) := by
  unfold wrap64
  omega
theorem drop_at {α : Type} (xs : List α) (z : α) (n : Nat) (h : n < xs.length) : xs.drop n = xs.getD n z :: xs.drop (n + 1) := by
  rw [List.drop_eq_getElem_cons h, List.getD_eq_getElem?_getD, List.getElem?_eq_getElem h]
  rfl
theorem Ev.one {α : Type} {g : Nat → Option α} {r : α} (h : ∀ k, g k = some r) : Ev g r := ⟨0, fun k _ => h k⟩
theorem Ev.last {α : Type} {g : Nat → Option α} {r : α} (h : ∀ k, g (k + 1) = some r) : Ev g r := Ev.step (f := fun _ => some r) h (Ev.now r)
theorem Ev.bindS {α β : Type} {g : Nat → Option α} {f : α → Option β} {a : α} {r : β} (h : Ev g a) (k : f a = some r) : Ev (fun n => (g n).bind f) r := Ev.bind (f := fun _ => f) h (Ev.one (fun _ => k))
theorem bind_some' {α β : Type} {a : Option α} {x : α} {f : α → Option β} {r : Option β} (h : a = some x) (k : f x = r) : a.bind f = r := by rw [h]; exact k
theorem Ev.pos {α : Type} {c : Prop} [Decidable c] {g f : Nat → Option α} {r : α} (h : c) (k : Ev g r) : Ev (fun n => if c then g n else f n) r := Ev.congr (fun _ => if_pos h) k
theorem Ev.neg {α : Type} {c : Prop} [Decidable c] {g f : Nat → Option α} {r : α} (h : ¬ c) (k : Ev f r) : Ev (fun n => if c then g n else f n) r := Ev.congr (fun _ => if_neg h) k
theorem Ev.val {α : Type} {g : Nat → Option α} {r r' : α} (h : Ev g r) (e : r = r') : Ev g r' := e ▸ h
theorem Ev.uniq {α : Type} {g : Nat → Option α} {r r' : α} (h : Ev g r) (h' : Ev g r') : r = r' := by
  obtain ⟨K, h⟩ := h
  obtain ⟨K', h'⟩ := h'
  have h1 := h (max K K') (by omega)
  have h2 := h' (max K K') (by omega)
  rw [h1] at h2
  exact Option.some.inj h2
theorem take_set {α : Type} (xs : List α) (n : Nat) (v : α) (h : n < xs.length) : (xs.set n v).take (n + 1) = xs.take n ++ [v] := by
  rw [List.take_succ_eq_append_getElem (by simpa using h), List.getElem_set_self, List.take_set_of_le (Nat.le_refl n)]
theorem filter_snoc {α : Type} (p : α → Bool) (xs : List α) (x : α) : (xs ++ [x]).filter p = xs.filter p ++ if p x then [x] else [] := by
  rw [List.filter_append]
  by_cases h : p x = true
  · simp [h]
  · simp [h]
theorem if_false' {α : Type} {a b : α} : (if false = true then a else b) = b := if_neg (by decide)
theorem if_true' {α : Type} {a b : α} : (if true = true then a else b) = a := if_pos rfl
end Go.Proofs.Ytiebpoikhijbgaa.M
namespace Go.Proofs.Ytiebpoikhijbgaa.M
open Go.RowKit Go.Proofs.YtiebpoikhijbgaaW.PrintWords Go.Proofs.YtiebpoikhijbgaaW.PrintLast

def evOkB (x : S26) : Bool := decide (0 ≤ x.f0) && decide (x.f0 ≤ 4) && decide (1 ≤ x.f1) && decide (x.f1 ≤ 1000) && decide (0 ≤ x.f2) && decide (x.f2 ≤ 100)
def evsGo : Int → List S26 → Bool
  | _, [] => true
  | p, x :: xs => evOkB x && decide (p < x.f1) && evsGo x.f1 xs
def evsOkB (l : List S26) : Bool := evsGo 0 l && decide (l.length ≤ 24)

theorem spec_EvOk_is (a b c : Int) : spec_EvOk.f a b c = some (evOkB ⟨a, b, c⟩) := by
  unfold spec_EvOk.f evOkB
  by_cases h0 : a ≥ 0
  · by_cases h1 : a < 5
    · by_cases h2 : b ≥ 1
      · by_cases h3 : b ≤ 1000
        · by_cases h4 : c ≥ 0
          · rw [if_pos h0, if_pos h1, if_pos h2, if_pos h3, if_pos h4]
            simp
            omega
          · rw [if_pos h0, if_pos h1, if_pos h2, if_pos h3, if_neg h4]
            simp
            omega
        · rw [if_pos h0, if_pos h1, if_pos h2, if_neg h3]
          simp
          omega
      · rw [if_pos h0, if_pos h1, if_neg h2]
        simp
        omega
    · rw [if_pos h0, if_neg h1]
      simp
      omega
  · rw [if_neg h0]
    simp
    omega
theorem impl_in_is (a b c : Int) : impl_in.f a b c = some (decide (b ≤ a) && decide (a ≤ c)) := by
  unfold impl_in.f
  by_cases h : b ≤ a
  · rw [if_pos h]; simp [h]
  · rw [if_neg h]; simp [h]
theorem impl_isSym_is (a : Int) : impl_isSym.f a = some (decide (0 ≤ a) && decide (a ≤ 4)) := by
  unfold impl_isSym.f
  rw [impl_in_is]; rfl
theorem impl_EvOk_is (a b c : Int) : impl_EvOk.f a b c = some (evOkB ⟨a, b, c⟩) := by
  unfold impl_EvOk.f evOkB
  rw [impl_isSym_is]
  simp only [Option.bind_some, impl_in_is]
  by_cases h0 : (decide (0 ≤ a) && decide (a ≤ 4)) = true
  · rw [if_pos h0, h0]
    by_cases h1 : (decide (1 ≤ b) && decide (b ≤ 1000)) = true
    · rw [if_pos h1]
      simp only [Bool.true_and, h1]
    · rw [if_neg h1]
      simp only [Bool.not_eq_true] at h1
      simp only [Bool.true_and, h1, Bool.false_and]
  · rw [if_neg h0]
    simp only [Bool.not_eq_true] at h0
    simp only [h0, Bool.false_and]

def evPrev (l : List S26) (n : Nat) : Int := if n = 0 then 0 else (l.getD (n - 1) z26).f1
theorem evGood (x : S26) (h : evOkB x = true) : 0 < x.f1 := by
  unfold evOkB at h
  simp at h
  omega
theorem evPrev_succ (l : List S26) (n : Nat) : evPrev l (n + 1) = (l.getD n z26).f1 := by simp [evPrev]

theorem spec_EvsOk_l0_ev (l : List S26) (hl : l.length ≤ 9223372036854775807) : ∀ d n : Nat, n + d = l.length → Ev (fun k => spec_EvsOk.l0 k l (n : Int)) (evsGo (evPrev l n) (l.drop n)) := by
  intro d
  induction d with
  | zero =>
    intro n hn
    rw [List.drop_of_length_le (by omega)]
    exact Ev.last (fun k => by simp only [spec_EvsOk.l0]; rw [if_neg (by omega)]; rfl)
  | succ d ih =>
    intro n hn
    have hlt : n < l.length := by omega
    have hrd : rd_T26 l (n : Int) = l.getD n z26 := rfl
    rw [drop_at l z26 n hlt]
    have next := ih (n + 1) (by omega)
    rw [evPrev_succ] at next
    refine Ev.step (fun k => by simp only [spec_EvsOk.l0]; rw [if_pos (by omega), if_pos (by omega), spec_EvOk_is, w_succ (by omega), hrd, Option.bind_some]) ?_
    generalize l.getD n z26 = x at *
    unfold evsGo
    by_cases hx : evOkB x = true
    · have h0 := evGood x hx
      refine Ev.pos hx ?_
      rw [show evOkB ⟨x.f0, x.f1, x.f2⟩ = true from hx] at *
      rw [hx]
      rcases Nat.eq_zero_or_pos n with hz | hp
      · subst hz
        refine Ev.neg (by omega) ?_
        rw [show evPrev l 0 = 0 from rfl, decide_eq_true h0]
        exact next
      · obtain ⟨m, rfl⟩ : ∃ m, n = m + 1 := ⟨n - 1, by omega⟩
        have hw : wrap64 (((m + 1 : Nat) : Int) - 1) = (m : Int) := by rw [w_small (by omega) (by omega)]; omega
        refine Ev.pos (by omega) ?_
        rw [hw]
        refine Ev.pos (by omega) (Ev.pos (by omega) ?_)
        have hr2 : rd_T26 l (m : Int) = l.getD m z26 := rfl
        rw [hr2, evPrev_succ]
        by_cases hc : x.f1 ≤ (l.getD m z26).f1
        · refine Ev.pos hc ?_
          rw [decide_eq_false (by omega)]
          exact Ev.now _
        · refine Ev.neg hc ?_
          rw [decide_eq_true (by omega)]
          exact next
    · refine Ev.neg hx ?_
      simp only [Bool.not_eq_true] at hx
      rw [hx]
      exact Ev.now _

theorem spec_EvsOk_ev (l : List S26) (hl : l.length ≤ 9223372036854775807) : Ev (fun k => spec_EvsOk.f k l) (evsOkB l) := by
  unfold spec_EvsOk.f evsOkB
  by_cases h : (l.length : Int) > 24
  · refine Ev.pos h ?_
    rw [decide_eq_false (by omega), Bool.and_false]
    exact Ev.now _
  · refine Ev.neg h ?_
    rw [decide_eq_true (by omega), Bool.and_true]
    exact spec_EvsOk_l0_ev l hl l.length 0 (by omega)

theorem impl_EvsOk_l0_ev (l : List S26) (hl : l.length ≤ 9223372036854775807) : ∀ d n : Nat, n + d = l.length → Ev (fun k => impl_EvsOk.l0 k l l (l.length : Int) (n : Int)) (evsGo (evPrev l n) (l.drop n) && decide (l.length ≤ 24)) := by
  intro d
  induction d with
  | zero =>
    intro n hn
    rw [List.drop_of_length_le (by omega)]
    exact Ev.last (fun k => by simp only [impl_EvsOk.l0]; rw [if_neg (by omega)]; simp [evsGo]; omega)
  | succ d ih =>
    intro n hn
    have hlt : n < l.length := by omega
    have hrd : rd_T26 l (n : Int) = l.getD n z26 := rfl
    rw [drop_at l z26 n hlt]
    have next := ih (n + 1) (by omega)
    rw [evPrev_succ] at next
    refine Ev.step (fun k => by simp only [impl_EvsOk.l0]; rw [if_pos (by omega), if_pos (by omega), if_pos (by omega), impl_EvOk_is, w_succ (by omega), hrd, Option.bind_some]) ?_
    generalize l.getD n z26 = x at *
    unfold evsGo
    by_cases hx : evOkB x = true
    · have h0 := evGood x hx
      refine Ev.pos hx ?_
      rw [hx]
      rcases Nat.eq_zero_or_pos n with hz | hp
      · subst hz
        refine Ev.neg (by omega) ?_
        rw [show evPrev l 0 = 0 from rfl, decide_eq_true h0]
        exact next
      · obtain ⟨m, rfl⟩ : ∃ m, n = m + 1 := ⟨n - 1, by omega⟩
        have hw : wrap64 (((m + 1 : Nat) : Int) - 1) = (m : Int) := by rw [w_small (by omega) (by omega)]; omega
        refine Ev.pos (by omega) ?_
        rw [hw]
        refine Ev.pos (by omega) (Ev.pos (by omega) ?_)
        have hr2 : rd_T26 l (m : Int) = l.getD m z26 := rfl
        rw [hr2, evPrev_succ]
        by_cases hc : x.f1 ≤ (l.getD m z26).f1
        · refine Ev.pos hc ?_
          rw [decide_eq_false (by omega)]
          exact Ev.now _
        · refine Ev.neg hc ?_
          rw [decide_eq_true (by omega)]
          exact next
    · refine Ev.neg hx ?_
      simp only [Bool.not_eq_true] at hx
      rw [hx]
      exact Ev.now _

theorem impl_EvsOk_ev (l : List S26) (hl : l.length ≤ 9223372036854775807) : Ev (fun k => impl_EvsOk.f k l) (evsOkB l) := impl_EvsOk_l0_ev l hl l.length 0 (by omega)
end Go.Proofs.Ytiebpoikhijbgaa.M
namespace Go.Proofs.Ytiebpoikhijbgaa.M
open Go.RowKit Go.Proofs.YtiebpoikhijbgaaW.PrintWords Go.Proofs.YtiebpoikhijbgaaW.PrintLast Go.Proofs.YtiebpoikhijbgaaW.PrintMore
attribute [local go_sem] max2_int min2_int max_two min_two max_three min_three max_four min_four
set_option linter.unusedVariables false
set_option linter.unusedSimpArgs false

def laws_szEvS.f (l0 : List (S24)) (a1 : Int) : Option (Int) := if (wrap64 (a1 - (l0.length : Int))) < 0 then (some (-1)) else (some (wrap64 (a1 - (l0.length : Int))))
set_option maxHeartbeats 8000000 in
set_option maxRecDepth 100000 in
theorem laws_szEvS.calls (A0 : Option Addr) (c0 : Nat) (l0 : List (S24)) (a1 : Int) (r : Int) (w : World) (hr0 : Kd.C k24 w A0 l0.length l0) (hc0 : l0.length ≤ c0) (h : laws_szEvS.f l0 a1 = some r) :
    Calls Try.prog 13 #[.slice A0 l0.length c0, .int .i64 a1] w fun e w' => e = .returned (.int .i64 r) ∧ Drawn0 w w' := by
  have HR0 := Aside0.mk hr0
  have HC0 := Aside0.mk hc0
  clear hr0 hc0
  have H : (if (wrap64 (a1 - (l0.length : Int))) < 0 then (some (-1)) else (some (wrap64 (a1 - (l0.length : Int))))) = some r := h
  clear h
  by_cases c3 : (wrap64 (a1 - (l0.length : Int))) < 0
  · rw [if_pos c3] at H
    have c3b0 : decide ((wrap64 (a1 - (l0.length : Int))) < 0) = true := decide_eq_true c3
    clear c3
    obtain rfl := Option.some.inj H
    go_enter Try.func13, Try.ntmps13
    go_wp2
    go_ret
    exact ⟨by first | rfl | (simp; done) | (simp [*]; done), by repeat (first | exact Drawn0.refl _ | apply Drawn0.step)⟩
  · rw [if_neg c3] at H
    have c3b0 : decide ((wrap64 (a1 - (l0.length : Int))) < 0) = false := decide_eq_false c3
    clear c3
    obtain rfl := Option.some.inj H
    go_enter Try.func13, Try.ntmps13
    go_wp2
    go_ret
    exact ⟨by first | rfl | (simp; done) | (simp [*]; done), by repeat (first | exact Drawn0.refl _ | apply Drawn0.step)⟩

end Go.Proofs.Ytiebpoikhijbgaa.M
namespace Go.Proofs.Ytiebpoikhijbgaa.M
open Go.RowKit Go.Proofs.YtiebpoikhijbgaaW.PrintWords Go.Proofs.YtiebpoikhijbgaaW.PrintLast Go.Proofs.YtiebpoikhijbgaaW.PrintMore
attribute [local go_sem] max2_int min2_int max_two min_two max_three min_three max_four min_four
set_option linter.unusedVariables false
set_option linter.unusedSimpArgs false

def laws_toEv.f (a0_0 : Int) (a0_1 : Int) (a0_2 : Int) : Option (Int × Int × Int) := some (a0_0, a0_1, a0_2)
set_option maxHeartbeats 8000000 in
set_option maxRecDepth 100000 in
theorem laws_toEv.calls (a0_0 : Int) (a0_1 : Int) (a0_2 : Int) (r1 : Int) (r2 : Int) (r3 : Int) (w : World) (h : laws_toEv.f a0_0 a0_1 a0_2 = some (r1, r2, r3)) :
  Calls Try.prog 11 #[.agg #[.int .i64 a0_0, .int .i64 a0_1, .int .i64 a0_2]] w fun e w' => e = .returned (.agg #[.int .i64 r1, .int .i64 r2, .int .i64 r3]) ∧ Below w.heap.size w w' := by
 have hu24 := Try.underlying24
 have hu26 := Try.underlying26
 have HB := Aside0.mk (Below.refl w.heap.size w)
 have H : (some (a0_0, a0_1, a0_2)) = some (r1, r2, r3) := h
 clear h
 simp only [Option.some.injEq, Prod.mk.injEq] at H
 obtain ⟨rfl, rfl, rfl⟩ := H
 go_enter Try.func11, Try.ntmps11
 go_wp2_with (first | ((with_reducible refine gate_dst (N := 1) rfl ?_);refine box_event ?hg (N := 1) ?hd (cs := #[.int .i64 a0_0, .int .i64 a0_1, .int .i64 a0_2]) (t := 24) ?hr ?_;(case hd => rfl);(case hg => rfl);(case hr => first | (go_simp;done) | (go_simp;rfl));intro gb101 hg w2 hbox hb;have n0_ := Aside0.mk (below_step (by exact HB.out) hb);have n1_ := Aside0.mk (hbox);have n2_ := Aside0.mk ((by rw [hg];exact (below_size (by exact HB.out)) : w.heap.size ≤ gb101));have n3_ := Aside0.mk ((by rw [hg];exact (below_size (by exact HB.out)) : w.heap.size ≤ gb101));clear HB;have HB := n0_;have BK101 := n1_;have GW101 := n2_;have GE101 := n3_;clear n0_ n1_ n2_ n3_;clear hb hbox hg) | ((with_reducible refine gate_dst (N := 2) rfl ?_);refine box_event ?hg (N := 2) ?hd (cs := #[.int .i64 0, .int .i64 0, .int .i64 0]) (t := 26) ?hr ?_;(case hd => rfl);(case hg => rfl);(case hr => first | (go_simp;done) | (go_simp;rfl));intro gb102 hg w3 hbox hb;have n0_ := Aside0.mk (blk_below BK101.out hb);have n1_ := Aside0.mk (below_step (by exact HB.out) hb);have n2_ := Aside0.mk (hbox);have n3_ := Aside0.mk ((by rw [hg];exact (below_size (by exact HB.out)) : w.heap.size ≤ gb102));have n4_ := Aside0.mk ((by rw [hg];exact (below_size (by exact HB.out)) : w.heap.size ≤ gb102));have n5_ := Aside0.mk ((by rw [hg];exact Nat.ne_of_lt (blk_lt BK101.out) : gb101 ≠ gb102));have n6_ := Aside0.mk ((by rw [hg];exact Nat.ne_of_gt (blk_lt BK101.out) : gb102 ≠ gb101));clear BK101;clear HB;have BK101 := n0_;have HB := n1_;have BK102 := n2_;have GW102 := n3_;have GE102 := n4_;have NB101_102 := n5_;have NB102_101 := n6_;clear n0_ n1_ n2_ n3_ n4_ n5_ n6_;clear hb hbox hg) | ((with_reducible refine gate_dst (N := 3) rfl ?_);refine box_event ?hg (N := 3) ?hd (cs := #[.int .i64 0, .int .i64 0, .int .i64 0]) (t := 26) ?hr ?_;(case hd => rfl);(case hg => rfl);(case hr => first | (go_simp;done) | (go_simp;rfl));intro gb103 hg w4 hbox hb;have n0_ := Aside0.mk (blk_below BK101.out hb);have n1_ := Aside0.mk (blk_below BK102.out hb);have n2_ := Aside0.mk (below_step (by exact HB.out) hb);have n3_ := Aside0.mk (hbox);have n4_ := Aside0.mk ((by rw [hg];exact (below_size (by exact HB.out)) : w.heap.size ≤ gb103));have n5_ := Aside0.mk ((by rw [hg];exact (below_size (by exact HB.out)) : w.heap.size ≤ gb103));have n6_ := Aside0.mk ((by rw [hg];exact Nat.ne_of_lt (blk_lt BK101.out) : gb101 ≠ gb103));have n7_ := Aside0.mk ((by rw [hg];exact Nat.ne_of_gt (blk_lt BK101.out) : gb103 ≠ gb101));have n8_ := Aside0.mk ((by rw [hg];exact Nat.ne_of_lt (blk_lt BK102.out) : gb102 ≠ gb103));have n9_ := Aside0.mk ((by rw [hg];exact Nat.ne_of_gt (blk_lt BK102.out) : gb103 ≠ gb102));clear BK101;clear BK102;clear HB;have BK101 := n0_;have BK102 := n1_;have HB := n2_;have BK103 := n3_;have GW103 := n4_;have GE103 := n5_;have NB101_103 := n6_;have NB103_101 := n7_;have NB102_103 := n8_;have NB103_102 := n9_;clear n0_ n1_ n2_ n3_ n4_ n5_ n6_ n7_ n8_ n9_;clear hb hbox hg;have hnb5 := NB101_102.out;have hnc5 := NB102_101.out;have hnb6 := NB101_103.out;have hnc6 := NB103_101.out;have hcz7_0 : w4.cell? ⟨gb101, 0, none⟩ = some (.int .i64 a0_0) := (blk_cell BK101.out 0).trans rfl;have hcz7_1 : w4.cell? ⟨gb101, 1, none⟩ = some (.int .i64 a0_1) := (blk_cell BK101.out 1).trans rfl;have hcz7_2 : w4.cell? ⟨gb101, 2, none⟩ = some (.int .i64 a0_2) := (blk_cell BK101.out 2).trans rfl;have hfz7_0 := blk_frozen BK101.out 0;have hfz7_1 := blk_frozen BK101.out 1;have hfz7_2 := blk_frozen BK101.out 2;have hnb8 := NB103_102.out;have hnc8 := NB102_103.out;have hcz9_0 : w4.cell? ⟨gb103, 0, none⟩ = some (.int .i64 0) := (blk_cell BK103.out 0).trans rfl;have hcz9_1 : w4.cell? ⟨gb103, 1, none⟩ = some (.int .i64 0) := (blk_cell BK103.out 1).trans rfl;have hcz9_2 : w4.cell? ⟨gb103, 2, none⟩ = some (.int .i64 0) := (blk_cell BK103.out 2).trans rfl;have hfz9_0 := blk_frozen BK103.out 0;have hfz9_1 := blk_frozen BK103.out 1;have hfz9_2 := blk_frozen BK103.out 2;have hcz10_0 : w4.cell? ⟨gb102, 0, none⟩ = some (.int .i64 0) := (blk_cell BK102.out 0).trans rfl;have hcz10_1 : w4.cell? ⟨gb102, 1, none⟩ = some (.int .i64 0) := (blk_cell BK102.out 1).trans rfl;have hcz10_2 : w4.cell? ⟨gb102, 2, none⟩ = some (.int .i64 0) := (blk_cell BK102.out 2).trans rfl;have hfz10_0 := blk_frozen BK102.out 0;have hfz10_1 := blk_frozen BK102.out 1;have hfz10_2 := blk_frozen BK102.out 2))
 refine bodyPost_ret (results_cell_row rfl _ _ gb102 26 #[.int .i64 a0_0, .int .i64 a0_1, .int .i64 a0_2] (0, 0) _ rfl (by (with_reducible repeat (first | refine blk_drewN ?_ _ | refine blk_drew ?_ | refine blk_alloc ?_ _));refine blk_put (cs := #[.int .i64 a0_0, .int .i64 a0_1, .int .i64 0]) ?_ 2 _ rfl;(with_reducible repeat (first | refine blk_drewN ?_ _ | refine blk_drew ?_ | refine blk_alloc ?_ _));refine blk_put (cs := #[.int .i64 a0_0, .int .i64 0, .int .i64 0]) ?_ 1 _ rfl;(with_reducible repeat (first | refine blk_drewN ?_ _ | refine blk_drew ?_ | refine blk_alloc ?_ _));refine blk_put (cs := #[.int .i64 0, .int .i64 0, .int .i64 0]) ?_ 0 _ rfl;(with_reducible repeat (first | refine blk_drewN ?_ _ | refine blk_drew ?_ | refine blk_alloc ?_ _));refine blk_far ?_ NB102_103.out _;(with_reducible repeat (first | refine blk_drewN ?_ _ | refine blk_drew ?_ | refine blk_alloc ?_ _));refine blk_far ?_ NB102_103.out _;(with_reducible repeat (first | refine blk_drewN ?_ _ | refine blk_drew ?_ | refine blk_alloc ?_ _));refine blk_far ?_ NB102_103.out _;(with_reducible repeat (first | refine blk_drewN ?_ _ | refine blk_drew ?_ | refine blk_alloc ?_ _));exact BK102.out) Try.underlying26 rfl (by kernel_rfl)) rfl ?_
 exact ⟨by first | rfl | (simp [errW_none, errW_some] <;> rfl) | (simp [*, errW_none, errW_some] <;> rfl), by repeat (first | (with_reducible first | exact HB.out | apply below_alloc | apply pw_below_drewN | apply below_drew1 | refine below_set ?_ GE101.out | refine below_set ?_ GE102.out | refine below_set ?_ GE103.out) | exact HB.out)⟩

end Go.Proofs.Ytiebpoikhijbgaa.M
namespace Go.Proofs.Ytiebpoikhijbgaa.M
open Go.RowKit Go.Proofs.YtiebpoikhijbgaaW.PrintWords Go.Proofs.YtiebpoikhijbgaaW.PrintLast Go.Proofs.YtiebpoikhijbgaaW.PrintMore
attribute [local go_sem] max2_int min2_int max_two min_two max_three min_three max_four min_four
set_option linter.unusedVariables false
set_option linter.unusedSimpArgs false

def laws_toEvS.l0 : Nat → List (S24) → List (S26) → Int → Option ((List (S26)))
  | 0, _, _, _ => none
  | k + 1, x0, x3, x4 => if x4 < (x0.length : Int) then (if 0 ≤ x4 then ((laws_toEv.f ((rd_T24 x0 x4).f0) ((rd_T24 x0 x4).f1) ((rd_T24 x0 x4).f2)).bind fun bt105 => (if x4 < (x3.length : Int) then (laws_toEvS.l0 k x0 (x3.set (x4 : Int).toNat (⟨bt105.1, bt105.2.1, bt105.2.2⟩ : S26)) (wrap64 (x4 + 1))) else (none))) else (none)) else (some x3)
def laws_toEvS.f (k : Nat) (l0 : List (S24)) : Option ((List (S26))) := if 0 ≤ (l0.length : Int) then (if ((l0.length : Int) : Int).toNat ≤ 11728124029610 then (laws_toEvS.l0 k l0 (List.replicate ((l0.length : Int) : Int).toNat z26) 0) else (none)) else (none)
theorem laws_toEvS.mono_l : ∀ k, (∀ y0 y1 y2, LeO (laws_toEvS.l0 k y0 y1 y2) (laws_toEvS.l0 (k + 1) y0 y1 y2))
  | 0 => fun _ _ _ r h => by simp [laws_toEvS.l0] at h
  | k + 1 => by
    have ih0 := laws_toEvS.mono_l k
    · intro y0 y1 y2
      unfold laws_toEvS.l0
      repeat' first
      | (with_reducible exact ih0 _ _ _)
      | (with_reducible exact LeO.refl _)
      | (with_reducible exact LeO.none _)
      | (with_reducible refine LeO.ite ?_ ?_)
      | (with_reducible refine LeO.bind ?_ (fun _ => ?_))
      | exact ih0 _ _ _
      | exact LeO.none _
      | refine LeO.ite ?_ ?_
      | refine LeO.bind ?_ (fun _ => ?_)
theorem laws_toEvS.mono : ∀ a0 k, LeO (laws_toEvS.f k a0) (laws_toEvS.f (k + 1) a0) := by
  intro a0 k
  have ih0 := laws_toEvS.mono_l k
  unfold laws_toEvS.f
  repeat' first
      | (with_reducible exact ih0 _ _ _)
      | (with_reducible exact LeO.refl _)
      | (with_reducible exact LeO.none _)
      | (with_reducible refine LeO.ite ?_ ?_)
      | (with_reducible refine LeO.bind ?_ (fun _ => ?_))
      | exact ih0 _ _ _
      | exact LeO.none _
      | refine LeO.ite ?_ ?_
      | refine LeO.bind ?_ (fun _ => ?_)
set_option maxHeartbeats 8000000 in
set_option maxRecDepth 100000 in
theorem laws_toEvS.calls (k : Nat) (A0 : Option Addr) (c0 : Nat) (l0 : List (S24)) (r : List (S26)) (w : World) (hr0 : Kd.C k24 w A0 l0.length l0) (hc0 : l0.length ≤ c0) (h : laws_toEvS.f k l0 = some r) :
    Calls Try.prog 15 #[.slice A0 l0.length c0] w fun e w' => ∃ v0_ : Value, e = .returned (v0_) ∧ Kd.R k26 26 w' w.heap.size (fun _ => True) v0_ r ∧ Below w.heap.size w w' := by
  have hu24 := Try.underlying24
  have hu26 := Try.underlying26
  have HR0 := Aside0.mk hr0
  have HC0 := Aside0.mk hc0
  clear hr0 hc0
  have HB := Aside0.mk (Below.refl w.heap.size w)
  have H : (if 0 ≤ (l0.length : Int) then (if ((l0.length : Int) : Int).toNat ≤ 11728124029610 then (laws_toEvS.l0 k l0 (List.replicate ((l0.length : Int) : Int).toNat z26) 0) else (none)) else (none)) = some r := h
  clear h
  by_cases c2 : 0 ≤ (l0.length : Int)
  · rw [if_pos c2] at H
    have c2b0 := eq_true c2
    have c2b1 : decide (0 ≤ (l0.length : Int)) = true := decide_eq_true c2
    clear c2
    by_cases c3 : ((l0.length : Int) : Int).toNat ≤ 11728124029610
    · rw [if_pos c3] at H
      have c3b0 := eq_true c3
      have c3b1 : decide (((l0.length : Int) : Int).toNat ≤ 11728124029610) = true := decide_eq_true c3
      clear c3
      obtain ⟨y101, hy101⟩ : ∃ y_ : List (S26), y_ = (List.replicate ((l0.length : Int) : Int).toNat z26) := ⟨_, rfl⟩
      replace H : (laws_toEvS.l0 k l0 y101 0) = some r := by first | (rw [hy101]; with_reducible exact H) | (have H2_ := (Option.bind_some _ _).symm.trans H; rw [hy101]; with_reducible exact H2_) | (have H2_ := (Option.bind_some _ _).symm.trans H; with_reducible exact H2_) | with_reducible exact H | (rw [hy101]; exact H) | exact H
      have Ny101 := Aside0.mk hy101
      clear hy101
      have H' := Aside0.mk H
      clear H
      go_enter Try.func15, Try.ntmps15
      go_wp2_with (first | ((with_reducible refine gate_dst (N := 7) rfl ?_); refine Kd.R_make k26 _ 26 rfl (N := 7) rfl 32 _ _ rfl (l0.length : Int) rfl rfl Try.underlying32 (.agg #[(.int .i64 0), (.int .i64 0), (.int .i64 0)]) 24 info26 rfl (by decide) (by omega) z26 (ok := fun _ => True) (okp := fun _ => True) (k26_mkM _ _ _ z26 ) (fun _ hk => hk) trivial (of_decide_eq_true (by first | (with_reducible assumption) | assumption)) (Nat.le_trans (Nat.mul_le_mul_right _ (of_decide_eq_true (by first | (with_reducible assumption) | assumption) : (l0.length : Int).toNat ≤ 11728124029610)) (by omega)) (Below.refl _ _) (Nat.le_refl _) ?_; intro v102 w4 ho5 hb hg_ hnew_; clear hg_ hnew_; (first | rw [← Ny101.out] at ho5 | (simp only [Int.reduceToNat] at ho5; rw [← Ny101.out] at ho5)); have n0_ := Aside0.mk (Kd.R_lower ho5 (below_size (by repeat (first | (with_reducible first | exact HB.out | apply below_alloc | apply pw_below_drewN | apply below_drew1) | exact HB.out)))); have n1_ := Aside0.mk (below_step (by repeat (first | (with_reducible first | exact HB.out | apply below_alloc | apply pw_below_drewN | apply below_drew1) | exact HB.out)) hb); clear HB; have HO103 := n0_; have HB := n1_; clear n0_ n1_; clear hb ho5))
      go_loopg [4] k (fun kq v4 w' => ∃ (x3_1 : List (S26)) (x4_1 : Int), v4 = .int .i64 x4_1 ∧ Aside0 (laws_toEvS.l0 kq l0 x3_1 x4_1 = some r) ∧ Aside0 (kq ≤ k) ∧ Aside0 (Kd.R k26 26 w' w.heap.size (fun _ => True) v102 x3_1) ∧ Aside0 (Below w.heap.size w w'))
      case atStart => exact ⟨(y101), (0), (by first | rfl | (simp; done) | (simp [*]; done)), H', ⟨Nat.le_refl _⟩, ⟨by (with_reducible repeat (first | apply Kd.R_alloc | apply Kd.R_drewN | apply Kd.R_drew)); exact HO103.out⟩, ⟨by repeat (first | (with_reducible first | exact HB.out | apply below_alloc | apply pw_below_drewN | apply below_drew1) | exact HB.out)⟩⟩
      case round =>
        clear H'
        try clear c1
        try clear c2
        try clear c2b0
        try clear c2b1
        try clear p2
        try clear c3
        try clear c3b0
        try clear c3b1
        obtain ⟨x3_1, x4_1, rfl, HA, HK1, HO_3, HB⟩ := hrel
        cases gk with
        | zero => exact absurd HA.out (by simp [laws_toEvS.l0])
        | succ k1 =>
          have H := HA.out
          clear HA
          simp only [laws_toEvS.l0] at H
          by_cases c6 : x4_1 < (l0.length : Int)
          · rw [if_pos c6] at H
            have c6b0 : decide (x4_1 < (l0.length : Int)) = true := decide_eq_true c6
            clear c6
            by_cases c7 : 0 ≤ x4_1
            · rw [if_pos c7] at H
              have c7b0 : decide (0 ≤ x4_1) = true := decide_eq_true c7
              clear c7
              replace H := Option.bind_eq_some_iff.mp H
              obtain ⟨⟨t105, t106, t107⟩, A80, H⟩ := H
              replace H : (if x4_1 < (x3_1.length : Int) then (laws_toEvS.l0 k1 l0 (x3_1.set (x4_1 : Int).toNat (⟨t105, t106, t107⟩ : S26)) (wrap64 (x4_1 + 1))) else (none)) = some r := H
              have A8 := Aside0.mk A80
              clear A80
              by_cases c9 : x4_1 < (x3_1.length : Int)
              · rw [if_pos c9] at H
                have c9b0 : decide (x4_1 < (x3_1.length : Int)) = true := decide_eq_true c9
                clear c9
                obtain ⟨y108, hy108⟩ : ∃ y_ : List (S26), y_ = (x3_1.set (x4_1 : Int).toNat (⟨t105, t106, t107⟩ : S26)) := ⟨_, rfl⟩
                replace H : (laws_toEvS.l0 k1 l0 y108 (wrap64 (x4_1 + 1))) = some r := by first | (rw [hy108]; with_reducible exact H) | (have H2_ := (Option.bind_some _ _).symm.trans H; rw [hy108]; with_reducible exact H2_) | (have H2_ := (Option.bind_some _ _).symm.trans H; with_reducible exact H2_) | with_reducible exact H | (rw [hy108]; exact H) | exact H
                have Ny108 := Aside0.mk hy108
                clear hy108
                have H' := Aside0.mk H
                clear H
                have p104 : 0 ≤ (x4_1 : Int) := of_decide_eq_true (by first | (with_reducible assumption) | assumption)
                have q104 : x4_1 < (l0.length : Int) := of_decide_eq_true (by first | (with_reducible assumption) | assumption)
                obtain ⟨ad104, e104, hx104_0, hx104_1, hx104_2⟩ := at_T24 HR0.out x4_1 p104 q104
                cases e104
                replace hx104_0 := (HB.out.cell (World.block_lt_of_cell? w _ hx104_0)).trans hx104_0
                replace hx104_1 := (HB.out.cell (World.block_lt_of_cell? w _ hx104_1)).trans hx104_1
                replace hx104_2 := (HB.out.cell (World.block_lt_of_cell? w _ hx104_2)).trans hx104_2
                replace p104 := eq_true p104
                replace q104 := eq_true q104
                go_wp2_with (first | ((with_reducible refine gate_callee (f := 11) rfl ?_); refine goesL_ (some 20) rfl rfl Try.func11 (by kernel_rfl) rfl #[.agg #[.int .i64 ((rd_T24 l0 x4_1).f0), .int .i64 ((rd_T24 l0 x4_1).f1), .int .i64 ((rd_T24 l0 x4_1).f2)]] rfl (by (try simp only [List.map_toArray, List.map_cons, List.map_nil]); first | done | rfl | (simp only [List.length_drop, List.length_take]; rfl)) ?_; (with_reducible refine (laws_toEv.calls ((rd_T24 l0 x4_1).f0) ((rd_T24 l0 x4_1).f1) ((rd_T24 l0 x4_1).f2) t105 t106 t107 _ A8.out).mono ?_); rintro e w11 ⟨rfl, hb⟩; refine ⟨_, rfl, ?_⟩; have n0_ := Aside0.mk (Kd.R_below (by (with_reducible repeat (first | apply Kd.R_alloc | apply Kd.R_drewN | apply Kd.R_drew)); exact HO_3.out) hb); have n1_ := Aside0.mk (below_step (by repeat (first | (with_reducible first | exact HB.out | apply below_alloc | apply pw_below_drewN | apply below_drew1) | exact HB.out)) hb); clear HO_3; clear HB; have HO_3 := n0_; have HB := n1_; clear n0_ n1_; (try clear hb); (try clear hb2); (try clear hk); (try clear hi); have p10 : 0 ≤ (x4_1 : Int) := of_decide_eq_true (by first | (with_reducible assumption) | assumption); have q10 : (x4_1 : Int) < ((x3_1.length : Int) : Int) := of_decide_eq_true (by first | (with_reducible assumption) | assumption); obtain ⟨go10, co10, eo10, gb10, gl10, cl10, HG10⟩ := Kd.R_form HO_3.out (by omega); (first | cases eo10 | (injection eo10 with ea_ en_ ec_; (first | subst ea_ | (injection ea_ with ea_; subst ea_)); subst ec_; clear en_)); have GB10 := Aside0.mk gb10; have GG10 := Aside0.mk HG10; clear gb10 gl10 HG10; obtain ⟨ce10, hcl10, hM10, hcc10, hfr10⟩ := Kd.R_elem HO_3.out z26 (x4_1 : Int) p10 q10; obtain rfl := k26_openM hM10; have hx10_0 : w11.cell? ⟨go10, (x4_1 : Int).toNat * 3, none⟩ = some (.int .i64 ((rd_T26 x3_1 x4_1).f0)) := hcc10 0 _ rfl; have hx10_1 : w11.cell? ⟨go10, (x4_1 : Int).toNat * 3 + 1, none⟩ = some (.int .i64 ((rd_T26 x3_1 x4_1).f1)) := hcc10 1 _ rfl; have hx10_2 : w11.cell? ⟨go10, (x4_1 : Int).toNat * 3 + 2, none⟩ = some (.int .i64 ((rd_T26 x3_1 x4_1).f2)) := hcc10 2 _ rfl; have hf10_0 : w11.frozen? ⟨go10, (x4_1 : Int).toNat * 3, none⟩ = false := hfr10 0; have hf10_1 : w11.frozen? ⟨go10, (x4_1 : Int).toNat * 3 + 1, none⟩ = false := hfr10 1; have hf10_2 : w11.frozen? ⟨go10, (x4_1 : Int).toNat * 3 + 2, none⟩ = false := hfr10 2; clear hcl10 hcc10 hfr10 hM10; replace p10 := eq_true p10; replace q10 := eq_true q10; have HX12 := Aside0.mk (show Kd.R k26 26 w11 w.heap.size (fun _ => True) (.slice (some ⟨go10, 0, none⟩) x3_1.length co10) x3_1 from (by (with_reducible repeat (first | apply Kd.R_alloc | apply Kd.R_drewN | apply Kd.R_drew)); exact HO_3.out)); obtain ⟨ce12, hcl12, hM12, hcc12, hfr12⟩ := Kd.R_elem HX12.out z26 (x4_1 : Int) (of_decide_eq_true (by first | (with_reducible assumption) | assumption)) (by have h_ : (x4_1 : Int) < ((x3_1.length : Int) : Int) := of_decide_eq_true (by first | (with_reducible assumption) | assumption); first | exact h_ | (have e_ := (Kd.R_reads' HO_3.out).1; omega) | simpa using h_); obtain rfl := k26_openM hM12; have HP12 := Kd.R_seg HX12.out (x4_1 : Int) (of_decide_eq_true (by first | (with_reducible assumption) | assumption)) (by have h_ : (x4_1 : Int) < ((x3_1.length : Int) : Int) := of_decide_eq_true (by first | (with_reducible assumption) | assumption); first | exact h_ | (have e_ := (Kd.R_reads' HO_3.out).1; omega) | simpa using h_) (seg := [.int .i64 t105, .int .i64 t106, .int .i64 t107]) (j := 0) hcl12 hcc12 (show 3 ≤ 3 from by decide) (x' := (⟨t105, t106, t107⟩ : S26)) (k26_mkM _ _ _ (⟨t105, t106, t107⟩ : S26) ) (fun _ hk => hk); have hx12_0 := hcc12 0 _ rfl; (try simp only [show (k26).sz = 3 from rfl, Nat.mul_one, Nat.add_zero] at hx12_0); have hf12_0 := hfr12 0; (try simp only [show (k26).sz = 3 from rfl, Nat.mul_one, Nat.add_zero] at hf12_0); have hx12_1 := hcc12 1 _ rfl; (try simp only [show (k26).sz = 3 from rfl, Nat.mul_one, Nat.add_zero] at hx12_1); have hf12_1 := hfr12 1; (try simp only [show (k26).sz = 3 from rfl, Nat.mul_one, Nat.add_zero] at hf12_1); have hx12_2 := hcc12 2 _ rfl; (try simp only [show (k26).sz = 3 from rfl, Nat.mul_one, Nat.add_zero] at hx12_2); have hf12_2 := hfr12 2; (try simp only [show (k26).sz = 3 from rfl, Nat.mul_one, Nat.add_zero] at hf12_2); clear hcl12 hcc12 hfr12 hM12) | ((with_reducible refine gate_store (t := 26) (p := 21) rfl ?_); refine store_event (t := 26) (p := 21) (v := ?vo_w13) (w1 := (((w11.setCell ⟨go10, (x4_1 : Int).toNat * 3, none⟩ (.int .i64 t105)).setCell ⟨go10, (x4_1 : Int).toNat * 3 + 1, none⟩ (.int .i64 t106)).setCell ⟨go10, (x4_1 : Int).toNat * 3 + 2, none⟩ (.int .i64 t107))) ?hg ?ho ?hn ?hr ?_; (case ho => rfl); (case hg => rfl); (case hn => rfl); (case hr => first | (go_simp; done) | (go_simp; rfl)); intro w13 hw; have hg : w11.grownBy w13 (some go10) := (by rw [hw]; exact HP12.2); have hp_ : Kd.R k26 26 w13 w.heap.size (fun _ => True) (.slice (some ⟨go10, 0, none⟩) x3_1.length co10) y108 := (by rw [hw, Ny108.out]; exact HP12.1); clear HP12; have n0_ := Aside0.mk (hp_); have n1_ := Aside0.mk ((by rw [hw]; exact below_set (below_set (below_set (HB.out) GB10.out) GB10.out) GB10.out : Below w.heap.size w w13)); clear HO_3; clear HB; have HO_3 := n0_; have HB := n1_; clear n0_ n1_; clear hg hw hp_))
                go_roundg k1
                case measure => have := HK1.out; omega
                case rel => exact ⟨(y108), (wrap64 (x4_1 + 1)), (by first | rfl | (simp; done) | (simp [*]; done)), H', ⟨by have := HK1.out; omega⟩, ⟨by (with_reducible repeat (first | apply Kd.R_alloc | apply Kd.R_drewN | apply Kd.R_drew)); exact HO_3.out⟩, ⟨by repeat (first | (with_reducible first | exact HB.out | apply below_alloc | apply pw_below_drewN | apply below_drew1) | exact HB.out)⟩⟩
              · rw [if_neg c9] at H
                exact absurd H (by simp)
            · rw [if_neg c7] at H
              exact absurd H (by simp)
          · rw [if_neg c6] at H
            have c6b0 : decide (x4_1 < (l0.length : Int)) = false := decide_eq_false c6
            clear c6
            obtain rfl := Option.some.inj H
            go_wp2
            go_ret
            exact ⟨_, by first | rfl | (simp [errW_none, errW_some] <;> rfl) | (simp [*, errW_none, errW_some] <;> rfl), by (with_reducible repeat (first | apply Kd.R_alloc | apply Kd.R_drewN | apply Kd.R_drew)); exact HO_3.out, by repeat (first | (with_reducible first | exact HB.out | apply below_alloc | apply pw_below_drewN | apply below_drew1) | exact HB.out)⟩
    · rw [if_neg c3] at H
      exact absurd H (by simp)
  · rw [if_neg c2] at H
    exact absurd H (by simp)

end Go.Proofs.Ytiebpoikhijbgaa.M
namespace Go.Proofs.Ytiebpoikhijbgaa.M
open Go.RowKit Go.Proofs.YtiebpoikhijbgaaW.PrintWords Go.Proofs.YtiebpoikhijbgaaW.PrintLast Go.Proofs.YtiebpoikhijbgaaW.PrintMore
attribute [local go_sem] max2_int min2_int max_two min_two max_three min_three max_four min_four
set_option linter.unusedVariables false
set_option linter.unusedSimpArgs false

def laws_eqEv.f (a0_0 : Int) (a0_1 : Int) (a0_2 : Int) (a1_0 : Int) (a1_1 : Int) (a1_2 : Int) : Option (Bool) := if a0_0 = a1_0 then (if a0_1 = a1_1 then (if a0_2 = a1_2 then (some true) else (some false)) else (some false)) else (some false)
set_option maxHeartbeats 8000000 in
set_option maxRecDepth 100000 in
theorem laws_eqEv.calls (a0_0 : Int) (a0_1 : Int) (a0_2 : Int) (a1_0 : Int) (a1_1 : Int) (a1_2 : Int) (r : Bool) (w : World) (h : laws_eqEv.f a0_0 a0_1 a0_2 a1_0 a1_1 a1_2 = some r) :
  Calls Try.prog 30 #[.agg #[.int .i64 a0_0, .int .i64 a0_1, .int .i64 a0_2], .agg #[.int .i64 a1_0, .int .i64 a1_1, .int .i64 a1_2]] w fun e w' => e = .returned (.bool r) ∧ Below w.heap.size w w' := by
 have hu26 := Try.underlying26
 have HB := Aside0.mk (Below.refl w.heap.size w)
 have H : (if a0_0 = a1_0 then (if a0_1 = a1_1 then (if a0_2 = a1_2 then (some true) else (some false)) else (some false)) else (some false)) = some r := h
 clear h
 by_cases c3 : a0_0 = a1_0
 ·rw [if_pos c3] at H
  have c3b0 : (a0_0 == a1_0) = true := beq_iff_eq.mpr c3
  have c3b1 : (a0_0 != a1_0) = false := bne_eq_false_iff_eq.mpr c3
  clear c3
  by_cases c4 : a0_1 = a1_1
  ·rw [if_pos c4] at H
   have c4b0 : (a0_1 == a1_1) = true := beq_iff_eq.mpr c4
   have c4b1 : (a0_1 != a1_1) = false := bne_eq_false_iff_eq.mpr c4
   clear c4
   by_cases c5 : a0_2 = a1_2
   ·rw [if_pos c5] at H
    have c5b0 : (a0_2 == a1_2) = true := beq_iff_eq.mpr c5
    have c5b1 : (a0_2 != a1_2) = false := bne_eq_false_iff_eq.mpr c5
    clear c5
    obtain rfl := Option.some.inj H
    go_enter Try.func30, Try.ntmps30
    go_wp2_with (first | ((with_reducible refine gate_dst (N := 2) rfl ?_);refine box_event ?hg (N := 2) ?hd (cs := #[.int .i64 a0_0, .int .i64 a0_1, .int .i64 a0_2]) (t := 26) ?hr ?_;(case hd => rfl);(case hg => rfl);(case hr => first | (go_simp;done) | (go_simp;rfl));intro gb101 hg w6 hbox hb;have n0_ := Aside0.mk (below_step (by exact HB.out) hb);have n1_ := Aside0.mk (hbox);have n2_ := Aside0.mk ((by rw [hg];exact (below_size (by exact HB.out)) : w.heap.size ≤ gb101));have n3_ := Aside0.mk ((by rw [hg];exact (below_size (by exact HB.out)) : w.heap.size ≤ gb101));clear HB;have HB := n0_;have BK101 := n1_;have GW101 := n2_;have GE101 := n3_;clear n0_ n1_ n2_ n3_;clear hb hbox hg) | ((with_reducible refine gate_dst (N := 3) rfl ?_);refine box_event ?hg (N := 3) ?hd (cs := #[.int .i64 a1_0, .int .i64 a1_1, .int .i64 a1_2]) (t := 26) ?hr ?_;(case hd => rfl);(case hg => rfl);(case hr => first | (go_simp;done) | (go_simp;rfl));intro gb102 hg w7 hbox hb;have n0_ := Aside0.mk (blk_below BK101.out hb);have n1_ := Aside0.mk (below_step (by exact HB.out) hb);have n2_ := Aside0.mk (hbox);have n3_ := Aside0.mk ((by rw [hg];exact (below_size (by exact HB.out)) : w.heap.size ≤ gb102));have n4_ := Aside0.mk ((by rw [hg];exact (below_size (by exact HB.out)) : w.heap.size ≤ gb102));have n5_ := Aside0.mk ((by rw [hg];exact Nat.ne_of_lt (blk_lt BK101.out) : gb101 ≠ gb102));have n6_ := Aside0.mk ((by rw [hg];exact Nat.ne_of_gt (blk_lt BK101.out) : gb102 ≠ gb101));clear BK101;clear HB;have BK101 := n0_;have HB := n1_;have BK102 := n2_;have GW102 := n3_;have GE102 := n4_;have NB101_102 := n5_;have NB102_101 := n6_;clear n0_ n1_ n2_ n3_ n4_ n5_ n6_;clear hb hbox hg;have hnb8 := NB101_102.out;have hnc8 := NB102_101.out;have hcz9_0 : w7.cell? ⟨gb101, 0, none⟩ = some (.int .i64 a0_0) := (blk_cell BK101.out 0).trans rfl;have hcz9_1 : w7.cell? ⟨gb101, 1, none⟩ = some (.int .i64 a0_1) := (blk_cell BK101.out 1).trans rfl;have hcz9_2 : w7.cell? ⟨gb101, 2, none⟩ = some (.int .i64 a0_2) := (blk_cell BK101.out 2).trans rfl;have hfz9_0 := blk_frozen BK101.out 0;have hfz9_1 := blk_frozen BK101.out 1;have hfz9_2 := blk_frozen BK101.out 2;have hcz10_0 : w7.cell? ⟨gb102, 0, none⟩ = some (.int .i64 a1_0) := (blk_cell BK102.out 0).trans rfl;have hcz10_1 : w7.cell? ⟨gb102, 1, none⟩ = some (.int .i64 a1_1) := (blk_cell BK102.out 1).trans rfl;have hcz10_2 : w7.cell? ⟨gb102, 2, none⟩ = some (.int .i64 a1_2) := (blk_cell BK102.out 2).trans rfl;have hfz10_0 := blk_frozen BK102.out 0;have hfz10_1 := blk_frozen BK102.out 1;have hfz10_2 := blk_frozen BK102.out 2))
    go_ret
    exact ⟨by first | rfl | (simp [errW_none, errW_some] <;> rfl) | (simp [*, errW_none, errW_some] <;> rfl), by repeat (first | (with_reducible first | exact HB.out | apply below_alloc | apply pw_below_drewN | apply below_drew1 | refine below_set ?_ GE101.out | refine below_set ?_ GE102.out) | exact HB.out)⟩
   ·rw [if_neg c5] at H
    have c5b0 : (a0_2 == a1_2) = false := beq_eq_false_iff_ne.mpr c5
    have c5b1 : (a0_2 != a1_2) = true := bne_iff_ne.mpr c5
    obtain rfl := Option.some.inj H
    go_enter Try.func30, Try.ntmps30
    go_wp2_with (first | ((with_reducible refine gate_dst (N := 2) rfl ?_);refine box_event ?hg (N := 2) ?hd (cs := #[.int .i64 a0_0, .int .i64 a0_1, .int .i64 a0_2]) (t := 26) ?hr ?_;(case hd => rfl);(case hg => rfl);(case hr => first | (go_simp;done) | (go_simp;rfl));intro gb101 hg w11 hbox hb;have n0_ := Aside0.mk (below_step (by exact HB.out) hb);have n1_ := Aside0.mk (hbox);have n2_ := Aside0.mk ((by rw [hg];exact (below_size (by exact HB.out)) : w.heap.size ≤ gb101));have n3_ := Aside0.mk ((by rw [hg];exact (below_size (by exact HB.out)) : w.heap.size ≤ gb101));clear HB;have HB := n0_;have BK101 := n1_;have GW101 := n2_;have GE101 := n3_;clear n0_ n1_ n2_ n3_;clear hb hbox hg) | ((with_reducible refine gate_dst (N := 3) rfl ?_);refine box_event ?hg (N := 3) ?hd (cs := #[.int .i64 a1_0, .int .i64 a1_1, .int .i64 a1_2]) (t := 26) ?hr ?_;(case hd => rfl);(case hg => rfl);(case hr => first | (go_simp;done) | (go_simp;rfl));intro gb102 hg w12 hbox hb;have n0_ := Aside0.mk (blk_below BK101.out hb);have n1_ := Aside0.mk (below_step (by exact HB.out) hb);have n2_ := Aside0.mk (hbox);have n3_ := Aside0.mk ((by rw [hg];exact (below_size (by exact HB.out)) : w.heap.size ≤ gb102));have n4_ := Aside0.mk ((by rw [hg];exact (below_size (by exact HB.out)) : w.heap.size ≤ gb102));have n5_ := Aside0.mk ((by rw [hg];exact Nat.ne_of_lt (blk_lt BK101.out) : gb101 ≠ gb102));have n6_ := Aside0.mk ((by rw [hg];exact Nat.ne_of_gt (blk_lt BK101.out) : gb102 ≠ gb101));clear BK101;clear HB;have BK101 := n0_;have HB := n1_;have BK102 := n2_;have GW102 := n3_;have GE102 := n4_;have NB101_102 := n5_;have NB102_101 := n6_;clear n0_ n1_ n2_ n3_ n4_ n5_ n6_;clear hb hbox hg;have hnb13 := NB101_102.out;have hnc13 := NB102_101.out;have hcz14_0 : w12.cell? ⟨gb101, 0, none⟩ = some (.int .i64 a0_0) := (blk_cell BK101.out 0).trans rfl;have hcz14_1 : w12.cell? ⟨gb101, 1, none⟩ = some (.int .i64 a0_1) := (blk_cell BK101.out 1).trans rfl;have hcz14_2 : w12.cell? ⟨gb101, 2, none⟩ = some (.int .i64 a0_2) := (blk_cell BK101.out 2).trans rfl;have hfz14_0 := blk_frozen BK101.out 0;have hfz14_1 := blk_frozen BK101.out 1;have hfz14_2 := blk_frozen BK101.out 2;have hcz15_0 : w12.cell? ⟨gb102, 0, none⟩ = some (.int .i64 a1_0) := (blk_cell BK102.out 0).trans rfl;have hcz15_1 : w12.cell? ⟨gb102, 1, none⟩ = some (.int .i64 a1_1) := (blk_cell BK102.out 1).trans rfl;have hcz15_2 : w12.cell? ⟨gb102, 2, none⟩ = some (.int .i64 a1_2) := (blk_cell BK102.out 2).trans rfl;have hfz15_0 := blk_frozen BK102.out 0;have hfz15_1 := blk_frozen BK102.out 1;have hfz15_2 := blk_frozen BK102.out 2))
    go_ret
    exact ⟨by first | rfl | (simp [errW_none, errW_some] <;> rfl) | (simp [*, errW_none, errW_some] <;> rfl), by repeat (first | (with_reducible first | exact HB.out | apply below_alloc | apply pw_below_drewN | apply below_drew1 | refine below_set ?_ GE101.out | refine below_set ?_ GE102.out) | exact HB.out)⟩
  ·rw [if_neg c4] at H
   have c4b0 : (a0_1 == a1_1) = false := beq_eq_false_iff_ne.mpr c4
   have c4b1 : (a0_1 != a1_1) = true := bne_iff_ne.mpr c4
   obtain rfl := Option.some.inj H
   go_enter Try.func30, Try.ntmps30
   go_wp2_with (first | ((with_reducible refine gate_dst (N := 2) rfl ?_);refine box_event ?hg (N := 2) ?hd (cs := #[.int .i64 a0_0, .int .i64 a0_1, .int .i64 a0_2]) (t := 26) ?hr ?_;(case hd => rfl);(case hg => rfl);(case hr => first | (go_simp;done) | (go_simp;rfl));intro gb101 hg w16 hbox hb;have n0_ := Aside0.mk (below_step (by exact HB.out) hb);have n1_ := Aside0.mk (hbox);have n2_ := Aside0.mk ((by rw [hg];exact (below_size (by exact HB.out)) : w.heap.size ≤ gb101));have n3_ := Aside0.mk ((by rw [hg];exact (below_size (by exact HB.out)) : w.heap.size ≤ gb101));clear HB;have HB := n0_;have BK101 := n1_;have GW101 := n2_;have GE101 := n3_;clear n0_ n1_ n2_ n3_;clear hb hbox hg) | ((with_reducible refine gate_dst (N := 3) rfl ?_);refine box_event ?hg (N := 3) ?hd (cs := #[.int .i64 a1_0, .int .i64 a1_1, .int .i64 a1_2]) (t := 26) ?hr ?_;(case hd => rfl);(case hg => rfl);(case hr => first | (go_simp;done) | (go_simp;rfl));intro gb102 hg w17 hbox hb;have n0_ := Aside0.mk (blk_below BK101.out hb);have n1_ := Aside0.mk (below_step (by exact HB.out) hb);have n2_ := Aside0.mk (hbox);have n3_ := Aside0.mk ((by rw [hg];exact (below_size (by exact HB.out)) : w.heap.size ≤ gb102));have n4_ := Aside0.mk ((by rw [hg];exact (below_size (by exact HB.out)) : w.heap.size ≤ gb102));have n5_ := Aside0.mk ((by rw [hg];exact Nat.ne_of_lt (blk_lt BK101.out) : gb101 ≠ gb102));have n6_ := Aside0.mk ((by rw [hg];exact Nat.ne_of_gt (blk_lt BK101.out) : gb102 ≠ gb101));clear BK101;clear HB;have BK101 := n0_;have HB := n1_;have BK102 := n2_;have GW102 := n3_;have GE102 := n4_;have NB101_102 := n5_;have NB102_101 := n6_;clear n0_ n1_ n2_ n3_ n4_ n5_ n6_;clear hb hbox hg;have hnb18 := NB101_102.out;have hnc18 := NB102_101.out;have hcz19_0 : w17.cell? ⟨gb101, 0, none⟩ = some (.int .i64 a0_0) := (blk_cell BK101.out 0).trans rfl;have hcz19_1 : w17.cell? ⟨gb101, 1, none⟩ = some (.int .i64 a0_1) := (blk_cell BK101.out 1).trans rfl;have hcz19_2 : w17.cell? ⟨gb101, 2, none⟩ = some (.int .i64 a0_2) := (blk_cell BK101.out 2).trans rfl;have hfz19_0 := blk_frozen BK101.out 0;have hfz19_1 := blk_frozen BK101.out 1;have hfz19_2 := blk_frozen BK101.out 2;have hcz20_0 : w17.cell? ⟨gb102, 0, none⟩ = some (.int .i64 a1_0) := (blk_cell BK102.out 0).trans rfl;have hcz20_1 : w17.cell? ⟨gb102, 1, none⟩ = some (.int .i64 a1_1) := (blk_cell BK102.out 1).trans rfl;have hcz20_2 : w17.cell? ⟨gb102, 2, none⟩ = some (.int .i64 a1_2) := (blk_cell BK102.out 2).trans rfl;have hfz20_0 := blk_frozen BK102.out 0;have hfz20_1 := blk_frozen BK102.out 1;have hfz20_2 := blk_frozen BK102.out 2))
   go_ret
   exact ⟨by first | rfl | (simp [errW_none, errW_some] <;> rfl) | (simp [*, errW_none, errW_some] <;> rfl), by repeat (first | (with_reducible first | exact HB.out | apply below_alloc | apply pw_below_drewN | apply below_drew1 | refine below_set ?_ GE101.out | refine below_set ?_ GE102.out) | exact HB.out)⟩
 ·rw [if_neg c3] at H
  have c3b0 : (a0_0 == a1_0) = false := beq_eq_false_iff_ne.mpr c3
  have c3b1 : (a0_0 != a1_0) = true := bne_iff_ne.mpr c3
  obtain rfl := Option.some.inj H
  go_enter Try.func30, Try.ntmps30
  go_wp2_with (first | ((with_reducible refine gate_dst (N := 2) rfl ?_);refine box_event ?hg (N := 2) ?hd (cs := #[.int .i64 a0_0, .int .i64 a0_1, .int .i64 a0_2]) (t := 26) ?hr ?_;(case hd => rfl);(case hg => rfl);(case hr => first | (go_simp;done) | (go_simp;rfl));intro gb101 hg w21 hbox hb;have n0_ := Aside0.mk (below_step (by exact HB.out) hb);have n1_ := Aside0.mk (hbox);have n2_ := Aside0.mk ((by rw [hg];exact (below_size (by exact HB.out)) : w.heap.size ≤ gb101));have n3_ := Aside0.mk ((by rw [hg];exact (below_size (by exact HB.out)) : w.heap.size ≤ gb101));clear HB;have HB := n0_;have BK101 := n1_;have GW101 := n2_;have GE101 := n3_;clear n0_ n1_ n2_ n3_;clear hb hbox hg) | ((with_reducible refine gate_dst (N := 3) rfl ?_);refine box_event ?hg (N := 3) ?hd (cs := #[.int .i64 a1_0, .int .i64 a1_1, .int .i64 a1_2]) (t := 26) ?hr ?_;(case hd => rfl);(case hg => rfl);(case hr => first | (go_simp;done) | (go_simp;rfl));intro gb102 hg w22 hbox hb;have n0_ := Aside0.mk (blk_below BK101.out hb);have n1_ := Aside0.mk (below_step (by exact HB.out) hb);have n2_ := Aside0.mk (hbox);have n3_ := Aside0.mk ((by rw [hg];exact (below_size (by exact HB.out)) : w.heap.size ≤ gb102));have n4_ := Aside0.mk ((by rw [hg];exact (below_size (by exact HB.out)) : w.heap.size ≤ gb102));have n5_ := Aside0.mk ((by rw [hg];exact Nat.ne_of_lt (blk_lt BK101.out) : gb101 ≠ gb102));have n6_ := Aside0.mk ((by rw [hg];exact Nat.ne_of_gt (blk_lt BK101.out) : gb102 ≠ gb101));clear BK101;clear HB;have BK101 := n0_;have HB := n1_;have BK102 := n2_;have GW102 := n3_;have GE102 := n4_;have NB101_102 := n5_;have NB102_101 := n6_;clear n0_ n1_ n2_ n3_ n4_ n5_ n6_;clear hb hbox hg;have hnb23 := NB101_102.out;have hnc23 := NB102_101.out;have hcz24_0 : w22.cell? ⟨gb101, 0, none⟩ = some (.int .i64 a0_0) := (blk_cell BK101.out 0).trans rfl;have hcz24_1 : w22.cell? ⟨gb101, 1, none⟩ = some (.int .i64 a0_1) := (blk_cell BK101.out 1).trans rfl;have hcz24_2 : w22.cell? ⟨gb101, 2, none⟩ = some (.int .i64 a0_2) := (blk_cell BK101.out 2).trans rfl;have hfz24_0 := blk_frozen BK101.out 0;have hfz24_1 := blk_frozen BK101.out 1;have hfz24_2 := blk_frozen BK101.out 2;have hcz25_0 : w22.cell? ⟨gb102, 0, none⟩ = some (.int .i64 a1_0) := (blk_cell BK102.out 0).trans rfl;have hcz25_1 : w22.cell? ⟨gb102, 1, none⟩ = some (.int .i64 a1_1) := (blk_cell BK102.out 1).trans rfl;have hcz25_2 : w22.cell? ⟨gb102, 2, none⟩ = some (.int .i64 a1_2) := (blk_cell BK102.out 2).trans rfl;have hfz25_0 := blk_frozen BK102.out 0;have hfz25_1 := blk_frozen BK102.out 1;have hfz25_2 := blk_frozen BK102.out 2))
  go_ret
  exact ⟨by first | rfl | (simp [errW_none, errW_some] <;> rfl) | (simp [*, errW_none, errW_some] <;> rfl), by repeat (first | (with_reducible first | exact HB.out | apply below_alloc | apply pw_below_drewN | apply below_drew1 | refine below_set ?_ GE101.out | refine below_set ?_ GE102.out) | exact HB.out)⟩

end Go.Proofs.Ytiebpoikhijbgaa.M
namespace Go.Proofs.Ytiebpoikhijbgaa.M
open Go.RowKit Go.Proofs.YtiebpoikhijbgaaW.PrintWords Go.Proofs.YtiebpoikhijbgaaW.PrintLast Go.Proofs.YtiebpoikhijbgaaW.PrintMore
attribute [local go_sem] max2_int min2_int max_two min_two max_three min_three max_four min_four
set_option linter.unusedVariables false
set_option linter.unusedSimpArgs false

def laws_eqEvS.l0 : Nat → List (S26) → List (S26) → Int → Option (Bool)
 | 0, _, _, _ => none
 | k + 1, x0, x1, x5 => if x5 < (x0.length : Int) then (if 0 ≤ x5 then (if x5 < (x1.length : Int) then ((laws_eqEv.f ((rd_T26 x0 x5).f0) ((rd_T26 x0 x5).f1) ((rd_T26 x0 x5).f2) ((rd_T26 x1 x5).f0) ((rd_T26 x1 x5).f1) ((rd_T26 x1 x5).f2)).bind fun t103 => (if t103 = true then (laws_eqEvS.l0 k x0 x1 (wrap64 (x5 + 1))) else (some false))) else (none)) else (none)) else (some true)
def laws_eqEvS.f (k : Nat) (l0 : List (S26)) (l1 : List (S26)) : Option (Bool) := if (l0.length : Int) = (l1.length : Int) then (laws_eqEvS.l0 k l0 l1 0) else (some false)
theorem laws_eqEvS.mono_l : ∀ k, (∀ y0 y1 y2, LeO (laws_eqEvS.l0 k y0 y1 y2) (laws_eqEvS.l0 (k + 1) y0 y1 y2))
 | 0 => fun _ _ _ r h => by simp [laws_eqEvS.l0] at h
 | k + 1 => by
  have ih0 := laws_eqEvS.mono_l k
  ·intro y0 y1 y2
   unfold laws_eqEvS.l0
   repeat' first
   | (with_reducible exact ih0 _ _ _)
   | (with_reducible exact LeO.refl _)
   | (with_reducible exact LeO.none _)
   | (with_reducible refine LeO.ite ?_ ?_)
   | (with_reducible refine LeO.bind ?_ (fun _ => ?_))
   | exact ih0 _ _ _
   | exact LeO.none _
   | refine LeO.ite ?_ ?_
   | refine LeO.bind ?_ (fun _ => ?_)
theorem laws_eqEvS.mono : ∀ a0 a1 k, LeO (laws_eqEvS.f k a0 a1) (laws_eqEvS.f (k + 1) a0 a1) := by
 intro a0 a1 k
 have ih0 := laws_eqEvS.mono_l k
 unfold laws_eqEvS.f
 repeat' first
   | (with_reducible exact ih0 _ _ _)
   | (with_reducible exact LeO.refl _)
   | (with_reducible exact LeO.none _)
   | (with_reducible refine LeO.ite ?_ ?_)
   | (with_reducible refine LeO.bind ?_ (fun _ => ?_))
   | exact ih0 _ _ _
   | exact LeO.none _
   | refine LeO.ite ?_ ?_
   | refine LeO.bind ?_ (fun _ => ?_)
def laws_eqEvS.T6 : Bool × List (List Nat × List Nat) := (true, [([], []), ([], []), ([0, 1], [0, 1]), ([2], [2]), ([], []), ([], []), ([4, 5], [4, 5]), ([6], [6]), ([3, 7], [3, 7]), ([8], [8])])
def laws_eqEvS.B6 : List Nat := [0, 0, 3, 7, 0, 0, 48, 112, 255, 511]
theorem laws_eqEvS.tab6 : rtab .any (opsOf Try.f17 6) = laws_eqEvS.T6 := by kernel_rfl
theorem laws_eqEvS.bits6 : waitsOk laws_eqEvS.T6.2 laws_eqEvS.B6 = true := by kernel_rfl
set_option maxHeartbeats 8000000 in
set_option maxRecDepth 100000 in
theorem laws_eqEvS.calls (k : Nat) (A0 : Option Addr) (c0 : Nat) (l0 : List (S26)) (A1 : Option Addr) (c1 : Nat) (l1 : List (S26)) (r : Bool) (w : World) (hr0 : Kd.C k26 w A0 l0.length l0) (hc0 : l0.length ≤ c0) (hr1 : Kd.C k26 w A1 l1.length l1) (hc1 : l1.length ≤ c1) (h : laws_eqEvS.f k l0 l1 = some r) :
  Calls Try.prog 17 #[.slice A0 l0.length c0, .slice A1 l1.length c1] w fun e w' => e = .returned (.bool r) ∧ Below w.heap.size w w' := by
 have hu26 := Try.underlying26
 have HR0 := Aside0.mk hr0
 have HC0 := Aside0.mk hc0
 clear hr0 hc0
 have HR1 := Aside0.mk hr1
 have HC1 := Aside0.mk hc1
 clear hr1 hc1
 have HB := Aside0.mk (Below.refl w.heap.size w)
 have H : (if (l0.length : Int) = (l1.length : Int) then (laws_eqEvS.l0 k l0 l1 0) else (some false)) = some r := h
 clear h
 by_cases c3 : (l0.length : Int) = (l1.length : Int)
 ·rw [if_pos c3] at H
  have c3b0 : ((l0.length : Int) == (l1.length : Int)) = true := beq_iff_eq.mpr c3
  have c3b1 : ((l0.length : Int) != (l1.length : Int)) = false := bne_eq_false_iff_eq.mpr c3
  have c3b2 : (l0.length == l1.length) = true := by first | simpa using c3 | (simp at c3 ⊢;omega)
  clear c3
  have H' := Aside0.mk H
  clear H
  go_enter Try.func17, Try.ntmps17
  go_wp2
  go_loopg [5] k (fun kq v5 w' => ∃ (x5_1 : Int), v5 = .int .i64 x5_1 ∧ Aside0 (laws_eqEvS.l0 kq l0 l1 x5_1 = some r) ∧ Aside0 (kq ≤ k) ∧ Aside0 (Below w.heap.size w w'))
  case atStart => exact ⟨(0), (by first | rfl | (simp;done) | (simp [*];done)), H', ⟨Nat.le_refl _⟩, ⟨by repeat (first | (with_reducible first | exact HB.out | apply below_alloc | apply pw_below_drewN | apply below_drew1) | exact HB.out)⟩⟩
  case round =>
   clear H'
   try clear c1
   try clear p2
   try clear c3
   try clear c3b0
   try clear c3b1
   try clear c3b2
   obtain ⟨x5_1, rfl, HA, HK1, HB⟩ := hrel
   cases gk with
   | zero => exact absurd HA.out (by simp [laws_eqEvS.l0])
   | succ k1 =>
    have H := HA.out
    clear HA
    simp only [laws_eqEvS.l0] at H
    by_cases c4 : x5_1 < (l0.length : Int)
    ·rw [if_pos c4] at H
     have c4b0 : decide (x5_1 < (l0.length : Int)) = true := decide_eq_true c4
     clear c4
     by_cases c5 : 0 ≤ x5_1
     ·rw [if_pos c5] at H
      have c5b0 : decide (0 ≤ x5_1) = true := decide_eq_true c5
      clear c5
      by_cases c6 : x5_1 < (l1.length : Int)
      ·rw [if_pos c6] at H
       have c6b0 : decide (x5_1 < (l1.length : Int)) = true := decide_eq_true c6
       clear c6
       replace H := Option.bind_eq_some_iff.mp H
       obtain ⟨t103, A70, H⟩ := H
       replace H : (if t103 = true then (laws_eqEvS.l0 k1 l0 l1 (wrap64 (x5_1 + 1))) else (some false)) = some r := H
       have A7 := Aside0.mk A70
       clear A70
       by_cases c8 : t103 = true
       ·subst c8
        have H1 : (laws_eqEvS.l0 k1 l0 l1 (wrap64 (x5_1 + 1))) = some r := by rw [if_pos rfl] at H;exact H
        clear H
        have H := H1
        clear H1
        have H' := Aside0.mk H
        clear H
        try go_wp2
        have n0_ := Aside0.mk (below_drew1 HB.out)
        clear HB
        have HB := n0_
        clear n0_
        have p101 : 0 ≤ (x5_1 : Int) := of_decide_eq_true (by first | (with_reducible assumption) | assumption)
        have q101 : x5_1 < (l0.length : Int) := of_decide_eq_true (by first | (with_reducible assumption) | assumption)
        obtain ⟨ad101, e101, hx101_0, hx101_1, hx101_2⟩ := at_T26 HR0.out x5_1 p101 q101
        have hw101_2 := hx101_2
        have hw101_1 := hx101_1
        have hw101_0 := hx101_0
        cases e101
        replace hx101_0 := (HB.out.cell (World.block_lt_of_cell? w _ hx101_0)).trans hx101_0
        replace hx101_1 := (HB.out.cell (World.block_lt_of_cell? w _ hx101_1)).trans hx101_1
        replace hx101_2 := (HB.out.cell (World.block_lt_of_cell? w _ hx101_2)).trans hx101_2
        replace p101 := eq_true p101
        replace q101 := eq_true q101
        have p102 : 0 ≤ (x5_1 : Int) := of_decide_eq_true (by first | (with_reducible assumption) | assumption)
        have q102 : x5_1 < (l1.length : Int) := of_decide_eq_true (by first | (with_reducible assumption) | assumption)
        obtain ⟨ad102, e102, hx102_0, hx102_1, hx102_2⟩ := at_T26 HR1.out x5_1 p102 q102
        have hw102_2 := hx102_2
        have hw102_1 := hx102_1
        have hw102_0 := hx102_0
        cases e102
        replace hx102_0 := (HB.out.cell (World.block_lt_of_cell? w _ hx102_0)).trans hx102_0
        replace hx102_1 := (HB.out.cell (World.block_lt_of_cell? w _ hx102_1)).trans hx102_1
        replace hx102_2 := (HB.out.cell (World.block_lt_of_cell? w _ hx102_2)).trans hx102_2
        replace p102 := eq_true p102
        replace q102 := eq_true q102
        refine start_ (n := 10) (S := fun w' => w'.cell? (ad101.add ((x5_1).toNat * 3)) = some (.int .i64 ((rd_T26 l0 x5_1).f0)) ∧ w'.cell? ⟨(ad101.add ((x5_1).toNat * 3)).block, (ad101.add ((x5_1).toNat * 3)).off + 1, none⟩ = some (.int .i64 ((rd_T26 l0 x5_1).f1)) ∧ w'.cell? ⟨(ad101.add ((x5_1).toNat * 3)).block, (ad101.add ((x5_1).toNat * 3)).off + 2, none⟩ = some (.int .i64 ((rd_T26 l0 x5_1).f2)) ∧ w'.cell? (ad102.add ((x5_1).toNat * 3)) = some (.int .i64 ((rd_T26 l1 x5_1).f0)) ∧ w'.cell? ⟨(ad102.add ((x5_1).toNat * 3)).block, (ad102.add ((x5_1).toNat * 3)).off + 1, none⟩ = some (.int .i64 ((rd_T26 l1 x5_1).f1)) ∧ w'.cell? ⟨(ad102.add ((x5_1).toNat * 3)).block, (ad102.add ((x5_1).toNat * 3)).off + 2, none⟩ = some (.int .i64 ((rd_T26 l1 x5_1).f2))) (ds := []) #[false, false, false, false, false, false, false, false, false, false] (by kernel_rfl) rfl rfl ⟨((HB.out.cell (World.block_lt_of_cell? w _ hw101_0)).trans hw101_0), ((HB.out.cell (World.block_lt_of_cell? w _ hw101_1)).trans hw101_1), ((HB.out.cell (World.block_lt_of_cell? w _ hw101_2)).trans hw101_2), ((HB.out.cell (World.block_lt_of_cell? w _ hw102_0)).trans hw102_0), ((HB.out.cell (World.block_lt_of_cell? w _ hw102_1)).trans hw102_1), ((HB.out.cell (World.block_lt_of_cell? w _ hw102_2)).trans hw102_2)⟩ (fun hHeld => ?_);refine with_tabW laws_eqEvS.tab6 laws_eqEvS.bits6 (fun HT_ HW_ => ?_)
        generalize wr.drew = w9 at HB hx101_0 hx101_1 hx101_2 hx102_0 hx102_1 hx102_2 hHeld ⊢
        refine pure_ (i := 0) (N := some 17) (v := ?_) (a' := ?_) #[true, false, false, false, false, false, false, false, false, false] rfl rfl (any_of HT_.out (by kernel_rfl)) (fun _ _ _ h => h) (Or.inl ⟨by rfl, ?_⟩) ?_ ?_
        rotate_left
        ·intro w'
         go_simp
         with_reducible rfl
        rotate_left
        ·simp only [Act.put, List.setIfInBounds_toArray, List.set_cons_zero, List.set_cons_succ, i64_w, i32_w]
         rfl
        refine pure_ (i := 1) (N := some 18) (v := ?_) (a' := ?_) #[true, true, false, false, false, false, false, false, false, false] rfl rfl (any_of HT_.out (by kernel_rfl)) (fun _ _ _ h => h) (Or.inl ⟨by rfl, ?_⟩) ?_ ?_
        rotate_left
        ·intro w'
         go_simp
         with_reducible rfl
        rotate_left
        ·simp only [Act.put, List.setIfInBounds_toArray, List.set_cons_zero, List.set_cons_succ, i64_w, i32_w]
         rfl
        refine pure_ (i := 2) (N := some 19) (v := ?_) (a' := ?_) #[true, true, true, false, false, false, false, false, false, false] rfl rfl (any_of HT_.out (by kernel_rfl)) (fun _ _ _ h => h) (Or.inl ⟨by rfl, ?_⟩) ?_ ?_
        rotate_left
        ·intro w'
         go_simp
         with_reducible rfl
        rotate_left
        ·simp only [Act.put, List.setIfInBounds_toArray, List.set_cons_zero, List.set_cons_succ, i64_w, i32_w]
         rfl
        refine pure_ (i := 4) (N := some 21) (v := ?_) (a' := ?_) #[true, true, true, false, true, false, false, false, false, false] rfl rfl (any_of HT_.out (by kernel_rfl)) (fun _ _ _ h => h) (Or.inl ⟨by rfl, ?_⟩) ?_ ?_
        rotate_left
        ·intro w'
         go_simp
         with_reducible rfl
        rotate_left
        ·simp only [Act.put, List.setIfInBounds_toArray, List.set_cons_zero, List.set_cons_succ, i64_w, i32_w]
         rfl
        refine pure_ (i := 5) (N := some 22) (v := ?_) (a' := ?_) #[true, true, true, false, true, true, false, false, false, false] rfl rfl (any_of HT_.out (by kernel_rfl)) (fun _ _ _ h => h) (Or.inl ⟨by rfl, ?_⟩) ?_ ?_
        rotate_left
        ·intro w'
         go_simp
         with_reducible rfl
        rotate_left
        ·simp only [Act.put, List.setIfInBounds_toArray, List.set_cons_zero, List.set_cons_succ, i64_w, i32_w]
         rfl
        refine pure_ (i := 6) (N := some 23) (v := ?_) (a' := ?_) #[true, true, true, false, true, true, true, false, false, false] rfl rfl (any_of HT_.out (by kernel_rfl)) (fun _ _ _ h => h) (Or.inl ⟨by rfl, ?_⟩) ?_ ?_
        rotate_left
        ·intro w'
         go_simp
         with_reducible rfl
        rotate_left
        ·simp only [Act.put, List.setIfInBounds_toArray, List.set_cons_zero, List.set_cons_succ, i64_w, i32_w]
         rfl
        refine take_ (i := 3) (N := some 20) (v := ?_) (a' := ?_) #[true, true, true, true, true, true, true, false, false, false] rfl rfl (take_ofW HT_.out HW_.out (by kernel_rfl)) (fun _ _ _ h => h) (Or.inl ⟨by rfl, ?_⟩) hHeld ?_ ?_
        rotate_left
        ·rintro w' ⟨s0, s1, s2, s3, s4, s5⟩
         go_simp
         with_reducible rfl
        rotate_left
        ·simp only [Act.put, List.setIfInBounds_toArray, List.set_cons_zero, List.set_cons_succ, i64_w, i32_w]
         rfl
        refine take_ (i := 7) (N := some 24) (v := ?_) (a' := ?_) #[true, true, true, true, true, true, true, true, false, false] rfl rfl (take_ofW HT_.out HW_.out (by kernel_rfl)) (fun _ _ _ h => h) (Or.inl ⟨by rfl, ?_⟩) hHeld ?_ ?_
        rotate_left
        ·rintro w' ⟨s0, s1, s2, s3, s4, s5⟩
         go_simp
         with_reducible rfl
        rotate_left
        ·simp only [Act.put, List.setIfInBounds_toArray, List.set_cons_zero, List.set_cons_succ, i64_w, i32_w]
         rfl
        refine one_ (i := 8) (N := some 25) #[true, true, true, true, true, true, true, true, true, false] rfl rfl (one_of HT_.out (by kernel_rfl)) (by decide) (fun K hK => ?_)
        refine goes_ Try.func30 (by kernel_rfl) rfl #[.agg #[.int .i64 ((rd_T26 l0 x5_1).f0), .int .i64 ((rd_T26 l0 x5_1).f1), .int .i64 ((rd_T26 l0 x5_1).f2)], .agg #[.int .i64 ((rd_T26 l1 x5_1).f0), .int .i64 ((rd_T26 l1 x5_1).f1), .int .i64 ((rd_T26 l1 x5_1).f2)]] (by rfl) rfl rfl (by (try simp only [List.map_toArray, List.map_cons, List.map_nil]);first | done | rfl | (simp only [List.length_drop, List.length_take];rfl)) ?_
        with_reducible refine (laws_eqEv.calls ((rd_T26 l0 x5_1).f0) ((rd_T26 l0 x5_1).f1) ((rd_T26 l0 x5_1).f2) ((rd_T26 l1 x5_1).f0) ((rd_T26 l1 x5_1).f1) ((rd_T26 l1 x5_1).f2) true _ A7.out).mono ?_
        rintro e w10 ⟨rfl, hb⟩
        refine ⟨_, rfl, ?_⟩
        have n0_ := Aside0.mk (below_step (by exact HB.out) hb)
        clear HB
        have HB := n0_
        clear n0_
        (try clear hb)
        (try clear hb2)
        (try clear hk)
        (try clear hi)
        refine hK.out _ _ ⟨((HB.out.cell (World.block_lt_of_cell? w _ hw101_0)).trans hw101_0), ((HB.out.cell (World.block_lt_of_cell? w _ hw101_1)).trans hw101_1), ((HB.out.cell (World.block_lt_of_cell? w _ hw101_2)).trans hw101_2), ((HB.out.cell (World.block_lt_of_cell? w _ hw102_0)).trans hw102_0), ((HB.out.cell (World.block_lt_of_cell? w _ hw102_1)).trans hw102_1), ((HB.out.cell (World.block_lt_of_cell? w _ hw102_2)).trans hw102_2)⟩ (fun hHeld => ?_)
        clear hK K
        refine norm_ (a' := ?_) ?_ ?_
        rotate_left
        ·show Act.put _ (some 25) _ = _
         simp only [Act.put, List.setIfInBounds_toArray, List.set_cons_zero, List.set_cons_succ, i64_w, i32_w]
         rfl
        refine pure_ (i := 9) (N := some 26) (v := ?_) (a' := ?_) #[true, true, true, true, true, true, true, true, true, true] rfl rfl (any_of HT_.out (by kernel_rfl)) (fun _ _ _ h => h) (Or.inl ⟨by rfl, ?_⟩) ?_ ?_
        rotate_left
        ·intro w'
         go_simp
         with_reducible rfl
        rotate_left
        ·simp only [Act.put, List.setIfInBounds_toArray, List.set_cons_zero, List.set_cons_succ, i64_w, i32_w]
         rfl
        refine done_ (done_of HT_.out (by kernel_rfl)) ?_
        try go_wp2
        go_roundg k1
        case measure => have := HK1.out;omega
        case rel => exact ⟨(wrap64 (x5_1 + 1)), (by first | rfl | (simp;done) | (simp [*];done)), H', ⟨by have := HK1.out;omega⟩, ⟨by repeat (first | (with_reducible first | exact HB.out | apply below_alloc | apply pw_below_drewN | apply below_drew1) | exact HB.out)⟩⟩
       ·replace c8 := Bool.eq_false_iff.mpr c8
        subst c8
        have H1 : (some false) = some r := by rw [if_neg (show ¬ (false = true) by decide)] at H;exact H
        clear H
        have H := H1
        clear H1
        obtain rfl := Option.some.inj H
        try go_wp2
        have n0_ := Aside0.mk (below_drew1 HB.out)
        clear HB
        have HB := n0_
        clear n0_
        have p101 : 0 ≤ (x5_1 : Int) := of_decide_eq_true (by first | (with_reducible assumption) | assumption)
        have q101 : x5_1 < (l0.length : Int) := of_decide_eq_true (by first | (with_reducible assumption) | assumption)
        obtain ⟨ad101, e101, hx101_0, hx101_1, hx101_2⟩ := at_T26 HR0.out x5_1 p101 q101
        have hw101_2 := hx101_2
        have hw101_1 := hx101_1
        have hw101_0 := hx101_0
        cases e101
        replace hx101_0 := (HB.out.cell (World.block_lt_of_cell? w _ hx101_0)).trans hx101_0
        replace hx101_1 := (HB.out.cell (World.block_lt_of_cell? w _ hx101_1)).trans hx101_1
        replace hx101_2 := (HB.out.cell (World.block_lt_of_cell? w _ hx101_2)).trans hx101_2
        replace p101 := eq_true p101
        replace q101 := eq_true q101
        have p102 : 0 ≤ (x5_1 : Int) := of_decide_eq_true (by first | (with_reducible assumption) | assumption)
        have q102 : x5_1 < (l1.length : Int) := of_decide_eq_true (by first | (with_reducible assumption) | assumption)
        obtain ⟨ad102, e102, hx102_0, hx102_1, hx102_2⟩ := at_T26 HR1.out x5_1 p102 q102
        have hw102_2 := hx102_2
        have hw102_1 := hx102_1
        have hw102_0 := hx102_0
        cases e102
        replace hx102_0 := (HB.out.cell (World.block_lt_of_cell? w _ hx102_0)).trans hx102_0
        replace hx102_1 := (HB.out.cell (World.block_lt_of_cell? w _ hx102_1)).trans hx102_1
        replace hx102_2 := (HB.out.cell (World.block_lt_of_cell? w _ hx102_2)).trans hx102_2
        replace p102 := eq_true p102
        replace q102 := eq_true q102
        refine start_ (n := 10) (S := fun w' => w'.cell? (ad101.add ((x5_1).toNat * 3)) = some (.int .i64 ((rd_T26 l0 x5_1).f0)) ∧ w'.cell? ⟨(ad101.add ((x5_1).toNat * 3)).block, (ad101.add ((x5_1).toNat * 3)).off + 1, none⟩ = some (.int .i64 ((rd_T26 l0 x5_1).f1)) ∧ w'.cell? ⟨(ad101.add ((x5_1).toNat * 3)).block, (ad101.add ((x5_1).toNat * 3)).off + 2, none⟩ = some (.int .i64 ((rd_T26 l0 x5_1).f2)) ∧ w'.cell? (ad102.add ((x5_1).toNat * 3)) = some (.int .i64 ((rd_T26 l1 x5_1).f0)) ∧ w'.cell? ⟨(ad102.add ((x5_1).toNat * 3)).block, (ad102.add ((x5_1).toNat * 3)).off + 1, none⟩ = some (.int .i64 ((rd_T26 l1 x5_1).f1)) ∧ w'.cell? ⟨(ad102.add ((x5_1).toNat * 3)).block, (ad102.add ((x5_1).toNat * 3)).off + 2, none⟩ = some (.int .i64 ((rd_T26 l1 x5_1).f2))) (ds := []) #[false, false, false, false, false, false, false, false, false, false] (by kernel_rfl) rfl rfl ⟨((HB.out.cell (World.block_lt_of_cell? w _ hw101_0)).trans hw101_0), ((HB.out.cell (World.block_lt_of_cell? w _ hw101_1)).trans hw101_1), ((HB.out.cell (World.block_lt_of_cell? w _ hw101_2)).trans hw101_2), ((HB.out.cell (World.block_lt_of_cell? w _ hw102_0)).trans hw102_0), ((HB.out.cell (World.block_lt_of_cell? w _ hw102_1)).trans hw102_1), ((HB.out.cell (World.block_lt_of_cell? w _ hw102_2)).trans hw102_2)⟩ (fun hHeld => ?_);refine with_tabW laws_eqEvS.tab6 laws_eqEvS.bits6 (fun HT_ HW_ => ?_)
        generalize wr.drew = w11 at HB hx101_0 hx101_1 hx101_2 hx102_0 hx102_1 hx102_2 hHeld ⊢
        refine pure_ (i := 0) (N := some 17) (v := ?_) (a' := ?_) #[true, false, false, false, false, false, false, false, false, false] rfl rfl (any_of HT_.out (by kernel_rfl)) (fun _ _ _ h => h) (Or.inl ⟨by rfl, ?_⟩) ?_ ?_
        rotate_left
        ·intro w'
         go_simp
         with_reducible rfl
        rotate_left
        ·simp only [Act.put, List.setIfInBounds_toArray, List.set_cons_zero, List.set_cons_succ, i64_w, i32_w]
         rfl
        refine pure_ (i := 1) (N := some 18) (v := ?_) (a' := ?_) #[true, true, false, false, false, false, false, false, false, false] rfl rfl (any_of HT_.out (by kernel_rfl)) (fun _ _ _ h => h) (Or.inl ⟨by rfl, ?_⟩) ?_ ?_
        rotate_left
        ·intro w'
         go_simp
         with_reducible rfl
        rotate_left
        ·simp only [Act.put, List.setIfInBounds_toArray, List.set_cons_zero, List.set_cons_succ, i64_w, i32_w]
         rfl
        refine pure_ (i := 2) (N := some 19) (v := ?_) (a' := ?_) #[true, true, true, false, false, false, false, false, false, false] rfl rfl (any_of HT_.out (by kernel_rfl)) (fun _ _ _ h => h) (Or.inl ⟨by rfl, ?_⟩) ?_ ?_
        rotate_left
        ·intro w'
         go_simp
         with_reducible rfl
        rotate_left
        ·simp only [Act.put, List.setIfInBounds_toArray, List.set_cons_zero, List.set_cons_succ, i64_w, i32_w]
         rfl
        refine pure_ (i := 4) (N := some 21) (v := ?_) (a' := ?_) #[true, true, true, false, true, false, false, false, false, false] rfl rfl (any_of HT_.out (by kernel_rfl)) (fun _ _ _ h => h) (Or.inl ⟨by rfl, ?_⟩) ?_ ?_
        rotate_left
        ·intro w'
         go_simp
         with_reducible rfl
        rotate_left
        ·simp only [Act.put, List.setIfInBounds_toArray, List.set_cons_zero, List.set_cons_succ, i64_w, i32_w]
         rfl
        refine pure_ (i := 5) (N := some 22) (v := ?_) (a' := ?_) #[true, true, true, false, true, true, false, false, false, false] rfl rfl (any_of HT_.out (by kernel_rfl)) (fun _ _ _ h => h) (Or.inl ⟨by rfl, ?_⟩) ?_ ?_
        rotate_left
        ·intro w'
         go_simp
         with_reducible rfl
        rotate_left
        ·simp only [Act.put, List.setIfInBounds_toArray, List.set_cons_zero, List.set_cons_succ, i64_w, i32_w]
         rfl
        refine pure_ (i := 6) (N := some 23) (v := ?_) (a' := ?_) #[true, true, true, false, true, true, true, false, false, false] rfl rfl (any_of HT_.out (by kernel_rfl)) (fun _ _ _ h => h) (Or.inl ⟨by rfl, ?_⟩) ?_ ?_
        rotate_left
        ·intro w'
         go_simp
         with_reducible rfl
        rotate_left
        ·simp only [Act.put, List.setIfInBounds_toArray, List.set_cons_zero, List.set_cons_succ, i64_w, i32_w]
         rfl
        refine take_ (i := 3) (N := some 20) (v := ?_) (a' := ?_) #[true, true, true, true, true, true, true, false, false, false] rfl rfl (take_ofW HT_.out HW_.out (by kernel_rfl)) (fun _ _ _ h => h) (Or.inl ⟨by rfl, ?_⟩) hHeld ?_ ?_
        rotate_left
        ·rintro w' ⟨s0, s1, s2, s3, s4, s5⟩
         go_simp
         with_reducible rfl
        rotate_left
        ·simp only [Act.put, List.setIfInBounds_toArray, List.set_cons_zero, List.set_cons_succ, i64_w, i32_w]
         rfl
        refine take_ (i := 7) (N := some 24) (v := ?_) (a' := ?_) #[true, true, true, true, true, true, true, true, false, false] rfl rfl (take_ofW HT_.out HW_.out (by kernel_rfl)) (fun _ _ _ h => h) (Or.inl ⟨by rfl, ?_⟩) hHeld ?_ ?_
        rotate_left
        ·rintro w' ⟨s0, s1, s2, s3, s4, s5⟩
         go_simp
         with_reducible rfl
        rotate_left
        ·simp only [Act.put, List.setIfInBounds_toArray, List.set_cons_zero, List.set_cons_succ, i64_w, i32_w]
         rfl
        refine one_ (i := 8) (N := some 25) #[true, true, true, true, true, true, true, true, true, false] rfl rfl (one_of HT_.out (by kernel_rfl)) (by decide) (fun K hK => ?_)
        refine goes_ Try.func30 (by kernel_rfl) rfl #[.agg #[.int .i64 ((rd_T26 l0 x5_1).f0), .int .i64 ((rd_T26 l0 x5_1).f1), .int .i64 ((rd_T26 l0 x5_1).f2)], .agg #[.int .i64 ((rd_T26 l1 x5_1).f0), .int .i64 ((rd_T26 l1 x5_1).f1), .int .i64 ((rd_T26 l1 x5_1).f2)]] (by rfl) rfl rfl (by (try simp only [List.map_toArray, List.map_cons, List.map_nil]);first | done | rfl | (simp only [List.length_drop, List.length_take];rfl)) ?_
        with_reducible refine (laws_eqEv.calls ((rd_T26 l0 x5_1).f0) ((rd_T26 l0 x5_1).f1) ((rd_T26 l0 x5_1).f2) ((rd_T26 l1 x5_1).f0) ((rd_T26 l1 x5_1).f1) ((rd_T26 l1 x5_1).f2) false _ A7.out).mono ?_
        rintro e w12 ⟨rfl, hb⟩
        refine ⟨_, rfl, ?_⟩
        have n0_ := Aside0.mk (below_step (by exact HB.out) hb)
        clear HB
        have HB := n0_
        clear n0_
        (try clear hb)
        (try clear hb2)
        (try clear hk)
        (try clear hi)
        refine hK.out _ _ ⟨((HB.out.cell (World.block_lt_of_cell? w _ hw101_0)).trans hw101_0), ((HB.out.cell (World.block_lt_of_cell? w _ hw101_1)).trans hw101_1), ((HB.out.cell (World.block_lt_of_cell? w _ hw101_2)).trans hw101_2), ((HB.out.cell (World.block_lt_of_cell? w _ hw102_0)).trans hw102_0), ((HB.out.cell (World.block_lt_of_cell? w _ hw102_1)).trans hw102_1), ((HB.out.cell (World.block_lt_of_cell? w _ hw102_2)).trans hw102_2)⟩ (fun hHeld => ?_)
        clear hK K
        refine norm_ (a' := ?_) ?_ ?_
        rotate_left
        ·show Act.put _ (some 25) _ = _
         simp only [Act.put, List.setIfInBounds_toArray, List.set_cons_zero, List.set_cons_succ, i64_w, i32_w]
         rfl
        refine pure_ (i := 9) (N := some 26) (v := ?_) (a' := ?_) #[true, true, true, true, true, true, true, true, true, true] rfl rfl (any_of HT_.out (by kernel_rfl)) (fun _ _ _ h => h) (Or.inl ⟨by rfl, ?_⟩) ?_ ?_
        rotate_left
        ·intro w'
         go_simp
         with_reducible rfl
        rotate_left
        ·simp only [Act.put, List.setIfInBounds_toArray, List.set_cons_zero, List.set_cons_succ, i64_w, i32_w]
         rfl
        refine done_ (done_of HT_.out (by kernel_rfl)) ?_
        try go_wp2
        go_ret
        exact ⟨by first | rfl | (simp [errW_none, errW_some] <;> rfl) | (simp [*, errW_none, errW_some] <;> rfl), by repeat (first | (with_reducible first | exact HB.out | apply below_alloc | apply pw_below_drewN | apply below_drew1) | exact HB.out)⟩
      ·rw [if_neg c6] at H
       exact absurd H (by simp)
     ·rw [if_neg c5] at H
      exact absurd H (by simp)
    ·rw [if_neg c4] at H
     have c4b0 : decide (x5_1 < (l0.length : Int)) = false := decide_eq_false c4
     clear c4
     obtain rfl := Option.some.inj H
     go_wp2
     go_ret
     exact ⟨by first | rfl | (simp [errW_none, errW_some] <;> rfl) | (simp [*, errW_none, errW_some] <;> rfl), by repeat (first | (with_reducible first | exact HB.out | apply below_alloc | apply pw_below_drewN | apply below_drew1) | exact HB.out)⟩
 ·rw [if_neg c3] at H
  have c3b0 : ((l0.length : Int) == (l1.length : Int)) = false := beq_eq_false_iff_ne.mpr c3
  have c3b1 : ((l0.length : Int) != (l1.length : Int)) = true := bne_iff_ne.mpr c3
  have c3b2 : (l0.length == l1.length) = false := by first | simpa using c3 | (simp at c3 ⊢;omega)
  obtain rfl := Option.some.inj H
  go_enter Try.func17, Try.ntmps17
  go_wp2
  go_ret
  exact ⟨by first | rfl | (simp [errW_none, errW_some] <;> rfl) | (simp [*, errW_none, errW_some] <;> rfl), by repeat (first | (with_reducible first | exact HB.out | apply below_alloc | apply pw_below_drewN | apply below_drew1) | exact HB.out)⟩

end Go.Proofs.Ytiebpoikhijbgaa.M
