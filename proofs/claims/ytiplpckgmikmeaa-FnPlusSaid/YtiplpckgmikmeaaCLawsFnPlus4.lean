/- What the claim's law leans on: the program's functions, what they compute, and the law over plain values; no condition is asked. (Part 4 of 5.) -/
import Derived.Test.YtiplpckgmikmeaaCLawsFnPlus3
import Derived.Laws.BitsAllLaws
import Derived.Laws.BitsLemmas
namespace Go.Proofs.Ytiplpckgmikmeaa.M
open Go.RowKit Go.Proofs.YtiplpckgmikmeaaW.PrintWords Go.Proofs.YtiplpckgmikmeaaW.PrintLast Go.Proofs.YtiplpckgmikmeaaW.PrintMore
attribute [local go_sem] max2_int min2_int max_two min_two max_three min_three max_four min_four
set_option linter.unusedVariables false
set_option linter.unusedSimpArgs false

mutual
def laws_FnPlus.j0 : Nat → List (S27) → Int → Int → List (S27) → Bool → Bool → Option (Bool)
 | 0, _, _, _, _, _, _ => none
 | k + 1, x3, x4, x5, x6, x7, x49 => if x49 = true then (some false) else (if x7 = true then (laws_FnPlus.l0 k x3 x4 x5 x6 0) else (some ((x6.length : Int) == 0)))
def laws_FnPlus.l0 : Nat → List (S27) → Int → Int → List (S27) → Int → Option (Bool)
 | 0, _, _, _, _, _ => none
 | k + 1, x3, x4, x5, x6, x10 => if x10 < (x6.length : Int) then (if 0 ≤ x10 then (if ((rd_T27 x6 x10).f1) > x5 then (some false) else ((impl_OccsPut.f k x3 ((rd_T27 x6 x10).f0) (wrap64 (((rd_T27 x6 x10).f1) - x4)) ((rd_T27 x6 x10).f2)).bind fun t118 => (if (t118.length : Int) = (x3.length : Int) then (laws_FnPlus.l0 k x3 x4 x5 x6 (wrap64 (x10 + 1))) else (some false)))) else (none)) else (laws_FnPlus.l1 k x3 x4 x5 x6 0 0)
def laws_FnPlus.l1 : Nat → List (S27) → Int → Int → List (S27) → Int → Int → Option (Bool)
 | 0, _, _, _, _, _, _ => none
 | k + 1, x3, x4, x5, x6, x12, x13 => if x13 < (x3.length : Int) then (if 0 ≤ x13 then (if (wrap64 (((rd_T27 x3 x13).f1) + x4)) ≤ x5 then (if (wrap64 (((rd_T27 x3 x13).f1) + x4)) ≤ 2000 then (laws_FnPlus.l1 k x3 x4 x5 x6 (wrap64 (x12 + 1)) (wrap64 (x13 + 1))) else (laws_FnPlus.l1 k x3 x4 x5 x6 x12 (wrap64 (x13 + 1)))) else (laws_FnPlus.l1 k x3 x4 x5 x6 x12 (wrap64 (x13 + 1)))) else (none)) else ((impl_PlusOf.f k x6 3 x5).bind fun bt123 => ((impl_PlusOf.f k x3 (wrap64 (x4 + 3)) x5).bind fun bt127 => (if (x6.length : Int) = x12 then (if bt123.2 = true then (if bt127.2 = true then ((impl_OccsSame.f k bt123.1 bt127.1).bind fun t131 => (if t131 = true then ((impl_OccsOk.f k x6).bind fun t132 => (some t132)) else (some false))) else ((impl_OccsOk.f k x6).bind fun t133 => (some t133))) else (some false)) else (some false))))
end
def laws_FnPlus.f (k : Nat) (l0 : List Int) : Option (Bool) := if (l0.length : Int) > 1048576 then (some true) else ((spec_DrawPlusOf.f k l0).bind fun bt101 => ((impl_PlusOf.f k bt101.1 bt101.2.1 bt101.2.2).bind fun bt106 => ((spec_PlusOf.f k bt101.1 bt101.2.1 bt101.2.2).bind fun bt110 => (if (bt106.2 != bt110.2) = true then (laws_FnPlus.j0 k bt101.1 bt101.2.1 bt101.2.2 bt106.1 bt106.2 true) else ((impl_OccsSame.f k bt106.1 bt110.1).bind fun t114 => (laws_FnPlus.j0 k bt101.1 bt101.2.1 bt101.2.2 bt106.1 bt106.2 (!t114)))))))
theorem laws_FnPlus.mono_l : ∀ k, (∀ y0 y1 y2 y3 y4 y5, LeO (laws_FnPlus.j0 k y0 y1 y2 y3 y4 y5) (laws_FnPlus.j0 (k + 1) y0 y1 y2 y3 y4 y5)) ∧ (∀ y0 y1 y2 y3 y4, LeO (laws_FnPlus.l0 k y0 y1 y2 y3 y4) (laws_FnPlus.l0 (k + 1) y0 y1 y2 y3 y4)) ∧ (∀ y0 y1 y2 y3 y4 y5, LeO (laws_FnPlus.l1 k y0 y1 y2 y3 y4 y5) (laws_FnPlus.l1 (k + 1) y0 y1 y2 y3 y4 y5))
 | 0 => ⟨fun _ _ _ _ _ _ r h => by simp [laws_FnPlus.j0] at h, fun _ _ _ _ _ r h => by simp [laws_FnPlus.l0] at h, fun _ _ _ _ _ _ r h => by simp [laws_FnPlus.l1] at h⟩
 | k + 1 => by
  obtain ⟨ih0, ih1, ih2⟩ := laws_FnPlus.mono_l k
  refine ⟨?_, ?_, ?_⟩
  ·intro y0 y1 y2 y3 y4 y5
   unfold laws_FnPlus.j0
   repeat' first
   | (with_reducible exact ih0 _ _ _ _ _ _)
   | (with_reducible exact ih1 _ _ _ _ _)
   | (with_reducible exact ih2 _ _ _ _ _ _)
   | (with_reducible exact impl_OccsOk.mono _ _)
   | (with_reducible exact impl_OccsPut.mono _ _ _ _ _)
   | (with_reducible exact impl_OccsSame.mono _ _ _)
   | (with_reducible exact impl_PlusOf.mono _ _ _ _)
   | (with_reducible exact spec_DrawPlusOf.mono _ _)
   | (with_reducible exact spec_PlusOf.mono _ _ _ _)
   | (with_reducible exact LeO.refl _)
   | (with_reducible exact LeO.none _)
   | (with_reducible refine LeO.ite ?_ ?_)
   | (with_reducible refine LeO.bind ?_ (fun _ => ?_))
   | exact ih0 _ _ _ _ _ _
   | exact ih1 _ _ _ _ _
   | exact ih2 _ _ _ _ _ _
   | exact impl_OccsOk.mono _ _
   | exact impl_OccsPut.mono _ _ _ _ _
   | exact impl_OccsSame.mono _ _ _
   | exact impl_PlusOf.mono _ _ _ _
   | exact spec_DrawPlusOf.mono _ _
   | exact spec_PlusOf.mono _ _ _ _
   | exact LeO.none _
   | refine LeO.ite ?_ ?_
   | refine LeO.bind ?_ (fun _ => ?_)
  ·intro y0 y1 y2 y3 y4
   unfold laws_FnPlus.l0
   repeat' first
   | (with_reducible exact ih0 _ _ _ _ _ _)
   | (with_reducible exact ih1 _ _ _ _ _)
   | (with_reducible exact ih2 _ _ _ _ _ _)
   | (with_reducible exact impl_OccsOk.mono _ _)
   | (with_reducible exact impl_OccsPut.mono _ _ _ _ _)
   | (with_reducible exact impl_OccsSame.mono _ _ _)
   | (with_reducible exact impl_PlusOf.mono _ _ _ _)
   | (with_reducible exact spec_DrawPlusOf.mono _ _)
   | (with_reducible exact spec_PlusOf.mono _ _ _ _)
   | (with_reducible exact LeO.refl _)
   | (with_reducible exact LeO.none _)
   | (with_reducible refine LeO.ite ?_ ?_)
   | (with_reducible refine LeO.bind ?_ (fun _ => ?_))
   | exact ih0 _ _ _ _ _ _
   | exact ih1 _ _ _ _ _
   | exact ih2 _ _ _ _ _ _
   | exact impl_OccsOk.mono _ _
   | exact impl_OccsPut.mono _ _ _ _ _
   | exact impl_OccsSame.mono _ _ _
   | exact impl_PlusOf.mono _ _ _ _
   | exact spec_DrawPlusOf.mono _ _
   | exact spec_PlusOf.mono _ _ _ _
   | exact LeO.none _
   | refine LeO.ite ?_ ?_
   | refine LeO.bind ?_ (fun _ => ?_)
  ·intro y0 y1 y2 y3 y4 y5
   unfold laws_FnPlus.l1
   repeat' first
   | (with_reducible exact ih0 _ _ _ _ _ _)
   | (with_reducible exact ih1 _ _ _ _ _)
   | (with_reducible exact ih2 _ _ _ _ _ _)
   | (with_reducible exact impl_OccsOk.mono _ _)
   | (with_reducible exact impl_OccsPut.mono _ _ _ _ _)
   | (with_reducible exact impl_OccsSame.mono _ _ _)
   | (with_reducible exact impl_PlusOf.mono _ _ _ _)
   | (with_reducible exact spec_DrawPlusOf.mono _ _)
   | (with_reducible exact spec_PlusOf.mono _ _ _ _)
   | (with_reducible exact LeO.refl _)
   | (with_reducible exact LeO.none _)
   | (with_reducible refine LeO.ite ?_ ?_)
   | (with_reducible refine LeO.bind ?_ (fun _ => ?_))
   | exact ih0 _ _ _ _ _ _
   | exact ih1 _ _ _ _ _
   | exact ih2 _ _ _ _ _ _
   | exact impl_OccsOk.mono _ _
   | exact impl_OccsPut.mono _ _ _ _ _
   | exact impl_OccsSame.mono _ _ _
   | exact impl_PlusOf.mono _ _ _ _
   | exact spec_DrawPlusOf.mono _ _
   | exact spec_PlusOf.mono _ _ _ _
   | exact LeO.none _
   | refine LeO.ite ?_ ?_
   | refine LeO.bind ?_ (fun _ => ?_)
theorem laws_FnPlus.mono : ∀ a0 k, LeO (laws_FnPlus.f k a0) (laws_FnPlus.f (k + 1) a0) := by
 intro a0 k
 obtain ⟨ih0, ih1, ih2⟩ := laws_FnPlus.mono_l k
 unfold laws_FnPlus.f
 repeat' first
   | (with_reducible exact ih0 _ _ _ _ _ _)
   | (with_reducible exact ih1 _ _ _ _ _)
   | (with_reducible exact ih2 _ _ _ _ _ _)
   | (with_reducible exact impl_OccsOk.mono _ _)
   | (with_reducible exact impl_OccsPut.mono _ _ _ _ _)
   | (with_reducible exact impl_OccsSame.mono _ _ _)
   | (with_reducible exact impl_PlusOf.mono _ _ _ _)
   | (with_reducible exact spec_DrawPlusOf.mono _ _)
   | (with_reducible exact spec_PlusOf.mono _ _ _ _)
   | (with_reducible exact LeO.refl _)
   | (with_reducible exact LeO.none _)
   | (with_reducible refine LeO.ite ?_ ?_)
   | (with_reducible refine LeO.bind ?_ (fun _ => ?_))
   | exact ih0 _ _ _ _ _ _
   | exact ih1 _ _ _ _ _
   | exact ih2 _ _ _ _ _ _
   | exact impl_OccsOk.mono _ _
   | exact impl_OccsPut.mono _ _ _ _ _
   | exact impl_OccsSame.mono _ _ _
   | exact impl_PlusOf.mono _ _ _ _
   | exact spec_DrawPlusOf.mono _ _
   | exact spec_PlusOf.mono _ _ _ _
   | exact LeO.none _
   | refine LeO.ite ?_ ?_
   | refine LeO.bind ?_ (fun _ => ?_)
set_option maxHeartbeats 8000000 in
set_option maxRecDepth 100000 in
theorem laws_FnPlus.calls (k : Nat) (A0 : Option Addr) (c0 : Nat) (l0 : List Int) (r : Bool) (hT_ : Aside0 (r = true)) (w : World) (hr0 : Kd.C (Kd.int .u8) w A0 l0.length l0) (hc0 : l0.length ≤ c0) (h : laws_FnPlus.f k l0 = some r) :
  Calls Try.prog 16 #[.slice A0 l0.length c0] w fun e w' => e = .returned (.bool r) ∧ Below w.heap.size w w' := by
 have hu27 := Try.underlying27
 have HR0 := Aside0.mk hr0
 have HC0 := Aside0.mk hc0
 clear hr0 hc0
 have HB := Aside0.mk (Below.refl w.heap.size w)
 have H : (if (l0.length : Int) > 1048576 then (some true) else ((spec_DrawPlusOf.f k l0).bind fun bt101 => ((impl_PlusOf.f k bt101.1 bt101.2.1 bt101.2.2).bind fun bt106 => ((spec_PlusOf.f k bt101.1 bt101.2.1 bt101.2.2).bind fun bt110 => (if (bt106.2 != bt110.2) = true then (laws_FnPlus.j0 k bt101.1 bt101.2.1 bt101.2.2 bt106.1 bt106.2 true) else ((impl_OccsSame.f k bt106.1 bt110.1).bind fun t114 => (laws_FnPlus.j0 k bt101.1 bt101.2.1 bt101.2.2 bt106.1 bt106.2 (!t114)))))))) = some r := h
 clear h
 by_cases c2 : (l0.length : Int) > 1048576
 ·rw [if_pos c2] at H
  have c2b0 : decide (1048576 < (l0.length : Int)) = true := decide_eq_true c2
  have c2b1 : decide (1048576 < l0.length) = true := decide_eq_true (by omega)
  clear c2
  obtain rfl := Option.some.inj H
  go_enter Try.func16, Try.ntmps16
  go_wp2
  go_ret
  exact ⟨by first | rfl | (simp [errW_none, errW_some] <;> rfl) | (simp [*, errW_none, errW_some] <;> rfl), by repeat (first | (with_reducible first | exact HB.out | apply below_alloc | apply pw_below_drewN | apply below_drew1) | exact HB.out)⟩
 ·rw [if_neg c2] at H
  have c2b0 : decide (1048576 < (l0.length : Int)) = false := decide_eq_false c2
  have c2b1 : decide (1048576 < l0.length) = false := decide_eq_false (by omega)
  clear c2
  replace H := Option.bind_eq_some_iff.mp H
  obtain ⟨⟨t101, t104, t105⟩, A30, H⟩ := H
  replace H : ((impl_PlusOf.f k t101 t104 t105).bind fun bt106 => ((spec_PlusOf.f k t101 t104 t105).bind fun bt110 => (if (bt106.2 != bt110.2) = true then (laws_FnPlus.j0 k t101 t104 t105 bt106.1 bt106.2 true) else ((impl_OccsSame.f k bt106.1 bt110.1).bind fun t114 => (laws_FnPlus.j0 k t101 t104 t105 bt106.1 bt106.2 (!t114)))))) = some r := H
  have A3 := Aside0.mk A30
  clear A30
  replace H := Option.bind_eq_some_iff.mp H
  obtain ⟨⟨t106, t107⟩, A40, H⟩ := H
  replace H : ((spec_PlusOf.f k t101 t104 t105).bind fun bt110 => (if (t107 != bt110.2) = true then (laws_FnPlus.j0 k t101 t104 t105 t106 t107 true) else ((impl_OccsSame.f k t106 bt110.1).bind fun t114 => (laws_FnPlus.j0 k t101 t104 t105 t106 t107 (!t114))))) = some r := H
  have A4 := Aside0.mk A40
  clear A40
  replace H := Option.bind_eq_some_iff.mp H
  obtain ⟨⟨t110, t111⟩, A50, H⟩ := H
  replace H : (if (t107 != t111) = true then (laws_FnPlus.j0 k t101 t104 t105 t106 t107 true) else ((impl_OccsSame.f k t106 t110).bind fun t114 => (laws_FnPlus.j0 k t101 t104 t105 t106 t107 (!t114)))) = some r := H
  have A5 := Aside0.mk A50
  clear A50
  have HC6 := Aside0.mk H
  clear H
  go_enter Try.func16, Try.ntmps16
  go_upto_region 6 with (first | ((with_reducible refine gate_callee (f := 60) rfl ?_);refine goesL_ (some 23) rfl rfl Try.func60 (by kernel_rfl) rfl #[.slice A0 l0.length c0] rfl (by (try simp only [List.map_toArray, List.map_cons, List.map_nil]);first | done | rfl | (simp only [List.length_drop, List.length_take];rfl)) ?_;(with_reducible refine (spec_DrawPlusOf.calls k _ _ l0 t101 t104 t105 _ ?side1 ?side2 A3.out).mono ?_);(case side1 => repeat (first | exact HR0.out | (with_reducible refine Kd.C_alloc ?_ _) | (with_reducible refine Kd.C_drewN ?_ _) | (with_reducible refine Kd.C_drew ?_)));(case side2 => exact HC0.out);rintro e w7 ⟨v102, rfl, ho0, hb⟩;refine ⟨_, rfl, ?_⟩;have HO103 := Aside0.mk (Kd.N_lower (Kd.N_mono (ok' := fun k_ => True) ho0 (fun k_ hk_ => trivial)) (below_size (by exact HB.out)));replace HB := Aside0.mk (below_step (by exact HB.out) hb);(try clear hb);(try clear hb2);(try clear hk);(try clear hi);(try clear ho0);obtain ⟨Ao8, co8, eo8⟩ := Kd.N_slice HO103.out;subst eo8) | ((with_reducible refine gate_callee (f := 61) rfl ?_);refine goesL_ (some 31) rfl rfl Try.func61 (by kernel_rfl) rfl #[.slice Ao8 t101.length co8, .int .i64 t104, .int .i64 t105] rfl (by (try simp only [List.map_toArray, List.map_cons, List.map_nil]);first | done | rfl | (simp only [List.length_drop, List.length_take];rfl)) ?_;(with_reducible refine (impl_PlusOf.calls k _ _ t101 t104 t105 t106 t107 _ ?side1 ?side2 A4.out).mono ?_);(case side1 => repeat (first | exact (Kd.N_reads' HO103.out).2.2 | (with_reducible refine Kd.C_alloc ?_ _) | (with_reducible refine Kd.C_drewN ?_ _) | (with_reducible refine Kd.C_drew ?_)));(case side2 => exact (Kd.N_reads' HO103.out).2.1);rintro e w9 ⟨v108, rfl, ho0, hb⟩;refine ⟨_, rfl, ?_⟩;have HO109 := Aside0.mk (Kd.N_lower (Kd.N_mono (ok' := fun k_ => some k_ ≠ (.slice Ao8 t101.length co8 : Value).ownBlock) (Kd.S_N (Kd.S_bound ho0)) (fun k_ hk_ => (Kd.fresh' (Kd.N_lt (by exact HO103.out)) k_ hk_.2.1))) (below_size (by exact HB.out)));replace HO103 := Aside0.mk (Kd.N_elder' (by exact HO103.out) (by first | exact Kd.N_base ho0 | exact Kd.S_base ho0) hb);replace HB := Aside0.mk (below_step (by exact HB.out) hb);(try clear hb);(try clear hb2);(try clear hk);(try clear hi);(try clear ho0)) | ((with_reducible refine gate_callee (f := 62) rfl ?_);refine goesL_ (some 38) rfl rfl Try.func62 (by kernel_rfl) rfl #[.slice Ao8 t101.length co8, .int .i64 t104, .int .i64 t105] rfl (by (try simp only [List.map_toArray, List.map_cons, List.map_nil]);first | done | rfl | (simp only [List.length_drop, List.length_take];rfl)) ?_;(with_reducible refine (spec_PlusOf.calls k _ _ t101 t104 t105 t110 t111 _ ?side1 ?side2 A5.out).mono ?_);(case side1 => repeat (first | exact (Kd.N_reads' HO103.out).2.2 | (with_reducible refine Kd.C_alloc ?_ _) | (with_reducible refine Kd.C_drewN ?_ _) | (with_reducible refine Kd.C_drew ?_)));(case side2 => exact (Kd.N_reads' HO103.out).2.1);rintro e w10 ⟨v112, rfl, ho0, hb⟩;refine ⟨_, rfl, ?_⟩;have HO113 := Aside0.mk (Kd.N_lower (Kd.N_mono (ok' := fun k_ => some k_ ≠ (.slice Ao8 t101.length co8 : Value).ownBlock ∧ some k_ ≠ (v108 : Value).ownBlock) (Kd.S_N (Kd.S_bound ho0)) (fun k_ hk_ => ⟨(Kd.fresh' (Kd.N_lt (by exact HO103.out)) k_ hk_.2.1), (Kd.fresh' (Kd.N_lt (by exact HO109.out)) k_ hk_.2.1)⟩)) (below_size (by exact HB.out)));replace HO103 := Aside0.mk (Kd.N_elder' (by exact HO103.out) (by first | exact Kd.N_base ho0 | exact Kd.S_base ho0) hb);replace HO109 := Aside0.mk (Kd.N_elder' (by exact HO109.out) (by first | exact Kd.N_base ho0 | exact Kd.S_base ho0) hb);replace HB := Aside0.mk (below_step (by exact HB.out) hb);(try clear hb);(try clear hb2);(try clear hk);(try clear hi);(try clear ho0)))
  (try simp only [Act.put, List.setIfInBounds_toArray, List.set_cons_zero, List.set_cons_succ])
  go_cut [49] (fun v49 wc => ∃ (kq : Nat) (x49_5 : Bool), v49 = .bool x49_5 ∧ Aside0 (laws_FnPlus.j0 kq t101 t104 t105 t106 t107 x49_5 = some r) ∧ Aside0 (kq ≤ k) ∧ Aside0 (Kd.N k27 27 wc w.heap.size (fun k_ => some k_ ≠ (v108 : Value).ownBlock) (.slice Ao8 t101.length co8) t101) ∧ Aside0 (Kd.N k27 27 wc w.heap.size (fun k_ => some k_ ≠ ((.slice Ao8 t101.length co8) : Value).ownBlock) v108 t106) ∧ Aside0 (Below w.heap.size w wc))
  case first =>
   have H := HC6.out
   clear HC6
   by_cases c11 : (t107 != t111) = true
   ·rw [if_pos c11] at H
    have c11b0 : (t107 != t111) = true := c11
    (try (have c11b1 : decide (t107 = t111) = false := by simpa using c11))
    (try (have c11b2 : (t107 == t111) = false := by simpa using c11))
    (try (have c11b3 : ¬ (t107 = t111) := by simpa using c11))
    clear c11
    (first | rw [c11b0] | (simp only [i64_w, i32_w];rw [c11b0]) | skip)
    have H' := Aside0.mk H
    clear H
    go_wp2
    go_meet
    case rel => exact ⟨_, (true), (by first | rfl | (simp;done) | (simp [*];done)), H', ⟨by first | omega | exact Nat.le_refl _⟩, ⟨by (with_reducible repeat (first | apply Kd.N_alloc | apply Kd.N_drewN | apply Kd.N_drew));exact Kd.N_mono HO103.out (fun _ hk => hk.1.2)⟩, ⟨by (with_reducible repeat (first | apply Kd.N_alloc | apply Kd.N_drewN | apply Kd.N_drew));exact Kd.N_mono HO109.out (fun _ hk => hk.1)⟩, ⟨by repeat (first | (with_reducible first | exact HB.out | apply below_alloc | apply pw_below_drewN | apply below_drew1) | exact HB.out)⟩⟩
   ·rw [if_neg c11] at H
    have c11b0 : (t107 != t111) = false := by simpa using c11
    (try (have c11b1 : decide (t107 = t111) = true := by simpa using c11))
    (try (have c11b2 : (t107 == t111) = true := by simpa using c11))
    clear c11
    (first | rw [c11b0] | (simp only [i64_w, i32_w];rw [c11b0]) | skip)
    replace H := Option.bind_eq_some_iff.mp H
    obtain ⟨t114, A120, H⟩ := H
    replace H : (laws_FnPlus.j0 k t101 t104 t105 t106 t107 (!t114)) = some r := H
    have A12 := Aside0.mk A120
    clear A120
    have H' := Aside0.mk H
    clear H
    obtain ⟨Ao13, co13, eo13⟩ := Kd.N_slice HO109.out
    subst eo13
    obtain ⟨Ao14, co14, eo14⟩ := Kd.N_slice HO113.out
    subst eo14
    go_wp2_with (first | (go_at_call 26;(with_reducible refine (impl_OccsSame.calls k _ _ t106 _ _ t110 t114 _ ?side1 ?side2 ?side3 ?side4 A12.out).mono ?_);(case side1 => repeat (first | exact (Kd.N_reads' HO109.out).2.2 | (with_reducible refine Kd.C_alloc ?_ _) | (with_reducible refine Kd.C_drewN ?_ _) | (with_reducible refine Kd.C_drew ?_)));(case side2 => exact (Kd.N_reads' HO109.out).2.1);(case side3 => repeat (first | exact (Kd.N_reads' HO113.out).2.2 | (with_reducible refine Kd.C_alloc ?_ _) | (with_reducible refine Kd.C_drewN ?_ _) | (with_reducible refine Kd.C_drew ?_)));(case side4 => exact (Kd.N_reads' HO113.out).2.1);rintro e w15 ⟨rfl, hb⟩;replace HO103 := Aside0.mk (Kd.N_below (by exact HO103.out) hb);replace HO109 := Aside0.mk (Kd.N_below (by exact HO109.out) hb);replace HO113 := Aside0.mk (Kd.N_below (by exact HO113.out) hb);replace HB := Aside0.mk (below_step (by exact HB.out) hb);(try clear hb);(try clear hb2);(try clear hk);(try clear hi)))
    go_meet
    case rel => exact ⟨_, (!t114), (by first | rfl | (simp;done) | (simp [*];done)), H', ⟨by first | omega | exact Nat.le_refl _⟩, ⟨by (with_reducible repeat (first | apply Kd.N_alloc | apply Kd.N_drewN | apply Kd.N_drew));exact Kd.N_mono HO103.out (fun _ hk => hk.1.2)⟩, ⟨by (with_reducible repeat (first | apply Kd.N_alloc | apply Kd.N_drewN | apply Kd.N_drew));exact Kd.N_mono HO109.out (fun _ hk => hk.1)⟩, ⟨by repeat (first | (with_reducible first | exact HB.out | apply below_alloc | apply pw_below_drewN | apply below_drew1) | exact HB.out)⟩⟩
  case rest =>
   clear HC6
   try clear c1
   try clear c2
   try clear c2b0
   try clear c2b1
   try clear p2
   try clear c6
   try clear c11
   try clear c11b0
   try clear c11b1
   try clear c11b2
   obtain ⟨kq, x49_5, rfl, HA, HJ5, HO_3, HO_6, HB⟩ := hcut
   cases kq with
   | zero => exact absurd HA.out (by simp [laws_FnPlus.j0])
   | succ kj5 =>
    have H := HA.out
    clear HA
    simp only [laws_FnPlus.j0] at H
    by_cases c16 : x49_5 = true
    ·subst c16
     have H1 : (some false) = some r := by rw [if_pos rfl] at H;exact H
     clear H
     have H := H1
     clear H1
     exact absurd (Option.some.inj H) (by rw [hT_.out];decide)
    ·replace c16 := Bool.eq_false_iff.mpr c16
     subst c16
     have H1 : (if t107 = true then (laws_FnPlus.l0 kj5 t101 t104 t105 t106 0) else (some ((t106.length : Int) == 0))) = some r := by rw [if_neg (show ¬ (false = true) by decide)] at H;exact H
     clear H
     have H := H1
     clear H1
     by_cases c17 : t107 = true
     ·subst c17
      have H1 : (laws_FnPlus.l0 kj5 t101 t104 t105 t106 0) = some r := by rw [if_pos rfl] at H;exact H
      clear H
      have H := H1
      clear H1
      have H' := Aside0.mk H
      clear H
      go_wp2
      go_loopg [10] kj5 (fun kq v10 w' => ∃ (x10_2 : Int), v10 = .int .i64 x10_2 ∧ Aside0 (laws_FnPlus.l0 kq t101 t104 t105 t106 x10_2 = some r) ∧ Aside0 (kq ≤ kj5) ∧ Aside0 (Kd.N k27 27 w' w.heap.size (fun k_ => some k_ ≠ (v108 : Value).ownBlock) (.slice Ao8 t101.length co8) t101) ∧ Aside0 (Kd.N k27 27 w' w.heap.size (fun k_ => some k_ ≠ ((.slice Ao8 t101.length co8) : Value).ownBlock) v108 t106) ∧ Aside0 (Below w.heap.size w w'))
      case atStart => exact ⟨(0), (by first | rfl | (simp;done) | (simp [*];done)), H', ⟨Nat.le_refl _⟩, ⟨by (with_reducible repeat (first | apply Kd.N_alloc | apply Kd.N_drewN | apply Kd.N_drew));exact HO_3.out⟩, ⟨by (with_reducible repeat (first | apply Kd.N_alloc | apply Kd.N_drewN | apply Kd.N_drew));exact HO_6.out⟩, ⟨by repeat (first | (with_reducible first | exact HB.out | apply below_alloc | apply pw_below_drewN | apply below_drew1) | exact HB.out)⟩⟩
      case round =>
       clear H'
       try clear c1
       try clear c2
       try clear c2b0
       try clear c2b1
       try clear p2
       try clear c6
       try clear c11
       try clear c11b0
       try clear c11b1
       try clear c11b2
       try clear c16
       try clear c17
       try clear p2
       obtain ⟨x10_2, rfl, HA, HK2, HO_3, HO_6, HB⟩ := hrel
       cases gk with
       | zero => exact absurd HA.out (by simp [laws_FnPlus.l0])
       | succ k2 =>
        have H := HA.out
        clear HA
        simp only [laws_FnPlus.l0] at H
        by_cases c18 : x10_2 < (t106.length : Int)
        ·rw [if_pos c18] at H
         have c18b0 : decide (x10_2 < (t106.length : Int)) = true := decide_eq_true c18
         clear c18
         by_cases c19 : 0 ≤ x10_2
         ·rw [if_pos c19] at H
          have c19b0 : decide (0 ≤ x10_2) = true := decide_eq_true c19
          clear c19
          by_cases c20 : ((rd_T27 t106 x10_2).f1) > t105
          ·rw [if_pos c20] at H
           have c20b0 : decide (t105 < ((rd_T27 t106 x10_2).f1)) = true := decide_eq_true c20
           clear c20
           exact absurd (Option.some.inj H) (by rw [hT_.out];decide)
          ·rw [if_neg c20] at H
           have c20b0 : decide (t105 < ((rd_T27 t106 x10_2).f1)) = false := decide_eq_false c20
           clear c20
           replace H := Option.bind_eq_some_iff.mp H
           obtain ⟨t118, A210, H⟩ := H
           replace H : (if (t118.length : Int) = (t101.length : Int) then (laws_FnPlus.l0 k2 t101 t104 t105 t106 (wrap64 (x10_2 + 1))) else (some false)) = some r := H
           have A21 := Aside0.mk A210
           clear A210
           by_cases c22 : (t118.length : Int) = (t101.length : Int)
           ·rw [if_pos c22] at H
            have c22b0 : ((t118.length : Int) == (t101.length : Int)) = true := beq_iff_eq.mpr c22
            have c22b1 : ((t118.length : Int) != (t101.length : Int)) = false := bne_eq_false_iff_eq.mpr c22
            have c22b2 : (t118.length == t101.length) = true := by first | simpa using c22 | (simp at c22 ⊢;omega)
            clear c22
            have H' := Aside0.mk H
            clear H
            obtain ⟨Ao23, co23, eo23⟩ := Kd.N_slice HO_6.out
            subst eo23
            have p115 : 0 ≤ (x10_2 : Int) := of_decide_eq_true (by first | (with_reducible assumption) | assumption)
            have q115 : x10_2 < (t106.length : Int) := of_decide_eq_true (by first | (with_reducible assumption) | assumption)
            obtain ⟨ad115, A115_2, c115_2, e115, hx115_0, hx115_1, hx115_2, hl115_2, hi115_2⟩ := at_T27 (Kd.N_reads' HO_6.out).2.2 x10_2 p115 q115
            cases e115
            obtain ⟨ce115, hce115, hMe115, hcc115⟩ := Kd.N_get HO_6.out z27 x10_2 p115 (by first | exact q115 | exact of_decide_eq_true (by first | (with_reducible assumption) | assumption) | (have e_ := (Kd.N_reads' HO_6.out).1;omega))
            obtain ⟨ua115_2, uc115_2, rfl, ul115_2, ge115_2⟩ := k27_openF hMe115
            have hv115_2 := hcc115 2 _ rfl
            rw [add_field _ _ 2 (by omega)] at hv115_2
            replace hv115_2 := Option.some.inj (hv115_2.symm.trans hx115_2)
            injection hv115_2 with hva_ hvn_ hvc_
            rw [hva_] at ge115_2
            rw [hvc_] at ul115_2
            have HL115_2 := Aside0.mk (show Kd.V (Kd.int .i64) 3 _ w.heap.size _ _ ((rd_T27 t106 x10_2).f2) from Kd.V_mk ul115_2 ge115_2)
            clear hva_ hvn_ hvc_ ge115_2 ul115_2
            clear hcc115 hce115
            have HR115_2 := Aside0.mk hi115_2
            have HC115_2 := Aside0.mk hl115_2
            clear hi115_2 hl115_2
            replace p115 := eq_true p115
            replace q115 := eq_true q115
            go_wp2_with (first | ((with_reducible refine gate_dst (N := 11) rfl ?_);(try (refine gate_guard (by rfl) ?_;dsimp only));refine box_event ?hg (N := 11) ?hd (cs := #[.int .i64 0, .int .i64 0, .slice none 0 0]) (t := 27) ?hr ?_;(case hd => rfl);(case hg => rfl);(case hr => first | (go_simp;done) | (go_simp;rfl));intro gb116 hg w24 hbox hb;replace HO_3 := Aside0.mk (Kd.N_below (Kd.N_elderB (by exact HO_3.out) gb116 (Nat.le_of_eq hg.symm)) hb);replace HO_6 := Aside0.mk (Kd.N_below (Kd.N_elderB (by exact HO_6.out) gb116 (Nat.le_of_eq hg.symm)) hb);replace HL115_2 := Aside0.mk (Kd.V_below (Kd.V_elderB (by exact HL115_2.out) gb116 (Nat.le_of_eq hg.symm)) hb);replace HR115_2 := Aside0.mk (Kd.C_below (by repeat (first | (with_reducible exact HR115_2.out) | (with_reducible refine Kd.C_alloc ?_ _) | (with_reducible refine Kd.C_drewN ?_ _) | (with_reducible refine Kd.C_drew ?_) | exact HR115_2.out)) hb);have BK116 := Aside0.mk (hbox);have GW116 := Aside0.mk ((by rw [hg];exact (below_size (by exact HB.out)) : w.heap.size ≤ gb116));have GE116 := Aside0.mk ((by rw [hg];exact (below_size (by exact HB.out)) : w.heap.size ≤ gb116));replace HB := Aside0.mk (below_step (by exact HB.out) hb);clear hb hbox hg;obtain ⟨hcz25_0, hcz25_1, hcz25_2, hfz25_0, hfz25_1, hfz25_2⟩ := bx3 BK116.out) | ((with_reducible refine gate_store (t := 27) (p := 11) rfl ?_);refine store_event (t := 27) (p := 11) (v := ?vo_w26) (w1 := (((w24.setCell ⟨gb116, 0, none⟩ (.int .i64 ((rd_T27 t106 x10_2).f0))).setCell ⟨gb116, 1, none⟩ (.int .i64 ((rd_T27 t106 x10_2).f1))).setCell ⟨gb116, 2, none⟩ (.slice A115_2 ((rd_T27 t106 x10_2).f2).length c115_2))) ?hg ?ho ?hn ?hr ?_;(case ho => rfl);(case hg => rfl);(case hn => rfl);(case hr => first | (go_simp;done) | (go_simp;rfl));intro w26 hw;have n0_ : Aside0 (Kd.N k27 27 w26 w.heap.size (fun k_ => some k_ ≠ (.slice (some ad115) t106.length co23 : Value).ownBlock ∧ k_ ≠ gb116) (.slice Ao8 t101.length co8) t101) := ⟨(by rw [hw];exact (by (with_reducible repeat (first | apply Kd.N_alloc | apply Kd.N_drewN | apply Kd.N_drew));exact Kd.N_mono (Kd.N_far (p := ⟨gb116, 2, none⟩) (Kd.N_far (p := ⟨gb116, 1, none⟩) (Kd.N_far (p := ⟨gb116, 0, none⟩) (Kd.N_mono HO_3.out (fun k_ hk => (⟨hk, hk.2⟩ : _ ∧ k_ ≠ gb116))) (fun _ hk => hk.2) (.int .i64 ((rd_T27 t106 x10_2).f0))) (fun _ hk => hk.2) (.int .i64 ((rd_T27 t106 x10_2).f1))) (fun _ hk => hk.2) (.slice A115_2 ((rd_T27 t106 x10_2).f2).length c115_2)) (fun _ hk => ⟨hk.1.1, hk.1.2⟩)))⟩;have n1_ : Aside0 (Kd.N k27 27 w26 w.heap.size (fun k_ => some k_ ≠ (.slice Ao8 t101.length co8 : Value).ownBlock ∧ k_ ≠ gb116) (.slice (some ad115) t106.length co23) t106) := ⟨(by rw [hw];exact (by (with_reducible repeat (first | apply Kd.N_alloc | apply Kd.N_drewN | apply Kd.N_drew));exact Kd.N_mono (Kd.N_far (p := ⟨gb116, 2, none⟩) (Kd.N_far (p := ⟨gb116, 1, none⟩) (Kd.N_far (p := ⟨gb116, 0, none⟩) (Kd.N_mono HO_6.out (fun k_ hk => (⟨hk, hk.2⟩ : _ ∧ k_ ≠ gb116))) (fun _ hk => hk.2) (.int .i64 ((rd_T27 t106 x10_2).f0))) (fun _ hk => hk.2) (.int .i64 ((rd_T27 t106 x10_2).f1))) (fun _ hk => hk.2) (.slice A115_2 ((rd_T27 t106 x10_2).f2).length c115_2)) (fun _ hk => ⟨hk.1.1, hk.1.2⟩)))⟩;have n2_ : Aside0 (Kd.V (Kd.int .i64) 3 w26 w.heap.size (fun k_ => some k_ ≠ (.slice Ao8 t101.length co8 : Value).ownBlock ∧ some k_ ≠ (.slice (some ad115) t106.length co23 : Value).ownBlock ∧ k_ ≠ gb116) (.slice A115_2 ((rd_T27 t106 x10_2).f2).length c115_2) ((rd_T27 t106 x10_2).f2)) := ⟨(by rw [hw];exact (by (with_reducible repeat (first | apply Kd.V_alloc | apply Kd.V_drewN | apply Kd.V_drew));exact Kd.V_mono (Kd.V_far (p := ⟨gb116, 2, none⟩) (Kd.V_far (p := ⟨gb116, 1, none⟩) (Kd.V_far (p := ⟨gb116, 0, none⟩) (Kd.V_mono HL115_2.out (fun k_ hk => (⟨hk, hk.2⟩ : _ ∧ k_ ≠ gb116))) (fun _ hk => hk.2) (.int .i64 ((rd_T27 t106 x10_2).f0))) (fun _ hk => hk.2) (.int .i64 ((rd_T27 t106 x10_2).f1))) (fun _ hk => hk.2) (.slice A115_2 ((rd_T27 t106 x10_2).f2).length c115_2)) (fun _ hk => ⟨hk.1.1.1, ⟨hk.1.1.2, hk.1.2⟩⟩)))⟩;have n3_ : Aside0 (w26.heap[gb116]? = some (.cells #[.int .i64 ((rd_T27 t106 x10_2).f0), .int .i64 ((rd_T27 t106 x10_2).f1), .slice A115_2 ((rd_T27 t106 x10_2).f2).length c115_2] 27 (0, 0))) := ⟨(by rw [hw];exact (by (with_reducible repeat (first | refine blk_drewN ?_ _ | refine blk_drew ?_ | refine blk_alloc ?_ _));refine blk_put (cs := #[.int .i64 ((rd_T27 t106 x10_2).f0), .int .i64 ((rd_T27 t106 x10_2).f1), .slice none 0 0]) ?_ 2 _ rfl;(with_reducible repeat (first | refine blk_drewN ?_ _ | refine blk_drew ?_ | refine blk_alloc ?_ _));refine blk_put (cs := #[.int .i64 ((rd_T27 t106 x10_2).f0), .int .i64 0, .slice none 0 0]) ?_ 1 _ rfl;(with_reducible repeat (first | refine blk_drewN ?_ _ | refine blk_drew ?_ | refine blk_alloc ?_ _));refine blk_put (cs := #[.int .i64 0, .int .i64 0, .slice none 0 0]) ?_ 0 _ rfl;(with_reducible repeat (first | refine blk_drewN ?_ _ | refine blk_drew ?_ | refine blk_alloc ?_ _));exact BK116.out))⟩;have n4_ : Aside0 (Below w.heap.size w w26) := ⟨(by rw [hw];exact (by repeat (first | (with_reducible first | exact HB.out | apply below_alloc | apply pw_below_drewN | apply below_drew1 | refine below_set ?_ GE116.out) | exact HB.out)))⟩;clear hw;clear HO_3;clear HO_6;clear HL115_2;clear BK116;clear HB;have HO_3 := n0_;have HO_6 := n1_;have HL115_2 := n2_;have BK116 := n3_;have HB := n4_;clear n0_ n1_ n2_ n3_ n4_;obtain ⟨hcz27_0, hcz27_1, hcz27_2, hfz27_0, hfz27_1, hfz27_2⟩ := bx3 BK116.out) | ((with_reducible refine gate_store (t := 3) (p := 69) rfl ?_);refine store_event (t := 3) (p := 69) (v := ?vo_w28) (w1 := (w26.setCell ⟨gb116, 1, none⟩ (.int .i64 (wrap64 (((rd_T27 t106 x10_2).f1) - t104))))) ?hg ?ho ?hn ?hr ?_;(case ho => rfl);(case hg => rfl);(case hn => rfl);(case hr => first | (go_simp;done) | (go_simp;rfl));intro w28 hw;have n0_ : Aside0 (Kd.N k27 27 w28 w.heap.size (fun k_ => some k_ ≠ (.slice (some ad115) t106.length co23 : Value).ownBlock ∧ k_ ≠ gb116) (.slice Ao8 t101.length co8) t101) := ⟨(by rw [hw];exact (by (with_reducible repeat (first | apply Kd.N_alloc | apply Kd.N_drewN | apply Kd.N_drew));exact Kd.N_mono (Kd.N_far (p := ⟨gb116, 1, none⟩) (Kd.N_mono HO_3.out (fun k_ hk => (⟨hk, hk.2⟩ : _ ∧ k_ ≠ gb116))) (fun _ hk => hk.2) (.int .i64 (wrap64 (((rd_T27 t106 x10_2).f1) - t104)))) (fun _ hk => ⟨hk.1.1, hk.1.2⟩)))⟩;have n1_ : Aside0 (Kd.N k27 27 w28 w.heap.size (fun k_ => some k_ ≠ (.slice Ao8 t101.length co8 : Value).ownBlock ∧ k_ ≠ gb116) (.slice (some ad115) t106.length co23) t106) := ⟨(by rw [hw];exact (by (with_reducible repeat (first | apply Kd.N_alloc | apply Kd.N_drewN | apply Kd.N_drew));exact Kd.N_mono (Kd.N_far (p := ⟨gb116, 1, none⟩) (Kd.N_mono HO_6.out (fun k_ hk => (⟨hk, hk.2⟩ : _ ∧ k_ ≠ gb116))) (fun _ hk => hk.2) (.int .i64 (wrap64 (((rd_T27 t106 x10_2).f1) - t104)))) (fun _ hk => ⟨hk.1.1, hk.1.2⟩)))⟩;have n2_ : Aside0 (Kd.V (Kd.int .i64) 3 w28 w.heap.size (fun k_ => some k_ ≠ (.slice Ao8 t101.length co8 : Value).ownBlock ∧ some k_ ≠ (.slice (some ad115) t106.length co23 : Value).ownBlock ∧ k_ ≠ gb116) (.slice A115_2 ((rd_T27 t106 x10_2).f2).length c115_2) ((rd_T27 t106 x10_2).f2)) := ⟨(by rw [hw];exact (by (with_reducible repeat (first | apply Kd.V_alloc | apply Kd.V_drewN | apply Kd.V_drew));exact Kd.V_mono (Kd.V_far (p := ⟨gb116, 1, none⟩) (Kd.V_mono HL115_2.out (fun k_ hk => (⟨hk, hk.2.2⟩ : _ ∧ k_ ≠ gb116))) (fun _ hk => hk.2) (.int .i64 (wrap64 (((rd_T27 t106 x10_2).f1) - t104)))) (fun _ hk => ⟨hk.1.1, ⟨hk.1.2.1, hk.1.2.2⟩⟩)))⟩;have n3_ : Aside0 (w28.heap[gb116]? = some (.cells #[.int .i64 ((rd_T27 t106 x10_2).f0), .int .i64 (wrap64 (((rd_T27 t106 x10_2).f1) - t104)), .slice A115_2 ((rd_T27 t106 x10_2).f2).length c115_2] 27 (0, 0))) := ⟨(by rw [hw];exact (by (with_reducible repeat (first | refine blk_drewN ?_ _ | refine blk_drew ?_ | refine blk_alloc ?_ _));refine blk_put (cs := #[.int .i64 ((rd_T27 t106 x10_2).f0), .int .i64 ((rd_T27 t106 x10_2).f1), .slice A115_2 ((rd_T27 t106 x10_2).f2).length c115_2]) ?_ 1 _ rfl;(with_reducible repeat (first | refine blk_drewN ?_ _ | refine blk_drew ?_ | refine blk_alloc ?_ _));exact BK116.out))⟩;have n4_ : Aside0 (Below w.heap.size w w28) := ⟨(by rw [hw];exact (by repeat (first | (with_reducible first | exact HB.out | apply below_alloc | apply pw_below_drewN | apply below_drew1 | refine below_set ?_ GE116.out) | exact HB.out)))⟩;clear hw;clear HO_3;clear HO_6;clear HL115_2;clear BK116;clear HB;have HO_3 := n0_;have HO_6 := n1_;have HL115_2 := n2_;have BK116 := n3_;have HB := n4_;clear n0_ n1_ n2_ n3_ n4_;have p117 : 0 ≤ (x10_2 : Int) := of_decide_eq_true (by first | (with_reducible assumption) | assumption);have q117 : x10_2 < (t106.length : Int) := of_decide_eq_true (by first | (with_reducible assumption) | assumption);obtain ⟨ad117, A117_2, c117_2, e117, hx117_0, hx117_1, hx117_2, hl117_2, hi117_2⟩ := at_T27 (Kd.N_reads' HO_6.out).2.2 x10_2 p117 q117;obtain rfl : ad115 = ad117 := (by injection e117);obtain ⟨ce117, hce117, hMe117, hcc117⟩ := Kd.N_get HO_6.out z27 x10_2 p117 (by first | exact q117 | exact of_decide_eq_true (by first | (with_reducible assumption) | assumption) | (have e_ := (Kd.N_reads' HO_6.out).1;omega));obtain ⟨ua117_2, uc117_2, rfl, ul117_2, ge117_2⟩ := k27_openF hMe117;have hv117_2 := hcc117 2 _ rfl;rw [add_field _ _ 2 (by omega)] at hv117_2;replace hv117_2 := Option.some.inj (hv117_2.symm.trans hx117_2);injection hv117_2 with hva_ hvn_ hvc_;rw [hva_] at ge117_2;rw [hvc_] at ul117_2;have HL117_2 := Aside0.mk (show Kd.V (Kd.int .i64) 3 _ w.heap.size _ _ ((rd_T27 t106 x10_2).f2) from Kd.V_mk ul117_2 ge117_2);clear hva_ hvn_ hvc_ ge117_2 ul117_2;clear hcc117 hce117;have HR117_2 := Aside0.mk hi117_2;have HC117_2 := Aside0.mk hl117_2;clear hi117_2 hl117_2;replace p117 := eq_true p117;replace q117 := eq_true q117;obtain ⟨hcz29_0, hcz29_1, hcz29_2, hfz29_0, hfz29_1, hfz29_2⟩ := bx3 BK116.out) | (go_at_call 54;replace HR115_2 := Aside0.mk (Kd.V_reads' HL115_2.out).2.2;replace HR117_2 := Aside0.mk (Kd.V_reads' HL117_2.out).2.2;(with_reducible refine (impl_OccsPut.calls k2 _ _ t101 ((rd_T27 t106 x10_2).f0) (wrap64 (((rd_T27 t106 x10_2).f1) - t104)) _ _ ((rd_T27 t106 x10_2).f2) t118 _ ?side1 ?side2 ?side3 ?side4 A21.out).mono ?_);(case side1 => repeat (first | exact (Kd.N_reads' HO_3.out).2.2 | (with_reducible refine Kd.C_alloc ?_ _) | (with_reducible refine Kd.C_drewN ?_ _) | (with_reducible refine Kd.C_drew ?_)));(case side2 => exact (Kd.N_reads' HO_3.out).2.1);(case side3 => repeat (first | exact (by repeat (first | (with_reducible exact HR115_2.out) | (with_reducible refine Kd.C_alloc ?_ _) | (with_reducible refine Kd.C_drewN ?_ _) | (with_reducible refine Kd.C_drew ?_) | exact HR115_2.out)) | (with_reducible refine Kd.C_alloc ?_ _) | (with_reducible refine Kd.C_drewN ?_ _) | (with_reducible refine Kd.C_drew ?_)));(case side4 => exact HC115_2.out);rintro e w30 ⟨v119, rfl, ho0, hb⟩;replace HL115_2 := Aside0.mk (Kd.V_elder' (by exact HL115_2.out) (by first | exact Kd.N_base ho0 | exact Kd.S_base ho0) hb);replace HL117_2 := Aside0.mk (Kd.V_elder' (by exact HL117_2.out) (by first | exact Kd.N_base ho0 | exact Kd.S_base ho0) hb);have HO120 := Aside0.mk (Kd.N_lower (Kd.N_mono (ok' := fun k_ => some k_ ≠ (.slice Ao8 t101.length co8 : Value).ownBlock ∧ some k_ ≠ (.slice (some ad115) t106.length co23 : Value).ownBlock ∧ k_ ≠ gb116) (Kd.S_N (Kd.S_bound ho0)) (fun k_ hk_ => ⟨(Kd.fresh' (Kd.N_lt (by exact HO_3.out)) k_ hk_.2.1), (Kd.fresh' (Kd.N_lt (by exact HO_6.out)) k_ hk_.2.1), (Kd.freshB BK116.out k_ hk_.2.1)⟩)) (below_size (by exact HB.out)));replace HO_3 := Aside0.mk (Kd.N_elder' (by exact HO_3.out) (by first | exact Kd.N_base ho0 | exact Kd.S_base ho0) hb);replace HO_6 := Aside0.mk (Kd.N_elder' (by exact HO_6.out) (by first | exact Kd.N_base ho0 | exact Kd.S_base ho0) hb);replace HR115_2 := Aside0.mk (Kd.C_below (by repeat (first | (with_reducible exact HR115_2.out) | (with_reducible refine Kd.C_alloc ?_ _) | (with_reducible refine Kd.C_drewN ?_ _) | (with_reducible refine Kd.C_drew ?_) | exact HR115_2.out)) hb);replace BK116 := Aside0.mk (blk_below BK116.out hb);replace HR117_2 := Aside0.mk (Kd.C_below (by repeat (first | (with_reducible exact HR117_2.out) | (with_reducible refine Kd.C_alloc ?_ _) | (with_reducible refine Kd.C_drewN ?_ _) | (with_reducible refine Kd.C_drew ?_) | exact HR117_2.out)) hb);replace HB := Aside0.mk (below_step (by exact HB.out) hb);(try clear hb);(try clear hb2);(try clear hk);(try clear hi);(try clear ho0);obtain ⟨Ao31, co31, eo31⟩ := Kd.N_slice HO120.out;subst eo31))
            go_roundg k2
            case measure => have := HJ5.out;have := HK2.out;omega
            case rel => exact ⟨(wrap64 (x10_2 + 1)), (by first | rfl | (simp;done) | (simp [*];done)), H', ⟨by have := HJ5.out;have := HK2.out;omega⟩, ⟨by (with_reducible repeat (first | apply Kd.N_alloc | apply Kd.N_drewN | apply Kd.N_drew));exact Kd.N_mono HO_3.out (fun _ hk => hk.1.1)⟩, ⟨by (with_reducible repeat (first | apply Kd.N_alloc | apply Kd.N_drewN | apply Kd.N_drew));exact Kd.N_mono HO_6.out (fun _ hk => hk.1.1)⟩, ⟨by repeat (first | (with_reducible first | exact HB.out | apply below_alloc | apply pw_below_drewN | apply below_drew1 | refine below_set ?_ GE116.out) | exact HB.out)⟩⟩
           ·rw [if_neg c22] at H
            have c22b0 : ((t118.length : Int) == (t101.length : Int)) = false := beq_eq_false_iff_ne.mpr c22
            have c22b1 : ((t118.length : Int) != (t101.length : Int)) = true := bne_iff_ne.mpr c22
            have c22b2 : (t118.length == t101.length) = false := by first | simpa using c22 | (simp at c22 ⊢;omega)
            exact absurd (Option.some.inj H) (by rw [hT_.out];decide)
         ·rw [if_neg c19] at H
          exact absurd H (by simp)
        ·rw [if_neg c18] at H
         have c18b0 : decide (x10_2 < (t106.length : Int)) = false := decide_eq_false c18
         clear c18
         have H' := Aside0.mk H
         clear H
         obtain ⟨Ao32, co32, eo32⟩ := Kd.N_slice HO_6.out
         subst eo32
         go_wp2
         go_loopg [12, 13] k2 (fun kq v12 v13 w' => ∃ (x12_3 : Int) (x13_3 : Int), v12 = .int .i64 x12_3 ∧ v13 = .int .i64 x13_3 ∧ Aside0 (laws_FnPlus.l1 kq t101 t104 t105 t106 x12_3 x13_3 = some r) ∧ Aside0 (kq ≤ k2) ∧ Aside0 (Kd.N k27 27 w' w.heap.size (fun k_ => some k_ ≠ ((.slice Ao32 t106.length co32) : Value).ownBlock) (.slice Ao8 t101.length co8) t101) ∧ Aside0 (Kd.N k27 27 w' w.heap.size (fun k_ => some k_ ≠ ((.slice Ao8 t101.length co8) : Value).ownBlock) (.slice Ao32 t106.length co32) t106) ∧ Aside0 (Below w.heap.size w w'))
         case atStart => exact ⟨(0), (0), (by first | rfl | (simp;done) | (simp [*];done)), (by first | rfl | (simp;done) | (simp [*];done)), H', ⟨Nat.le_refl _⟩, ⟨by (with_reducible repeat (first | apply Kd.N_alloc | apply Kd.N_drewN | apply Kd.N_drew));exact HO_3.out⟩, ⟨by (with_reducible repeat (first | apply Kd.N_alloc | apply Kd.N_drewN | apply Kd.N_drew));exact HO_6.out⟩, ⟨by repeat (first | (with_reducible first | exact HB.out | apply below_alloc | apply pw_below_drewN | apply below_drew1) | exact HB.out)⟩⟩
         case round =>
          clear H'
          try clear c1
          try clear p1
          try clear q1
          try clear hx1
          try clear c2
          try clear c2b0
          try clear c2b1
          try clear p2
          try clear c6
          try clear p6
          try clear c11
          try clear c11b0
          try clear c11b1
          try clear c11b2
          try clear p11
          try clear q11
          try clear hx11
          try clear c16
          try clear c17
          try clear c18
          try clear c18b0
          try clear c19
          try clear c19b0
          try clear c20
          try clear c20b0
          try clear c22
          try clear c22b0
          try clear c22b1
          try clear c22b2
          try clear hcz25_0
          try clear hcz25_1
          try clear hcz25_2
          try clear hcz27_0
          try clear hcz27_1
          try clear hcz27_2
          try clear hcz29_0
          try clear hcz29_1
          try clear hcz29_2
          try clear hfz25_0
          try clear hfz25_1
          try clear hfz25_2
          try clear hfz27_0
          try clear hfz27_1
          try clear hfz27_2
          try clear hfz29_0
          try clear hfz29_1
          try clear hfz29_2
          try clear hx115_0
          try clear hx115_1
          try clear hx115_2
          try clear hx117_0
          try clear hx117_1
          try clear hx117_2
          try clear p115
          try clear p117
          try clear p2
          try clear q115
          try clear q117
          obtain ⟨x12_3, x13_3, rfl, rfl, HA, HK3, HO_3, HO_6, HB⟩ := hrel
          cases gk with
          | zero => exact absurd HA.out (by simp [laws_FnPlus.l1])
          | succ k3 =>
           have H := HA.out
           clear HA
           simp only [laws_FnPlus.l1] at H
           by_cases c33 : x13_3 < (t101.length : Int)
           ·rw [if_pos c33] at H
            have c33b0 : decide (x13_3 < (t101.length : Int)) = true := decide_eq_true c33
            clear c33
            by_cases c34 : 0 ≤ x13_3
            ·rw [if_pos c34] at H
             have c34b0 : decide (0 ≤ x13_3) = true := decide_eq_true c34
             clear c34
             by_cases c35 : (wrap64 (((rd_T27 t101 x13_3).f1) + t104)) ≤ t105
             ·rw [if_pos c35] at H
              have c35b0 : decide ((wrap64 (((rd_T27 t101 x13_3).f1) + t104)) ≤ t105) = true := decide_eq_true c35
              clear c35
              by_cases c36 : (wrap64 (((rd_T27 t101 x13_3).f1) + t104)) ≤ 2000
              ·rw [if_pos c36] at H
               have c36b0 : decide ((wrap64 (((rd_T27 t101 x13_3).f1) + t104)) ≤ 2000) = true := decide_eq_true c36
               clear c36
               have H' := Aside0.mk H
               clear H
               have p121 : 0 ≤ (x13_3 : Int) := of_decide_eq_true (by first | (with_reducible assumption) | assumption)
               have q121 : x13_3 < (t101.length : Int) := of_decide_eq_true (by first | (with_reducible assumption) | assumption)
               obtain ⟨ad121, A121_2, c121_2, e121, hx121_0, hx121_1, hx121_2, hl121_2, hi121_2⟩ := at_T27 (Kd.N_reads' HO_3.out).2.2 x13_3 p121 q121
               cases e121
               obtain ⟨ce121, hce121, hMe121, hcc121⟩ := Kd.N_get HO_3.out z27 x13_3 p121 (by first | exact q121 | exact of_decide_eq_true (by first | (with_reducible assumption) | assumption) | (have e_ := (Kd.N_reads' HO_3.out).1;omega))
               obtain ⟨ua121_2, uc121_2, rfl, ul121_2, ge121_2⟩ := k27_openF hMe121
               have hv121_2 := hcc121 2 _ rfl
               rw [add_field _ _ 2 (by omega)] at hv121_2
               replace hv121_2 := Option.some.inj (hv121_2.symm.trans hx121_2)
               injection hv121_2 with hva_ hvn_ hvc_
               rw [hva_] at ge121_2
               rw [hvc_] at ul121_2
               have HL121_2 := Aside0.mk (show Kd.V (Kd.int .i64) 3 _ w.heap.size _ _ ((rd_T27 t101 x13_3).f2) from Kd.V_mk ul121_2 ge121_2)
               clear hva_ hvn_ hvc_ ge121_2 ul121_2
               clear hcc121 hce121
               have HR121_2 := Aside0.mk hi121_2
               have HC121_2 := Aside0.mk hl121_2
               clear hi121_2 hl121_2
               replace p121 := eq_true p121
               replace q121 := eq_true q121
               have p122 : 0 ≤ (x13_3 : Int) := of_decide_eq_true (by first | (with_reducible assumption) | assumption)
               have q122 : x13_3 < (t101.length : Int) := of_decide_eq_true (by first | (with_reducible assumption) | assumption)
               obtain ⟨ad122, A122_2, c122_2, e122, hx122_0, hx122_1, hx122_2, hl122_2, hi122_2⟩ := at_T27 (Kd.N_reads' HO_3.out).2.2 x13_3 p122 q122
               obtain rfl : ad121 = ad122 := (by injection e122)
               obtain ⟨ce122, hce122, hMe122, hcc122⟩ := Kd.N_get HO_3.out z27 x13_3 p122 (by first | exact q122 | exact of_decide_eq_true (by first | (with_reducible assumption) | assumption) | (have e_ := (Kd.N_reads' HO_3.out).1;omega))
               obtain ⟨ua122_2, uc122_2, rfl, ul122_2, ge122_2⟩ := k27_openF hMe122
               have hv122_2 := hcc122 2 _ rfl
               rw [add_field _ _ 2 (by omega)] at hv122_2
               replace hv122_2 := Option.some.inj (hv122_2.symm.trans hx122_2)
               injection hv122_2 with hva_ hvn_ hvc_
               rw [hva_] at ge122_2
               rw [hvc_] at ul122_2
               have HL122_2 := Aside0.mk (show Kd.V (Kd.int .i64) 3 _ w.heap.size _ _ ((rd_T27 t101 x13_3).f2) from Kd.V_mk ul122_2 ge122_2)
               clear hva_ hvn_ hvc_ ge122_2 ul122_2
               clear hcc122 hce122
               have HR122_2 := Aside0.mk hi122_2
               have HC122_2 := Aside0.mk hl122_2
               clear hi122_2 hl122_2
               replace p122 := eq_true p122
               replace q122 := eq_true q122
               have ea_ := Option.some.inj (hx121_2.symm.trans hx122_2)
               injection ea_ with ea_ en_ ec_
               subst ea_
               subst ec_
               clear en_
               go_wp2
               go_roundg k3
               case measure => have := HJ5.out;have := HK2.out;have := HK3.out;omega
               case rel => exact ⟨(wrap64 (x12_3 + 1)), (wrap64 (x13_3 + 1)), (by first | rfl | (simp;done) | (simp [*];done)), (by first | rfl | (simp;done) | (simp [*];done)), H', ⟨by have := HJ5.out;have := HK2.out;have := HK3.out;omega⟩, ⟨by (with_reducible repeat (first | apply Kd.N_alloc | apply Kd.N_drewN | apply Kd.N_drew));exact HO_3.out⟩, ⟨by (with_reducible repeat (first | apply Kd.N_alloc | apply Kd.N_drewN | apply Kd.N_drew));exact HO_6.out⟩, ⟨by repeat (first | (with_reducible first | exact HB.out | apply below_alloc | apply pw_below_drewN | apply below_drew1) | exact HB.out)⟩⟩
              ·rw [if_neg c36] at H
               have c36b0 : decide ((wrap64 (((rd_T27 t101 x13_3).f1) + t104)) ≤ 2000) = false := decide_eq_false c36
               clear c36
               have H' := Aside0.mk H
               clear H
               have p121 : 0 ≤ (x13_3 : Int) := of_decide_eq_true (by first | (with_reducible assumption) | assumption)
               have q121 : x13_3 < (t101.length : Int) := of_decide_eq_true (by first | (with_reducible assumption) | assumption)
               obtain ⟨ad121, A121_2, c121_2, e121, hx121_0, hx121_1, hx121_2, hl121_2, hi121_2⟩ := at_T27 (Kd.N_reads' HO_3.out).2.2 x13_3 p121 q121
               cases e121
               obtain ⟨ce121, hce121, hMe121, hcc121⟩ := Kd.N_get HO_3.out z27 x13_3 p121 (by first | exact q121 | exact of_decide_eq_true (by first | (with_reducible assumption) | assumption) | (have e_ := (Kd.N_reads' HO_3.out).1;omega))
               obtain ⟨ua121_2, uc121_2, rfl, ul121_2, ge121_2⟩ := k27_openF hMe121
               have hv121_2 := hcc121 2 _ rfl
               rw [add_field _ _ 2 (by omega)] at hv121_2
               replace hv121_2 := Option.some.inj (hv121_2.symm.trans hx121_2)
               injection hv121_2 with hva_ hvn_ hvc_
               rw [hva_] at ge121_2
               rw [hvc_] at ul121_2
               have HL121_2 := Aside0.mk (show Kd.V (Kd.int .i64) 3 _ w.heap.size _ _ ((rd_T27 t101 x13_3).f2) from Kd.V_mk ul121_2 ge121_2)
               clear hva_ hvn_ hvc_ ge121_2 ul121_2
               clear hcc121 hce121
               have HR121_2 := Aside0.mk hi121_2
               have HC121_2 := Aside0.mk hl121_2
               clear hi121_2 hl121_2
               replace p121 := eq_true p121
               replace q121 := eq_true q121
               have p122 : 0 ≤ (x13_3 : Int) := of_decide_eq_true (by first | (with_reducible assumption) | assumption)
               have q122 : x13_3 < (t101.length : Int) := of_decide_eq_true (by first | (with_reducible assumption) | assumption)
               obtain ⟨ad122, A122_2, c122_2, e122, hx122_0, hx122_1, hx122_2, hl122_2, hi122_2⟩ := at_T27 (Kd.N_reads' HO_3.out).2.2 x13_3 p122 q122
               obtain rfl : ad121 = ad122 := (by injection e122)
               obtain ⟨ce122, hce122, hMe122, hcc122⟩ := Kd.N_get HO_3.out z27 x13_3 p122 (by first | exact q122 | exact of_decide_eq_true (by first | (with_reducible assumption) | assumption) | (have e_ := (Kd.N_reads' HO_3.out).1;omega))
               obtain ⟨ua122_2, uc122_2, rfl, ul122_2, ge122_2⟩ := k27_openF hMe122
               have hv122_2 := hcc122 2 _ rfl
               rw [add_field _ _ 2 (by omega)] at hv122_2
               replace hv122_2 := Option.some.inj (hv122_2.symm.trans hx122_2)
               injection hv122_2 with hva_ hvn_ hvc_
               rw [hva_] at ge122_2
               rw [hvc_] at ul122_2
               have HL122_2 := Aside0.mk (show Kd.V (Kd.int .i64) 3 _ w.heap.size _ _ ((rd_T27 t101 x13_3).f2) from Kd.V_mk ul122_2 ge122_2)
               clear hva_ hvn_ hvc_ ge122_2 ul122_2
               clear hcc122 hce122
               have HR122_2 := Aside0.mk hi122_2
               have HC122_2 := Aside0.mk hl122_2
               clear hi122_2 hl122_2
               replace p122 := eq_true p122
               replace q122 := eq_true q122
               have ea_ := Option.some.inj (hx121_2.symm.trans hx122_2)
               injection ea_ with ea_ en_ ec_
               subst ea_
               subst ec_
               clear en_
               go_wp2
               go_roundg k3
               case measure => have := HJ5.out;have := HK2.out;have := HK3.out;omega
               case rel => exact ⟨(x12_3), (wrap64 (x13_3 + 1)), (by first | rfl | (simp;done) | (simp [*];done)), (by first | rfl | (simp;done) | (simp [*];done)), H', ⟨by have := HJ5.out;have := HK2.out;have := HK3.out;omega⟩, ⟨by (with_reducible repeat (first | apply Kd.N_alloc | apply Kd.N_drewN | apply Kd.N_drew));exact HO_3.out⟩, ⟨by (with_reducible repeat (first | apply Kd.N_alloc | apply Kd.N_drewN | apply Kd.N_drew));exact HO_6.out⟩, ⟨by repeat (first | (with_reducible first | exact HB.out | apply below_alloc | apply pw_below_drewN | apply below_drew1) | exact HB.out)⟩⟩
             ·rw [if_neg c35] at H
              have c35b0 : decide ((wrap64 (((rd_T27 t101 x13_3).f1) + t104)) ≤ t105) = false := decide_eq_false c35
              clear c35
              have H' := Aside0.mk H
              clear H
              have p121 : 0 ≤ (x13_3 : Int) := of_decide_eq_true (by first | (with_reducible assumption) | assumption)
              have q121 : x13_3 < (t101.length : Int) := of_decide_eq_true (by first | (with_reducible assumption) | assumption)
              obtain ⟨ad121, A121_2, c121_2, e121, hx121_0, hx121_1, hx121_2, hl121_2, hi121_2⟩ := at_T27 (Kd.N_reads' HO_3.out).2.2 x13_3 p121 q121
              cases e121
              obtain ⟨ce121, hce121, hMe121, hcc121⟩ := Kd.N_get HO_3.out z27 x13_3 p121 (by first | exact q121 | exact of_decide_eq_true (by first | (with_reducible assumption) | assumption) | (have e_ := (Kd.N_reads' HO_3.out).1;omega))
              obtain ⟨ua121_2, uc121_2, rfl, ul121_2, ge121_2⟩ := k27_openF hMe121
              have hv121_2 := hcc121 2 _ rfl
              rw [add_field _ _ 2 (by omega)] at hv121_2
              replace hv121_2 := Option.some.inj (hv121_2.symm.trans hx121_2)
              injection hv121_2 with hva_ hvn_ hvc_
              rw [hva_] at ge121_2
              rw [hvc_] at ul121_2
              have HL121_2 := Aside0.mk (show Kd.V (Kd.int .i64) 3 _ w.heap.size _ _ ((rd_T27 t101 x13_3).f2) from Kd.V_mk ul121_2 ge121_2)
              clear hva_ hvn_ hvc_ ge121_2 ul121_2
              clear hcc121 hce121
              have HR121_2 := Aside0.mk hi121_2
              have HC121_2 := Aside0.mk hl121_2
              clear hi121_2 hl121_2
              replace p121 := eq_true p121
              replace q121 := eq_true q121
              go_wp2
              go_roundg k3
              case measure => have := HJ5.out;have := HK2.out;have := HK3.out;omega
              case rel => exact ⟨(x12_3), (wrap64 (x13_3 + 1)), (by first | rfl | (simp;done) | (simp [*];done)), (by first | rfl | (simp;done) | (simp [*];done)), H', ⟨by have := HJ5.out;have := HK2.out;have := HK3.out;omega⟩, ⟨by (with_reducible repeat (first | apply Kd.N_alloc | apply Kd.N_drewN | apply Kd.N_drew));exact HO_3.out⟩, ⟨by (with_reducible repeat (first | apply Kd.N_alloc | apply Kd.N_drewN | apply Kd.N_drew));exact HO_6.out⟩, ⟨by repeat (first | (with_reducible first | exact HB.out | apply below_alloc | apply pw_below_drewN | apply below_drew1) | exact HB.out)⟩⟩
            ·rw [if_neg c34] at H
             exact absurd H (by simp)
           ·rw [if_neg c33] at H
            have c33b0 : decide (x13_3 < (t101.length : Int)) = false := decide_eq_false c33
            clear c33
            replace H := Option.bind_eq_some_iff.mp H
            obtain ⟨⟨t123, t124⟩, A370, H⟩ := H
            replace H : ((impl_PlusOf.f k3 t101 (wrap64 (t104 + 3)) t105).bind fun bt127 => (if (t106.length : Int) = x12_3 then (if t124 = true then (if bt127.2 = true then ((impl_OccsSame.f k3 t123 bt127.1).bind fun t131 => (if t131 = true then ((impl_OccsOk.f k3 t106).bind fun t132 => (some t132)) else (some false))) else ((impl_OccsOk.f k3 t106).bind fun t133 => (some t133))) else (some false)) else (some false))) = some r := H
            have A37 := Aside0.mk A370
            clear A370
            replace H := Option.bind_eq_some_iff.mp H
            obtain ⟨⟨t127, t128⟩, A380, H⟩ := H
            replace H : (if (t106.length : Int) = x12_3 then (if t124 = true then (if t128 = true then ((impl_OccsSame.f k3 t123 t127).bind fun t131 => (if t131 = true then ((impl_OccsOk.f k3 t106).bind fun t132 => (some t132)) else (some false))) else ((impl_OccsOk.f k3 t106).bind fun t133 => (some t133))) else (some false)) else (some false)) = some r := H
            have A38 := Aside0.mk A380
            clear A380
            by_cases c39 : (t106.length : Int) = x12_3
            ·rw [if_pos c39] at H
             have c39b0 : ((t106.length : Int) == x12_3) = true := beq_iff_eq.mpr c39
             have c39b1 : ((t106.length : Int) != x12_3) = false := bne_eq_false_iff_eq.mpr c39
             clear c39
             by_cases c40 : t124 = true
             ·subst c40
              have H1 : (if t128 = true then ((impl_OccsSame.f k3 t123 t127).bind fun t131 => (if t131 = true then ((impl_OccsOk.f k3 t106).bind fun t132 => (some t132)) else (some false))) else ((impl_OccsOk.f k3 t106).bind fun t133 => (some t133))) = some r := by rw [if_pos rfl] at H;exact H
              clear H
              have H := H1
              clear H1
              by_cases c41 : t128 = true
              ·subst c41
               have H1 : ((impl_OccsSame.f k3 t123 t127).bind fun t131 => (if t131 = true then ((impl_OccsOk.f k3 t106).bind fun t132 => (some t132)) else (some false))) = some r := by rw [if_pos rfl] at H;exact H
               clear H
               have H := H1
               clear H1
               replace H := Option.bind_eq_some_iff.mp H
               obtain ⟨t131, A420, H⟩ := H
               replace H : (if t131 = true then ((impl_OccsOk.f k3 t106).bind fun t132 => (some t132)) else (some false)) = some r := H
               have A42 := Aside0.mk A420
               clear A420
               by_cases c43 : t131 = true
               ·subst c43
                have H1 : ((impl_OccsOk.f k3 t106).bind fun t132 => (some t132)) = some r := by rw [if_pos rfl] at H;exact H
                clear H
                have H := H1
                clear H1
                replace H := Option.bind_eq_some_iff.mp H
                obtain ⟨t132, A440, H⟩ := H
                replace H : (some t132) = some r := H
                have A44 := Aside0.mk A440
                clear A440
                obtain rfl := Option.some.inj H
                go_wp2_with (first | ((with_reducible refine gate_callee (f := 61) rfl ?_);refine goesL_ (some 116) rfl rfl Try.func61 (by kernel_rfl) rfl #[.slice Ao32 t106.length co32, .int .i64 3, .int .i64 t105] rfl (by (try simp only [List.map_toArray, List.map_cons, List.map_nil]);first | done | rfl | (simp only [List.length_drop, List.length_take];rfl)) ?_;(with_reducible refine (impl_PlusOf.calls k3 _ _ t106 3 t105 t123 true _ ?side1 ?side2 A37.out).mono ?_);(case side1 => repeat (first | exact (Kd.N_reads' HO_6.out).2.2 | (with_reducible refine Kd.C_alloc ?_ _) | (with_reducible refine Kd.C_drewN ?_ _) | (with_reducible refine Kd.C_drew ?_)));(case side2 => exact (Kd.N_reads' HO_6.out).2.1);rintro e w45 ⟨v125, rfl, ho0, hb⟩;refine ⟨_, rfl, ?_⟩;have HO126 := Aside0.mk (Kd.N_lower (Kd.N_mono (ok' := fun k_ => some k_ ≠ (.slice Ao8 t101.length co8 : Value).ownBlock ∧ some k_ ≠ (.slice Ao32 t106.length co32 : Value).ownBlock) (Kd.S_N (Kd.S_bound ho0)) (fun k_ hk_ => ⟨(Kd.fresh' (Kd.N_lt (by exact HO_3.out)) k_ hk_.2.1), (Kd.fresh' (Kd.N_lt (by exact HO_6.out)) k_ hk_.2.1)⟩)) (below_size (by exact HB.out)));replace HO_3 := Aside0.mk (Kd.N_elder' (by exact HO_3.out) (by first | exact Kd.N_base ho0 | exact Kd.S_base ho0) hb);replace HO_6 := Aside0.mk (Kd.N_elder' (by exact HO_6.out) (by first | exact Kd.N_base ho0 | exact Kd.S_base ho0) hb);replace HB := Aside0.mk (below_step (by exact HB.out) hb);(try clear hb);(try clear hb2);(try clear hk);(try clear hi);(try clear ho0)) | ((with_reducible refine gate_callee (f := 61) rfl ?_);refine goesL_ (some 124) rfl rfl Try.func61 (by kernel_rfl) rfl #[.slice Ao8 t101.length co8, .int .i64 (wrap64 (t104 + 3)), .int .i64 t105] rfl (by (try simp only [List.map_toArray, List.map_cons, List.map_nil]);first | done | rfl | (simp only [List.length_drop, List.length_take];rfl)) ?_;(with_reducible refine (impl_PlusOf.calls k3 _ _ t101 (wrap64 (t104 + 3)) t105 t127 true _ ?side1 ?side2 A38.out).mono ?_);(case side1 => repeat (first | exact (Kd.N_reads' HO_3.out).2.2 | (with_reducible refine Kd.C_alloc ?_ _) | (with_reducible refine Kd.C_drewN ?_ _) | (with_reducible refine Kd.C_drew ?_)));(case side2 => exact (Kd.N_reads' HO_3.out).2.1);rintro e w46 ⟨v129, rfl, ho0, hb⟩;refine ⟨_, rfl, ?_⟩;have HO130 := Aside0.mk (Kd.N_lower (Kd.N_mono (ok' := fun k_ => some k_ ≠ (.slice Ao8 t101.length co8 : Value).ownBlock ∧ some k_ ≠ (.slice Ao32 t106.length co32 : Value).ownBlock ∧ some k_ ≠ (v125 : Value).ownBlock) (Kd.S_N (Kd.S_bound ho0)) (fun k_ hk_ => ⟨(Kd.fresh' (Kd.N_lt (by exact HO_3.out)) k_ hk_.2.1), (Kd.fresh' (Kd.N_lt (by exact HO_6.out)) k_ hk_.2.1), (Kd.fresh' (Kd.N_lt (by exact HO126.out)) k_ hk_.2.1)⟩)) (below_size (by exact HB.out)));replace HO_3 := Aside0.mk (Kd.N_elder' (by exact HO_3.out) (by first | exact Kd.N_base ho0 | exact Kd.S_base ho0) hb);replace HO_6 := Aside0.mk (Kd.N_elder' (by exact HO_6.out) (by first | exact Kd.N_base ho0 | exact Kd.S_base ho0) hb);replace HO126 := Aside0.mk (Kd.N_elder' (by exact HO126.out) (by first | exact Kd.N_base ho0 | exact Kd.S_base ho0) hb);replace HB := Aside0.mk (below_step (by exact HB.out) hb);(try clear hb);(try clear hb2);(try clear hk);(try clear hi);(try clear ho0);obtain ⟨Ao47, co47, eo47⟩ := Kd.N_slice HO126.out;subst eo47;obtain ⟨Ao48, co48, eo48⟩ := Kd.N_slice HO130.out;subst eo48) | (go_at_call 26;(with_reducible refine (impl_OccsSame.calls k3 _ _ t123 _ _ t127 true _ ?side1 ?side2 ?side3 ?side4 A42.out).mono ?_);(case side1 => repeat (first | exact (Kd.N_reads' HO126.out).2.2 | (with_reducible refine Kd.C_alloc ?_ _) | (with_reducible refine Kd.C_drewN ?_ _) | (with_reducible refine Kd.C_drew ?_)));(case side2 => exact (Kd.N_reads' HO126.out).2.1);(case side3 => repeat (first | exact (Kd.N_reads' HO130.out).2.2 | (with_reducible refine Kd.C_alloc ?_ _) | (with_reducible refine Kd.C_drewN ?_ _) | (with_reducible refine Kd.C_drew ?_)));(case side4 => exact (Kd.N_reads' HO130.out).2.1);rintro e w49 ⟨rfl, hb⟩;replace HO_3 := Aside0.mk (Kd.N_below (by exact HO_3.out) hb);replace HO_6 := Aside0.mk (Kd.N_below (by exact HO_6.out) hb);replace HO126 := Aside0.mk (Kd.N_below (by exact HO126.out) hb);replace HO130 := Aside0.mk (Kd.N_below (by exact HO130.out) hb);replace HB := Aside0.mk (below_step (by exact HB.out) hb);(try clear hb);(try clear hb2);(try clear hk);(try clear hi)) | (go_at_call 29;(with_reducible refine (impl_OccsOk.calls k3 _ _ t106 t132 _ ?side1 ?side2 A44.out).mono ?_);(case side1 => repeat (first | exact (Kd.N_reads' HO_6.out).2.2 | (with_reducible refine Kd.C_alloc ?_ _) | (with_reducible refine Kd.C_drewN ?_ _) | (with_reducible refine Kd.C_drew ?_)));(case side2 => exact (Kd.N_reads' HO_6.out).2.1);rintro e w50 ⟨rfl, hb⟩;replace HO_3 := Aside0.mk (Kd.N_below (by exact HO_3.out) hb);replace HO_6 := Aside0.mk (Kd.N_below (by exact HO_6.out) hb);replace HO126 := Aside0.mk (Kd.N_below (by exact HO126.out) hb);replace HO130 := Aside0.mk (Kd.N_below (by exact HO130.out) hb);replace HB := Aside0.mk (below_step (by exact HB.out) hb);(try clear hb);(try clear hb2);(try clear hk);(try clear hi)))
                go_ret
                exact ⟨by first | rfl | (simp [errW_none, errW_some] <;> rfl) | (simp [*, errW_none, errW_some] <;> rfl), by repeat (first | (with_reducible first | exact HB.out | apply below_alloc | apply pw_below_drewN | apply below_drew1) | exact HB.out)⟩
               ·replace c43 := Bool.eq_false_iff.mpr c43
                subst c43
                have H1 : (some false) = some r := by rw [if_neg (show ¬ (false = true) by decide)] at H;exact H
                clear H
                have H := H1
                clear H1
                exact absurd (Option.some.inj H) (by rw [hT_.out];decide)
              ·replace c41 := Bool.eq_false_iff.mpr c41
               subst c41
               have H1 : ((impl_OccsOk.f k3 t106).bind fun t133 => (some t133)) = some r := by rw [if_neg (show ¬ (false = true) by decide)] at H;exact H
               clear H
               have H := H1
               clear H1
               replace H := Option.bind_eq_some_iff.mp H
               obtain ⟨t133, A510, H⟩ := H
               replace H : (some t133) = some r := H
               have A51 := Aside0.mk A510
               clear A510
               obtain rfl := Option.some.inj H
               go_wp2_with (first | ((with_reducible refine gate_callee (f := 61) rfl ?_);refine goesL_ (some 116) rfl rfl Try.func61 (by kernel_rfl) rfl #[.slice Ao32 t106.length co32, .int .i64 3, .int .i64 t105] rfl (by (try simp only [List.map_toArray, List.map_cons, List.map_nil]);first | done | rfl | (simp only [List.length_drop, List.length_take];rfl)) ?_;(with_reducible refine (impl_PlusOf.calls k3 _ _ t106 3 t105 t123 true _ ?side1 ?side2 A37.out).mono ?_);(case side1 => repeat (first | exact (Kd.N_reads' HO_6.out).2.2 | (with_reducible refine Kd.C_alloc ?_ _) | (with_reducible refine Kd.C_drewN ?_ _) | (with_reducible refine Kd.C_drew ?_)));(case side2 => exact (Kd.N_reads' HO_6.out).2.1);rintro e w52 ⟨v125, rfl, ho0, hb⟩;refine ⟨_, rfl, ?_⟩;have HO126 := Aside0.mk (Kd.N_lower (Kd.N_mono (ok' := fun k_ => some k_ ≠ (.slice Ao8 t101.length co8 : Value).ownBlock ∧ some k_ ≠ (.slice Ao32 t106.length co32 : Value).ownBlock) (Kd.S_N (Kd.S_bound ho0)) (fun k_ hk_ => ⟨(Kd.fresh' (Kd.N_lt (by exact HO_3.out)) k_ hk_.2.1), (Kd.fresh' (Kd.N_lt (by exact HO_6.out)) k_ hk_.2.1)⟩)) (below_size (by exact HB.out)));replace HO_3 := Aside0.mk (Kd.N_elder' (by exact HO_3.out) (by first | exact Kd.N_base ho0 | exact Kd.S_base ho0) hb);replace HO_6 := Aside0.mk (Kd.N_elder' (by exact HO_6.out) (by first | exact Kd.N_base ho0 | exact Kd.S_base ho0) hb);replace HB := Aside0.mk (below_step (by exact HB.out) hb);(try clear hb);(try clear hb2);(try clear hk);(try clear hi);(try clear ho0)) | ((with_reducible refine gate_callee (f := 61) rfl ?_);refine goesL_ (some 124) rfl rfl Try.func61 (by kernel_rfl) rfl #[.slice Ao8 t101.length co8, .int .i64 (wrap64 (t104 + 3)), .int .i64 t105] rfl (by (try simp only [List.map_toArray, List.map_cons, List.map_nil]);first | done | rfl | (simp only [List.length_drop, List.length_take];rfl)) ?_;(with_reducible refine (impl_PlusOf.calls k3 _ _ t101 (wrap64 (t104 + 3)) t105 t127 false _ ?side1 ?side2 A38.out).mono ?_);(case side1 => repeat (first | exact (Kd.N_reads' HO_3.out).2.2 | (with_reducible refine Kd.C_alloc ?_ _) | (with_reducible refine Kd.C_drewN ?_ _) | (with_reducible refine Kd.C_drew ?_)));(case side2 => exact (Kd.N_reads' HO_3.out).2.1);rintro e w53 ⟨v129, rfl, ho0, hb⟩;refine ⟨_, rfl, ?_⟩;have HO130 := Aside0.mk (Kd.N_lower (Kd.N_mono (ok' := fun k_ => some k_ ≠ (.slice Ao8 t101.length co8 : Value).ownBlock ∧ some k_ ≠ (.slice Ao32 t106.length co32 : Value).ownBlock ∧ some k_ ≠ (v125 : Value).ownBlock) (Kd.S_N (Kd.S_bound ho0)) (fun k_ hk_ => ⟨(Kd.fresh' (Kd.N_lt (by exact HO_3.out)) k_ hk_.2.1), (Kd.fresh' (Kd.N_lt (by exact HO_6.out)) k_ hk_.2.1), (Kd.fresh' (Kd.N_lt (by exact HO126.out)) k_ hk_.2.1)⟩)) (below_size (by exact HB.out)));replace HO_3 := Aside0.mk (Kd.N_elder' (by exact HO_3.out) (by first | exact Kd.N_base ho0 | exact Kd.S_base ho0) hb);replace HO_6 := Aside0.mk (Kd.N_elder' (by exact HO_6.out) (by first | exact Kd.N_base ho0 | exact Kd.S_base ho0) hb);replace HO126 := Aside0.mk (Kd.N_elder' (by exact HO126.out) (by first | exact Kd.N_base ho0 | exact Kd.S_base ho0) hb);replace HB := Aside0.mk (below_step (by exact HB.out) hb);(try clear hb);(try clear hb2);(try clear hk);(try clear hi);(try clear ho0)) | (go_at_call 29;(with_reducible refine (impl_OccsOk.calls k3 _ _ t106 t133 _ ?side1 ?side2 A51.out).mono ?_);(case side1 => repeat (first | exact (Kd.N_reads' HO_6.out).2.2 | (with_reducible refine Kd.C_alloc ?_ _) | (with_reducible refine Kd.C_drewN ?_ _) | (with_reducible refine Kd.C_drew ?_)));(case side2 => exact (Kd.N_reads' HO_6.out).2.1);rintro e w54 ⟨rfl, hb⟩;replace HO_3 := Aside0.mk (Kd.N_below (by exact HO_3.out) hb);replace HO_6 := Aside0.mk (Kd.N_below (by exact HO_6.out) hb);replace HO126 := Aside0.mk (Kd.N_below (by exact HO126.out) hb);replace HO130 := Aside0.mk (Kd.N_below (by exact HO130.out) hb);replace HB := Aside0.mk (below_step (by exact HB.out) hb);(try clear hb);(try clear hb2);(try clear hk);(try clear hi)))
               go_ret
               exact ⟨by first | rfl | (simp [errW_none, errW_some] <;> rfl) | (simp [*, errW_none, errW_some] <;> rfl), by repeat (first | (with_reducible first | exact HB.out | apply below_alloc | apply pw_below_drewN | apply below_drew1) | exact HB.out)⟩
             ·replace c40 := Bool.eq_false_iff.mpr c40
              subst c40
              have H1 : (some false) = some r := by rw [if_neg (show ¬ (false = true) by decide)] at H;exact H
              clear H
              have H := H1
              clear H1
              exact absurd (Option.some.inj H) (by rw [hT_.out];decide)
            ·rw [if_neg c39] at H
             have c39b0 : ((t106.length : Int) == x12_3) = false := beq_eq_false_iff_ne.mpr c39
             have c39b1 : ((t106.length : Int) != x12_3) = true := bne_iff_ne.mpr c39
             exact absurd (Option.some.inj H) (by rw [hT_.out];decide)
     ·replace c17 := Bool.eq_false_iff.mpr c17
      subst c17
      have H1 : (some ((t106.length : Int) == 0)) = some r := by rw [if_neg (show ¬ (false = true) by decide)] at H;exact H
      clear H
      have H := H1
      clear H1
      obtain rfl := Option.some.inj H
      obtain ⟨Ao55, co55, eo55⟩ := Kd.N_slice HO_6.out
      subst eo55
      go_wp2
      go_ret
      exact ⟨by first | rfl | (simp [errW_none, errW_some] <;> rfl) | (simp [*, errW_none, errW_some] <;> rfl), by repeat (first | (with_reducible first | exact HB.out | apply below_alloc | apply pw_below_drewN | apply below_drew1) | exact HB.out)⟩

end Go.Proofs.Ytiplpckgmikmeaa.M
namespace Go.Proofs.Ytiplpckgmikmeaa.M
set_option linter.unusedVariables false
set_option linter.unusedSimpArgs false
open Go.RowKit Go.Proofs.YtiplpckgmikmeaaW.PrintWords Go.Proofs.YtiplpckgmikmeaaW.PrintLast

theorem ofInt_small (a : Nat) (ha : a < 9223372036854775808) : (BitVec.ofInt 64 (a : Int)).toNat = a := by
  rw [BitVec.ofInt_natCast, BitVec.toNat_ofNat]; exact Nat.mod_eq_of_lt (by omega)
theorem xor_small (a b : Nat) (ha : a < 9223372036854775808) (hb : b < 9223372036854775808) : bits .xor .i64 (a : Int) (b : Int) = ((a ^^^ b : Nat) : Int) := by
  have hx : a ^^^ b < 2 ^ 63 := Nat.xor_lt_two_pow (by omega) (by omega)
  show IntKind.i64.wrap ((BitVec.ofInt 64 (a : Int) ^^^ BitVec.ofInt 64 (b : Int)).toNat : Int) = _
  rw [BitVec.toNat_xor, ofInt_small a ha, ofInt_small b hb, IntKind.wrap_i64]
  omega
theorem mix_small (x : Int) (h0 : 0 ≤ x) (h1 : x ≤ 1099511627776) : 0 ≤ bits .xor .i64 x (wrap64 (Int.tdiv x 64)) := by
  obtain ⟨n, rfl⟩ := Int.eq_ofNat_of_zero_le h0
  have : Int.tdiv (n : Int) 64 = ((n / 64 : Nat) : Int) := rfl
  rw [this, w_small (by omega) (by omega), xor_small n (n / 64) (by omega) (by omega)]
  exact Int.natCast_nonneg _

def Bytes (bs : List Int) : Prop := bs.length ≤ 2000 ∧ ∀ x ∈ bs, 0 ≤ x ∧ x ≤ 255
theorem bytes_of {l : List Int} (h : ∀ x ∈ l, (Lit.int .u8 x).wf = true) : ∀ x ∈ l, 0 ≤ x ∧ x ≤ 255 := by
  intro x hx
  have := h x hx
  simp only [Lit.wf, Bool.and_eq_true, decide_eq_true_eq] at this
  exact this
theorem Bytes.rdLe {bs : List Int} (h : Bytes bs) (i : Int) : 0 ≤ rd bs i ∧ rd bs i ≤ 255 := by
  unfold rd
  rw [List.getD_eq_getElem?_getD]
  rcases Nat.lt_or_ge i.toNat bs.length with hi | hi
  · rw [List.getElem?_eq_getElem hi]
    exact h.2 _ (List.getElem_mem hi)
  · rw [List.getElem?_eq_none hi]
    simp

theorem l14Open_is (l : List Int) (hl : l.length ≤ 9223372036854775807) : spec_l14Open.f l = some (l.take 2000, 0) := by
  unfold spec_l14Open.f
  by_cases h : (l.length : Int) > 2000
  · rw [if_pos h, if_pos (by omega)]
  · rw [if_neg h, List.take_of_length_le (by omega)]
theorem open_bytes {l : List Int} (h : ∀ x ∈ l, (Lit.int .u8 x).wf = true) : Bytes (l.take 2000) :=
  ⟨by rw [List.length_take]; omega, fun x hx => bytes_of h x (List.mem_of_mem_take hx)⟩

theorem tmod_lt (a n : Int) (h0 : 0 ≤ a) (h1 : 1 ≤ n) : 0 ≤ Int.tmod a n ∧ Int.tmod a n < n := by
  rw [Int.tmod_eq_emod_of_nonneg h0]
  exact ⟨Int.emod_nonneg _ (by omega), Int.emod_lt_of_pos _ (by omega)⟩

theorem pick_ev (bs : List Int) (hb : Bytes bs) (p n : Int) (h0 : 0 ≤ p) (h1 : p ≤ 1000000) : ∃ r, Ev (fun k => spec_l14Rd_pick.f k bs p n) (r, p + 1) ∧ 0 ≤ r ∧ (r < n ∨ n < 1 ∧ r = 0) := by
  have w1 : wrap64 (p + 1) = p + 1 := w_small (by omega) (by omega)
  by_cases hn : n < 1
  · refine ⟨0, ?_, by omega, .inr ⟨hn, rfl⟩⟩
    unfold spec_l14Rd_pick.f
    refine Ev.pos hn (Ev.last (fun k => ?_))
    simp only [spec_l14Rd_pick.j0]
    rw [if_pos trivial, w1]
  · by_cases he : (bs.length : Int) = 0
    · refine ⟨0, ?_, by omega, .inl (by omega)⟩
      unfold spec_l14Rd_pick.f
      refine Ev.neg hn (Ev.last (fun k => ?_))
      simp only [spec_l14Rd_pick.j0]
      rw [beq_iff_eq.2 he, if_pos rfl, w1]
    · have w2 : wrap64 (p + 1 - 1) = p := by rw [show p + 1 - 1 = p by omega]; exact w_small (by omega) (by omega)
      have hne : ((bs.length : Int) == 0) = false := beq_eq_false_iff_ne.2 he
      have hlen := hb.1
      by_cases hk : p < (bs.length : Int)
      · have hr := hb.rdLe p
        have hm := tmod_lt (rd bs p) n hr.1 (by omega)
        refine ⟨Int.tmod (rd bs p) n, ?_, hm.1, .inl hm.2⟩
        unfold spec_l14Rd_pick.f
        refine Ev.neg hn (Ev.last (fun k => ?_))
        simp only [spec_l14Rd_pick.j0]
        rw [hne, if_neg (by decide), w1, w2, if_pos hk, if_pos h0, if_neg (by omega), w_small (by omega) (by omega)]
      · have t1 := tmod_lt p (bs.length : Int) h0 (by omega)
        have w3 : wrap64 (p * 7) = p * 7 := w_small (by omega) (by omega)
        have w4 : wrap64 (p * 7 + 3) = p * 7 + 3 := w_small (by omega) (by omega)
        have t2 := tmod_lt (p * 7 + 3) (bs.length : Int) (by omega) (by omega)
        have r1 := hb.rdLe (Int.tmod p (bs.length : Int))
        have r2 := hb.rdLe (Int.tmod (p * 7 + 3) (bs.length : Int))
        have hd : 0 ≤ Int.tdiv p (bs.length : Int) ∧ Int.tdiv p (bs.length : Int) ≤ p := by
          rw [Int.tdiv_eq_ediv_of_nonneg h0]
          exact ⟨Int.ediv_nonneg h0 (by omega), Int.ediv_le_self _ h0⟩
        have w5 : wrap64 (Int.tdiv p (bs.length : Int)) = Int.tdiv p (bs.length : Int) := w_small (by omega) (by omega)
        generalize hq : Int.tdiv p (bs.length : Int) = q at *
        generalize ha : rd bs (Int.tmod p (bs.length : Int)) = a at *
        generalize hb' : rd bs (Int.tmod (p * 7 + 3) (bs.length : Int)) = b at *
        have x1 : wrap64 a = a := w_small (by omega) (by omega)
        have x2 : wrap64 b = b := w_small (by omega) (by omega)
        have x3 : wrap64 (a * 131) = a * 131 := w_small (by omega) (by omega)
        have x4 : wrap64 (b * 1117) = b * 1117 := w_small (by omega) (by omega)
        have x5 : wrap64 (a * 131 + b * 1117) = a * 131 + b * 1117 := w_small (by omega) (by omega)
        have x6 : wrap64 (p * 29) = p * 29 := w_small (by omega) (by omega)
        have x7 : wrap64 (a * 131 + b * 1117 + p * 29) = a * 131 + b * 1117 + p * 29 := w_small (by omega) (by omega)
        have x8 : wrap64 (q * 53) = q * 53 := w_small (by omega) (by omega)
        have x9 : wrap64 (a * 131 + b * 1117 + p * 29 + q * 53) = a * 131 + b * 1117 + p * 29 + q * 53 := w_small (by omega) (by omega)
        have hx := mix_small (a * 131 + b * 1117 + p * 29 + q * 53) (by omega) (by omega)
        generalize hX : bits .xor .i64 (a * 131 + b * 1117 + p * 29 + q * 53) (wrap64 (Int.tdiv (a * 131 + b * 1117 + p * 29 + q * 53) 64)) = X at *
        have hm := tmod_lt X n hx (by omega)
        refine ⟨Int.tmod X n, ?_, hm.1, .inl hm.2⟩
        unfold spec_l14Rd_pick.f
        refine Ev.neg hn (Ev.last (fun k => ?_))
        simp only [spec_l14Rd_pick.j0]
        rw [hne, if_neg (by decide), w1, w2, if_neg hk, if_neg he, if_pos t1.1, if_pos t1.2, w3, w4, if_pos t2.1, if_pos t2.2, if_neg (by omega), hq, ha, hb', w5, x1, x2, x3, x4, x5, x6, x7, x8, x9, hX]

theorem num_ev (bs : List Int) (hb : Bytes bs) (p : Int) (l : List Int) (hl : l ≠ []) (hm : l.length ≤ 1000000) (h0 : 0 ≤ p) (h1 : p ≤ 1000000) : ∃ r, Ev (fun k => spec_l14Rd_num.f k bs p l) (r, p + 1) ∧ r ∈ l := by
  obtain ⟨r, hr, h2, h3⟩ := pick_ev bs hb p (l.length : Int) h0 h1
  have hpos : 0 < l.length := List.length_pos_iff.2 hl
  have hlt : r < (l.length : Int) := by omega
  refine ⟨rd l r, ?_, ?_⟩
  · unfold spec_l14Rd_num.f
    exact Ev.bind hr (Ev.pos h2 (Ev.pos hlt (Ev.now _)))
  · unfold rd
    rw [List.getD_eq_getElem?_getD, List.getElem?_eq_getElem (show r.toNat < l.length by omega)]
    exact List.getElem_mem _
end Go.Proofs.Ytiplpckgmikmeaa.M
namespace Go.Proofs.Ytiplpckgmikmeaa.M
set_option linter.unusedVariables false
set_option linter.unusedSimpArgs false
open Go.RowKit Go.Proofs.YtiplpckgmikmeaaW.PrintWords Go.Proofs.YtiplpckgmikmeaaW.PrintLast

theorem impl_in_is (a b c : Int) : impl_in.f a b c = some (decide (b ≤ a) && decide (a ≤ c)) := by
  unfold impl_in.f
  by_cases h : b ≤ a
  · rw [if_pos h]; simp [h]
  · rw [if_neg h]; simp [h]

def cmpI : List Int → List Int → Int
  | [], [] => 0
  | [], _ :: _ => -1
  | _ :: _, [] => 1
  | a :: xs, b :: ys => if a < b then -1 else if a > b then 1 else cmpI xs ys
def sgn (b : Bool) : Int := if b then -1 else 1
def cmpO (a b : S27) : Int := if a.f1 = b.f1 then (if a.f0 = b.f0 then cmpI a.f2 b.f2 else sgn (decide (a.f0 < b.f0))) else sgn (decide (a.f1 < b.f1))
def lessO (a b : S27) : Bool := decide (cmpO a b < 0)

theorem l3Ids_l0_ev (a b : List Int) (ha : a.length ≤ 9223372036854775806) (hb : b.length ≤ 9223372036854775806) : ∀ d n : Nat, n + d = a.length → n ≤ b.length → Ev (fun k => spec_l3Ids.l0 k a b (n : Int)) (cmpI (a.drop n) (b.drop n)) := by
  intro d
  have ends : ∀ (n : Nat), n ≤ a.length → n ≤ b.length → (n = a.length ∨ n = b.length) → Ev (fun k => spec_l3Ids.j1 k a b (n : Int) false) (cmpI (a.drop n) (b.drop n)) := by
    intro n h1 h2 h3
    refine Ev.last (fun k => ?_)
    simp only [spec_l3Ids.j1]
    rw [if_neg (by decide)]
    rcases Nat.lt_or_ge n a.length with ha' | ha'
    · have hbn : n = b.length := by omega
      rw [if_neg (by omega), if_pos (by omega), List.drop_eq_getElem_cons ha', List.drop_of_length_le (show b.length ≤ n by omega)]
      rfl
    · rw [List.drop_of_length_le ha']
      rcases Nat.lt_or_ge n b.length with hb' | hb'
      · rw [if_pos (by omega), List.drop_eq_getElem_cons hb']
        rfl
      · rw [if_neg (by omega), if_neg (by omega), List.drop_of_length_le hb']
        rfl
  induction d with
  | zero =>
    intro n hn hb'
    refine Ev.step (fun k => by simp only [spec_l3Ids.l0]; rw [if_neg (by omega)]) ?_
    exact ends n (by omega) hb' (by omega)
  | succ d ih =>
    intro n hn hb'
    refine Ev.step (fun k => by simp only [spec_l3Ids.l0]; rw [if_pos (by omega)]) ?_
    rcases Nat.lt_or_ge n b.length with hlt | hge
    · rw [decide_eq_true (show (n : Int) < (b.length : Int) by omega)]
      refine Ev.step (fun k => by simp only [spec_l3Ids.j1]; rw [if_pos trivial, if_pos (by omega), if_pos (by omega), if_pos (by omega), w_succ (by omega)]) ?_
      rw [drop_at a 0 n (by omega), drop_at b 0 n (by omega)]
      have next := ih (n + 1) (by omega) (by omega)
      have ra : rd a (n : Int) = a.getD n 0 := rfl
      have rb : rd b (n : Int) = b.getD n 0 := rfl
      rw [ra, rb]
      generalize a.getD n 0 = x at *
      generalize b.getD n 0 = y at *
      unfold cmpI
      by_cases h1 : x < y
      · rw [if_pos h1]
        exact Ev.pos h1 (Ev.now _)
      · rw [if_neg h1]
        refine Ev.neg h1 ?_
        by_cases h2 : x > y
        · rw [if_pos h2]
          exact Ev.pos h2 (Ev.now _)
        · rw [if_neg h2]
          exact Ev.neg h2 next
    · rw [decide_eq_false (show ¬ (n : Int) < (b.length : Int) by omega)]
      exact ends n (by omega) hb' (by omega)
theorem l3Ids_ev (a b : List Int) (ha : a.length ≤ 9223372036854775806) (hb : b.length ≤ 9223372036854775806) : Ev (fun k => spec_l3Ids.f k a b) (cmpI a b) := by
  unfold spec_l3Ids.f
  exact l3Ids_l0_ev a b ha hb a.length 0 (by omega) (by omega)

theorem spec_OccLess_ev (a b : S27) (ha : a.f2.length ≤ 9223372036854775806) (hb : b.f2.length ≤ 9223372036854775806) : Ev (fun k => spec_OccLess.f k a.f0 a.f1 a.f2 b.f0 b.f1 b.f2) (lessO a b) := by
  unfold spec_OccLess.f lessO cmpO
  by_cases h1 : a.f1 = b.f1
  · rw [if_pos h1]
    refine Ev.pos h1 ?_
    by_cases h2 : a.f0 = b.f0
    · rw [if_pos h2]
      exact Ev.pos h2 (Ev.bindS (l3Ids_ev _ _ ha hb) rfl)
    · rw [if_neg h2]
      refine Ev.neg h2 (Ev.one (fun _ => ?_))
      by_cases h3 : a.f0 < b.f0 <;> simp [h3, sgn]
  · rw [if_neg h1]
    refine Ev.neg h1 (Ev.one (fun _ => ?_))
    by_cases h3 : a.f1 < b.f1 <;> simp [h3, sgn]

def idsGo : Int → List Int → Bool
  | _, [] => true
  | p, x :: xs => decide (p < x) && decide (x < 24) && idsGo x xs
theorem idsGo_len : ∀ (l : List Int) (p : Int), idsGo p l = true → p ≤ 23 → (l.length : Int) + p ≤ 23
  | [], p, _, hp => by simp; exact hp
  | x :: xs, p, h, _ => by
    unfold idsGo at h
    simp only [Bool.and_eq_true, decide_eq_true_eq] at h
    have := idsGo_len xs x h.2 (by omega)
    rw [List.length_cons]
    omega
def occOkB (o : S27) : Bool := decide (1 ≤ o.f0) && decide (o.f0 ≤ o.f1) && decide (o.f1 ≤ 2000) && decide (1 ≤ o.f2.length) && idsGo (-1) o.f2
def idPrev (l : List Int) (n : Nat) : Int := if n = 0 then -1 else l.getD (n - 1) 0
theorem idPrev_succ (l : List Int) (n : Nat) : idPrev l (n + 1) = l.getD n 0 := by simp [idPrev]

theorem spec_OccOk_l0_ev (a b : Int) (l : List Int) (hl : l.length ≤ 9223372036854775806) : ∀ d n : Nat, n + d = l.length → -1 ≤ idPrev l n → Ev (fun k => spec_OccOk.l0 k (n : Int) a b l) (idsGo (idPrev l n) (l.drop n)) := by
  intro d
  induction d with
  | zero =>
    intro n hn hp
    rw [List.drop_of_length_le (by omega)]
    exact Ev.last (fun k => by simp only [spec_OccOk.l0]; rw [if_neg (by omega)]; rfl)
  | succ d ih =>
    intro n hn hp
    have hrd : rd l (n : Int) = l.getD n 0 := rfl
    rw [drop_at l 0 n (by omega)]
    refine Ev.step (fun k => by simp only [spec_OccOk.l0]; rw [if_pos (by omega), if_pos (by omega), w_succ (by omega), hrd]) ?_
    have next := ih (n + 1) (by omega)
    rw [idPrev_succ] at next
    generalize l.getD n 0 = x at *
    unfold idsGo
    by_cases h0 : x < 0
    · rw [decide_eq_false (show ¬ idPrev l n < x by omega)]
      exact Ev.pos h0 (Ev.now _)
    · refine Ev.neg h0 ?_
      by_cases h1 : x ≥ 24
      · rw [decide_eq_false (show ¬ x < 24 by omega), Bool.and_false]
        exact Ev.pos h1 (Ev.now _)
      · refine Ev.neg h1 ?_
        rw [decide_eq_true (show x < 24 by omega), Bool.and_true]
        rcases Nat.eq_zero_or_pos n with hz | hpos
        · subst hz
          rw [show idPrev l 0 = -1 from rfl, decide_eq_true (show (-1 : Int) < x by omega)]
          exact Ev.neg (by omega) (next (by omega))
        · obtain ⟨m, rfl⟩ : ∃ m, n = m + 1 := ⟨n - 1, by omega⟩
          have hw : wrap64 (((m + 1 : Nat) : Int) - 1) = (m : Int) := by rw [w_small (by omega) (by omega)]; omega
          refine Ev.pos (by omega) ?_
          rw [hw]
          refine Ev.pos (by omega) (Ev.pos (by omega) ?_)
          have hr2 : rd l (m : Int) = l.getD m 0 := rfl
          rw [hr2, idPrev_succ]
          by_cases hc : x ≤ l.getD m 0
          · rw [decide_eq_false (show ¬ l.getD m 0 < x by omega)]
            exact Ev.pos hc (Ev.now _)
          · rw [decide_eq_true (show l.getD m 0 < x by omega)]
            exact Ev.neg hc (next (by omega))

theorem spec_OccOk_ev (o : S27) (hl : o.f2.length ≤ 9223372036854775806) : Ev (fun k => spec_OccOk.f k o.f0 o.f1 o.f2) (occOkB o) := by
  have bad : ∀ b : Bool, b = true → Ev (fun k => spec_OccOk.j0 k b o.f0 o.f1 o.f2) false := by
    intro b hb
    subst hb
    exact Ev.last (fun k => by simp only [spec_OccOk.j0]; rw [if_pos trivial])
  unfold spec_OccOk.f occOkB
  by_cases h0 : o.f0 < 1
  · rw [decide_eq_false (show ¬ 1 ≤ o.f0 by omega)]
    exact Ev.pos h0 (bad _ rfl)
  · rw [decide_eq_true (show 1 ≤ o.f0 by omega)]
    refine Ev.neg h0 ?_
    by_cases h1 : o.f1 < o.f0
    · rw [decide_eq_false (show ¬ o.f0 ≤ o.f1 by omega)]
      exact Ev.pos h1 (bad _ rfl)
    · rw [decide_eq_true (show o.f0 ≤ o.f1 by omega)]
      refine Ev.neg h1 ?_
      by_cases h2 : o.f1 > 2000
      · rw [decide_eq_false (show ¬ o.f1 ≤ 2000 by omega)]
        exact Ev.pos h2 (bad _ rfl)
      · rw [decide_eq_true (show o.f1 ≤ 2000 by omega)]
        refine Ev.neg h2 ?_
        by_cases h3 : (o.f2.length : Int) < 1
        · rw [decide_eq_false (show ¬ 1 ≤ o.f2.length by omega)]
          exact Ev.pos h3 (bad _ rfl)
        · rw [decide_eq_true (show 1 ≤ o.f2.length by omega)]
          refine Ev.neg h3 ?_
          by_cases h4 : (o.f2.length : Int) > 24
          · have : idsGo (-1) o.f2 = false := by
              rw [Bool.eq_false_iff]
              intro e
              have := idsGo_len o.f2 (-1) e (by omega)
              omega
            rw [this]
            exact bad _ (decide_eq_true h4)
          · rw [decide_eq_false h4]
            refine Ev.step (fun k => by simp only [spec_OccOk.j0]; rfl) ?_
            exact Ev.neg (by decide) (spec_OccOk_l0_ev o.f0 o.f1 o.f2 hl o.f2.length 0 (by omega) (by simp [idPrev]))

theorem impl_OccOk_l0_ev (o : S27) (l : List Int) (hl : l.length ≤ 9223372036854775806) : ∀ (d n : Nat) (p : Int), n + d = l.length → -1 ≤ p → p ≤ 23 → Ev (fun k => impl_OccOk.l0 k p l (l.length : Int) (n : Int) o.f0 o.f1 o.f2) (idsGo p (l.drop n) && (decide (1 ≤ o.f0) && (decide (o.f0 ≤ o.f1) && decide (o.f1 ≤ 2000) && decide (1 ≤ o.f2.length)))) := by
  intro d
  induction d with
  | zero =>
    intro n p hn h0 h1
    rw [List.drop_of_length_le (by omega), idsGo, Bool.true_and]
    refine Ev.last (fun k => ?_)
    simp only [impl_OccOk.l0, impl_in_is]
    rw [if_neg (by omega)]
    by_cases a : 1 ≤ o.f0
    · rw [if_pos a, decide_eq_true a]
      simp only [Option.bind_some]
      by_cases b : (decide (o.f0 ≤ o.f1) && decide (o.f1 ≤ 2000)) = true
      · rw [if_pos b, b]
        have e : ((o.f2.length : Int) ≥ 1) = (1 ≤ o.f2.length) := by rw [eq_iff_iff]; omega
        simp only [e, Bool.true_and]
      · rw [if_neg b]
        simp only [Bool.not_eq_true] at b
        rw [b]
        rfl
    · rw [if_neg a, decide_eq_false a]
      rfl
  | succ d ih =>
    intro n p hn h0 h1
    have hrd : rd l (n : Int) = l.getD n 0 := rfl
    rw [drop_at l 0 n (by omega)]
    have w1 : wrap64 (p + 1) = p + 1 := w_small (by omega) (by omega)
    refine Ev.step (fun k => by simp only [impl_OccOk.l0]; rw [if_pos (by omega), if_pos (by omega), if_pos (by omega), w_succ (by omega), hrd, w1, impl_in_is, Option.bind_some]) ?_
    have next := ih (n + 1) (l.getD n 0) (by omega)
    generalize l.getD n 0 = x at *
    unfold idsGo
    by_cases hc : p + 1 ≤ x ∧ x ≤ 23
    · rw [decide_eq_true (show p < x by omega), decide_eq_true (show x < 24 by omega), decide_eq_true hc.1, decide_eq_true hc.2]
      exact Ev.pos rfl (next (by omega) (by omega))
    · have e1 : (decide (p + 1 ≤ x) && decide (x ≤ 23)) = false := by
        rw [Bool.eq_false_iff]
        simp only [ne_eq, Bool.and_eq_true, decide_eq_true_eq]
        exact hc
      have e2 : (decide (p < x) && decide (x < 24)) = false := by
        rw [Bool.eq_false_iff]
        simp only [ne_eq, Bool.and_eq_true, decide_eq_true_eq]
        omega
      rw [e1, e2]
      exact Ev.neg (by decide) (Ev.now _)
theorem impl_OccOk_ev (o : S27) (hl : o.f2.length ≤ 9223372036854775806) : Ev (fun k => impl_OccOk.f k o.f0 o.f1 o.f2) (occOkB o) := by
  unfold impl_OccOk.f
  refine Ev.val (impl_OccOk_l0_ev o o.f2 hl o.f2.length 0 (-1) (by omega) (by omega) (by omega)) ?_
  rw [List.drop_zero, occOkB, Bool.and_comm]
  simp only [Bool.and_assoc]

theorem cmp_Compare_is (a b : Int) : cmp_Compare_int.f a b = some (if a < b then -1 else if a > b then 1 else 0) := by
  unfold cmp_Compare_int.f cmp_isNaN_int.f
  simp only [Option.bind_some, bne_self_eq_false]
  rw [if_neg (by decide), if_neg (by decide)]
  by_cases h : a < b
  · rw [if_pos h, if_pos h]
  · rw [if_neg h, if_neg h]
    by_cases h2 : a > b
    · rw [if_pos h2, if_pos h2]
    · rw [if_neg h2, if_neg h2]
theorem impl_Compare_l0_ev (a b : List Int) (ha : a.length ≤ 9223372036854775806) (hb : b.length ≤ 9223372036854775806) : ∀ d n : Nat, n + d = a.length → n ≤ b.length → Ev (fun k => slices_Compare_int_int.l0 k a b a (a.length : Int) (n : Int)) (cmpI (a.drop n) (b.drop n)) := by
  intro d
  induction d with
  | zero =>
    intro n hn hb'
    refine Ev.last (fun k => ?_)
    simp only [slices_Compare_int_int.l0]
    rw [if_neg (by omega), List.drop_of_length_le (show a.length ≤ n by omega)]
    rcases Nat.lt_or_ge n b.length with hlt | hge
    · rw [if_pos (by omega), List.drop_eq_getElem_cons hlt]
      rfl
    · rw [if_neg (by omega), List.drop_of_length_le hge]
      rfl
  | succ d ih =>
    intro n hn hb'
    have ra : rd a (n : Int) = a.getD n 0 := rfl
    have rb : rd b (n : Int) = b.getD n 0 := rfl
    refine Ev.step (fun k => by simp only [slices_Compare_int_int.l0]; rw [if_pos (by omega), if_pos (by omega), if_pos (by omega), w_succ (by omega), ra, rb, cmp_Compare_is]) ?_
    rcases Nat.lt_or_ge n b.length with hlt | hge
    · refine Ev.neg (by omega) (Ev.pos (by omega) ?_)
      rw [drop_at a 0 n (by omega), drop_at b 0 n (by omega)]
      have next := ih (n + 1) (by omega) (by omega)
      generalize a.getD n 0 = x at *
      generalize b.getD n 0 = y at *
      refine Ev.bind (Ev.now _) ?_
      unfold cmpI
      by_cases h1 : x < y
      · rw [if_pos h1, if_pos h1]
        exact Ev.neg (by decide) (Ev.now _)
      · rw [if_neg h1, if_neg h1]
        by_cases h2 : x > y
        · rw [if_pos h2, if_pos h2]
          exact Ev.neg (by decide) (Ev.now _)
        · rw [if_neg h2, if_neg h2]
          exact Ev.pos rfl next
    · refine Ev.pos (by omega) ?_
      rw [drop_at a 0 n (by omega), List.drop_of_length_le hge]
      exact Ev.now _
theorem impl_compare_ev (a b : S27) (ha : a.f2.length ≤ 9223372036854775806) (hb : b.f2.length ≤ 9223372036854775806) : Ev (fun k => impl_compare.f k a.f0 a.f1 a.f2 b.f0 b.f1 b.f2) (cmpO a b) := by
  unfold impl_compare.f cmpO impl_sign.f
  by_cases h1 : a.f1 = b.f1
  · rw [if_pos h1]
    refine Ev.pos h1 ?_
    by_cases h2 : a.f0 = b.f0
    · rw [if_pos h2]
      exact Ev.pos h2 (Ev.bindS (impl_Compare_l0_ev a.f2 b.f2 ha hb a.f2.length 0 (by omega) (by omega)) rfl)
    · rw [if_neg h2]
      refine Ev.neg h2 (Ev.one (fun _ => ?_))
      by_cases h3 : a.f0 < b.f0 <;> simp [h3, sgn]
  · rw [if_neg h1]
    refine Ev.neg h1 (Ev.one (fun _ => ?_))
    by_cases h3 : a.f1 < b.f1 <;> simp [h3, sgn]
theorem impl_OccLess_ev (a b : S27) (ha : a.f2.length ≤ 9223372036854775806) (hb : b.f2.length ≤ 9223372036854775806) : Ev (fun k => impl_OccLess.f k a.f0 a.f1 a.f2 b.f0 b.f1 b.f2) (lessO a b) := by
  unfold impl_OccLess.f
  exact Ev.bindS (impl_compare_ev a b ha hb) rfl

def occsGo : Option S27 → List S27 → Bool
  | _, [] => true
  | none, x :: xs => occOkB x && occsGo (some x) xs
  | some p, x :: xs => occOkB x && (lessO p x && occsGo (some x) xs)
def occsOkB (l : List S27) : Bool := occsGo none l && decide (l.length ≤ 40)
def occPrev (l : List S27) (n : Nat) : Option S27 := if n = 0 then none else some (l.getD (n - 1) z27)
def Short (l : List S27) : Prop := ∀ x ∈ l, x.f2.length ≤ 9223372036854775806
theorem Short.at_ {l : List S27} (h : Short l) (n : Nat) : (l.getD n z27).f2.length ≤ 9223372036854775806 := by
  rw [List.getD_eq_getElem?_getD]
  rcases Nat.lt_or_ge n l.length with hn | hn
  · rw [List.getElem?_eq_getElem hn]
    exact h _ (List.getElem_mem hn)
  · rw [List.getElem?_eq_none hn]
    show (z27).f2.length ≤ _
    simp [z27]
theorem occPrev_succ (l : List S27) (n : Nat) : occPrev l (n + 1) = some (l.getD n z27) := by simp [occPrev]

theorem spec_OccsOk_l0_ev (l : List S27) (hl : l.length ≤ 9223372036854775806) (hs : Short l) : ∀ d n : Nat, n + d = l.length → Ev (fun k => spec_OccsOk.l0 k l (n : Int)) (occsGo (occPrev l n) (l.drop n)) := by
  intro d
  induction d with
  | zero =>
    intro n hn
    rw [List.drop_of_length_le (by omega)]
    exact Ev.last (fun k => by simp only [spec_OccsOk.l0]; rw [if_neg (by omega)]; cases occPrev l n <;> rfl)
  | succ d ih =>
    intro n hn
    have hrd : rd_T27 l (n : Int) = l.getD n z27 := rfl
    have hx := hs.at_ n
    rw [drop_at l z27 n (by omega)]
    refine Ev.step (fun k => by simp only [spec_OccsOk.l0]; rw [if_pos (by omega), if_pos (by omega), w_succ (by omega), hrd]) ?_
    have next := ih (n + 1) (by omega)
    rw [occPrev_succ] at next
    generalize l.getD n z27 = x at *
    refine Ev.bind (spec_OccOk_ev x hx) ?_
    rcases Nat.eq_zero_or_pos n with hz | hpos
    · subst hz
      rw [show occPrev l 0 = none from rfl, occsGo]
      by_cases hk : occOkB x = true
      · rw [hk]
        exact Ev.pos rfl (Ev.neg (by omega) next)
      · refine Ev.neg hk ?_
        simp only [Bool.not_eq_true] at hk
        rw [hk]
        exact Ev.now _
    · obtain ⟨m, rfl⟩ : ∃ m, n = m + 1 := ⟨n - 1, by omega⟩
      have hw : wrap64 (((m + 1 : Nat) : Int) - 1) = (m : Int) := by rw [w_small (by omega) (by omega)]; omega
      have hr2 : rd_T27 l (m : Int) = l.getD m z27 := rfl
      rw [occPrev_succ, occsGo, hw, hr2]
      by_cases hk : occOkB x = true
      · rw [hk]
        refine Ev.pos rfl (Ev.pos (by omega) (Ev.pos (by omega) (Ev.pos (by omega) (Ev.bind (spec_OccLess_ev _ x (hs.at_ m) hx) ?_))))
        by_cases hls : lessO (l.getD m z27) x = true
        · rw [hls]
          exact Ev.pos rfl next
        · refine Ev.neg hls ?_
          simp only [Bool.not_eq_true] at hls
          rw [hls]
          exact Ev.now _
      · refine Ev.neg hk ?_
        simp only [Bool.not_eq_true] at hk
        rw [hk]
        exact Ev.now _
theorem spec_OccsOk_ev (l : List S27) (hl : l.length ≤ 9223372036854775806) (hs : Short l) : Ev (fun k => spec_OccsOk.f k l) (occsOkB l) := by
  unfold spec_OccsOk.f occsOkB
  by_cases h : (l.length : Int) > 40
  · refine Ev.pos h ?_
    rw [decide_eq_false (by omega), Bool.and_false]
    exact Ev.now _
  · refine Ev.neg h ?_
    rw [decide_eq_true (by omega), Bool.and_true]
    exact spec_OccsOk_l0_ev l hl hs l.length 0 (by omega)

theorem impl_OccsOk_l0_ev (l : List S27) (hl : l.length ≤ 9223372036854775806) (hs : Short l) : ∀ d n : Nat, n + d = l.length → Ev (fun k => impl_OccsOk.l0 k l l (l.length : Int) (n : Int)) (occsGo (occPrev l n) (l.drop n) && decide (l.length ≤ 40)) := by
  intro d
  induction d with
  | zero =>
    intro n hn
    rw [List.drop_of_length_le (by omega)]
    refine Ev.last (fun k => ?_)
    simp only [impl_OccsOk.l0]
    rw [if_neg (by omega)]
    have e : ((l.length : Int) ≤ 40) = (l.length ≤ 40) := by rw [eq_iff_iff]; omega
    simp only [e]
    cases occPrev l n <;> rfl
  | succ d ih =>
    intro n hn
    have hrd : rd_T27 l (n : Int) = l.getD n z27 := rfl
    have hx := hs.at_ n
    rw [drop_at l z27 n (by omega)]
    refine Ev.step (fun k => by simp only [impl_OccsOk.l0]; rw [if_pos (by omega), if_pos (by omega), if_pos (by omega), w_succ (by omega), hrd]) ?_
    have next := ih (n + 1) (by omega)
    rw [occPrev_succ] at next
    generalize l.getD n z27 = x at *
    refine Ev.bind (impl_OccOk_ev x hx) ?_
    rcases Nat.eq_zero_or_pos n with hz | hpos
    · subst hz
      rw [show occPrev l 0 = none from rfl, occsGo]
      by_cases hk : occOkB x = true
      · rw [hk]
        exact Ev.pos rfl (Ev.neg (by omega) next)
      · refine Ev.neg hk ?_
        simp only [Bool.not_eq_true] at hk
        rw [hk]
        exact Ev.now _
    · obtain ⟨m, rfl⟩ : ∃ m, n = m + 1 := ⟨n - 1, by omega⟩
      have hw : wrap64 (((m + 1 : Nat) : Int) - 1) = (m : Int) := by rw [w_small (by omega) (by omega)]; omega
      have hr2 : rd_T27 l (m : Int) = l.getD m z27 := rfl
      rw [occPrev_succ, occsGo, hw, hr2]
      by_cases hk : occOkB x = true
      · rw [hk]
        refine Ev.pos rfl (Ev.pos (by omega) (Ev.pos (by omega) (Ev.pos (by omega) (Ev.bind (impl_OccLess_ev _ x (hs.at_ m) hx) ?_))))
        by_cases hls : lessO (l.getD m z27) x = true
        · rw [hls]
          exact Ev.pos rfl next
        · refine Ev.neg hls ?_
          simp only [Bool.not_eq_true] at hls
          rw [hls]
          exact Ev.now _
      · refine Ev.neg hk ?_
        simp only [Bool.not_eq_true] at hk
        rw [hk]
        exact Ev.now _
theorem impl_OccsOk_ev (l : List S27) (hl : l.length ≤ 9223372036854775806) (hs : Short l) : Ev (fun k => impl_OccsOk.f k l) (occsOkB l) := impl_OccsOk_l0_ev l hl hs l.length 0 (by omega)
end Go.Proofs.Ytiplpckgmikmeaa.M
namespace Go.Proofs.Ytiplpckgmikmeaa.M
open Go.RowKit Go.Proofs.YtiplpckgmikmeaaW.PrintWords Go.Proofs.YtiplpckgmikmeaaW.PrintLast Go.Proofs.YtiplpckgmikmeaaW.PrintMore
attribute [local go_sem] max2_int min2_int max_two min_two max_three min_three max_four min_four
set_option linter.unusedVariables false
set_option linter.unusedSimpArgs false

def laws_szIntS.f (l0 : List Int) (a1 : Int) : Option (Int) := if (wrap64 (a1 - (l0.length : Int))) < 0 then (some (-1)) else (some (wrap64 (a1 - (l0.length : Int))))
set_option maxHeartbeats 8000000 in
set_option maxRecDepth 100000 in
theorem laws_szIntS.calls (A0 : Option Addr) (c0 : Nat) (l0 : List Int) (a1 : Int) (r : Int) (w : World) (hr0 : Kd.C (Kd.int .i64) w A0 l0.length l0) (hc0 : l0.length ≤ c0) (h : laws_szIntS.f l0 a1 = some r) :
  Calls Try.prog 64 #[.slice A0 l0.length c0, .int .i64 a1] w fun e w' => e = .returned (.int .i64 r) ∧ Drawn0 w w' := by
 have HR0 := Aside0.mk hr0
 have HC0 := Aside0.mk hc0
 clear hr0 hc0
 have H : (if (wrap64 (a1 - (l0.length : Int))) < 0 then (some (-1)) else (some (wrap64 (a1 - (l0.length : Int))))) = some r := h
 clear h
 by_cases c3 : (wrap64 (a1 - (l0.length : Int))) < 0
 ·rw [if_pos c3] at H
  have c3b0 : decide ((wrap64 (a1 - (l0.length : Int))) < 0) = true := decide_eq_true c3
  clear c3
  obtain rfl := Option.some.inj H
  go_enter Try.func64, Try.ntmps64
  go_wp2
  go_ret
  exact ⟨by first | rfl | (simp;done) | (simp [*];done), by repeat (first | exact Drawn0.refl _ | apply Drawn0.step)⟩
 ·rw [if_neg c3] at H
  have c3b0 : decide ((wrap64 (a1 - (l0.length : Int))) < 0) = false := decide_eq_false c3
  clear c3
  obtain rfl := Option.some.inj H
  go_enter Try.func64, Try.ntmps64
  go_wp2
  go_ret
  exact ⟨by first | rfl | (simp;done) | (simp [*];done), by repeat (first | exact Drawn0.refl _ | apply Drawn0.step)⟩

end Go.Proofs.Ytiplpckgmikmeaa.M
namespace Go.Proofs.Ytiplpckgmikmeaa.M
open Go.RowKit Go.Proofs.YtiplpckgmikmeaaW.PrintWords Go.Proofs.YtiplpckgmikmeaaW.PrintLast Go.Proofs.YtiplpckgmikmeaaW.PrintMore
attribute [local go_sem] max2_int min2_int max_two min_two max_three min_three max_four min_four
set_option linter.unusedVariables false
set_option linter.unusedSimpArgs false

def laws_toIntS.l0 : Nat → List Int → List Int → Int → Option (List Int)
 | 0, _, _, _ => none
 | k + 1, x0, x3, x4 => if x4 < (x0.length : Int) then (if 0 ≤ x4 then (if x4 < (x3.length : Int) then (laws_toIntS.l0 k x0 (x3.set (x4 : Int).toNat (rd x0 x4)) (wrap64 (x4 + 1))) else (none)) else (none)) else (some x3)
def laws_toIntS.f (k : Nat) (l0 : List Int) : Option (List Int) := if 0 ≤ (l0.length : Int) then (if ((l0.length : Int) : Int).toNat ≤ 35184372088832 then (laws_toIntS.l0 k l0 (List.replicate ((l0.length : Int) : Int).toNat 0) 0) else (none)) else (none)
theorem laws_toIntS.mono_l : ∀ k, (∀ y0 y1 y2, LeO (laws_toIntS.l0 k y0 y1 y2) (laws_toIntS.l0 (k + 1) y0 y1 y2))
 | 0 => fun _ _ _ r h => by simp [laws_toIntS.l0] at h
 | k + 1 => by
  have ih0 := laws_toIntS.mono_l k
  ·intro y0 y1 y2
   unfold laws_toIntS.l0
   repeat' first
   | (with_reducible exact ih0 _ _ _)
   | (with_reducible exact LeO.refl _)
   | (with_reducible exact LeO.none _)
   | (with_reducible refine LeO.ite ?_ ?_)
   | (with_reducible refine LeO.bind ?_ (fun _ => ?_))
   | exact ih0 _ _ _
   | exact LeO.none _
   | refine LeO.ite ?_ ?_
   | refine LeO.bind ?_ (fun _ => ?_)
theorem laws_toIntS.mono : ∀ a0 k, LeO (laws_toIntS.f k a0) (laws_toIntS.f (k + 1) a0) := by
 intro a0 k
 have ih0 := laws_toIntS.mono_l k
 unfold laws_toIntS.f
 repeat' first
   | (with_reducible exact ih0 _ _ _)
   | (with_reducible exact LeO.refl _)
   | (with_reducible exact LeO.none _)
   | (with_reducible refine LeO.ite ?_ ?_)
   | (with_reducible refine LeO.bind ?_ (fun _ => ?_))
   | exact ih0 _ _ _
   | exact LeO.none _
   | refine LeO.ite ?_ ?_
   | refine LeO.bind ?_ (fun _ => ?_)
set_option maxHeartbeats 8000000 in
set_option maxRecDepth 100000 in
theorem laws_toIntS.calls (k : Nat) (A0 : Option Addr) (c0 : Nat) (l0 : List Int) (r : List Int) (w : World) (hr0 : Kd.C (Kd.int .i64) w A0 l0.length l0) (hc0 : l0.length ≤ c0) (h : laws_toIntS.f k l0 = some r) :
  Calls Try.prog 65 #[.slice A0 l0.length c0] w fun e w' => ∃ v0_ : Value, e = .returned (v0_) ∧ Kd.R (Kd.int .i64) 3 w' w.heap.size (fun _ => True) v0_ r ∧ Below w.heap.size w w' := by
 have HR0 := Aside0.mk hr0
 have HC0 := Aside0.mk hc0
 clear hr0 hc0
 have HB := Aside0.mk (Below.refl w.heap.size w)
 have H : (if 0 ≤ (l0.length : Int) then (if ((l0.length : Int) : Int).toNat ≤ 35184372088832 then (laws_toIntS.l0 k l0 (List.replicate ((l0.length : Int) : Int).toNat 0) 0) else (none)) else (none)) = some r := h
 clear h
 by_cases c2 : 0 ≤ (l0.length : Int)
 ·rw [if_pos c2] at H
  have c2b0 := eq_true c2
  have c2b1 : decide (0 ≤ (l0.length : Int)) = true := decide_eq_true c2
  clear c2
  by_cases c3 : ((l0.length : Int) : Int).toNat ≤ 35184372088832
  ·rw [if_pos c3] at H
   have c3b0 := eq_true c3
   have c3b1 : decide (((l0.length : Int) : Int).toNat ≤ 35184372088832) = true := decide_eq_true c3
   clear c3
   obtain ⟨y101, hy101⟩ : ∃ y_ : List Int, y_ = (List.replicate ((l0.length : Int) : Int).toNat 0) := ⟨_, rfl⟩
   replace H : (laws_toIntS.l0 k l0 y101 0) = some r := by first | (rw [hy101];with_reducible exact H) | (have H2_ := (Option.bind_some _ _).symm.trans H;rw [hy101];with_reducible exact H2_) | (have H2_ := (Option.bind_some _ _).symm.trans H;with_reducible exact H2_) | with_reducible exact H | (rw [hy101];exact H) | exact H
   have Ny101 := Aside0.mk hy101
   clear hy101
   have H' := Aside0.mk H
   clear H
   go_enter Try.func65, Try.ntmps65
   go_wp2_with (first | ((with_reducible refine gate_dst (N := 7) rfl ?_);refine Kd.R_make (Kd.int .i64) _ 3 rfl (N := 7) rfl 22 _ _ rfl (l0.length : Int) rfl rfl Try.underlying22 (.int .i64 0) 8 info3 rfl (by decide) (by omega) 0 (ok := fun _ => True) (okp := fun _ => True) rfl (fun _ hk => hk) trivial (of_decide_eq_true (by first | (with_reducible assumption) | assumption)) (Nat.le_trans (Nat.mul_le_mul_right _ (of_decide_eq_true (by first | (with_reducible assumption) | assumption) : (l0.length : Int).toNat ≤ 35184372088832)) (by omega)) (Below.refl _ _) (Nat.le_refl _) ?_;intro v102 w4 ho5 hb hg_ hnew_;clear hg_ hnew_;(first | rw [← Ny101.out] at ho5 | (simp only [Int.reduceToNat] at ho5;rw [← Ny101.out] at ho5));have HO103 := Aside0.mk (Kd.R_lower ho5 (below_size (by exact HB.out)));replace HB := Aside0.mk (below_step (by exact HB.out) hb);clear hb ho5))
   go_loopg [4] k (fun kq v4 w' => ∃ (x3_1 : List Int) (x4_1 : Int), v4 = .int .i64 x4_1 ∧ Aside0 (laws_toIntS.l0 kq l0 x3_1 x4_1 = some r) ∧ Aside0 (kq ≤ k) ∧ Aside0 (Kd.R (Kd.int .i64) 3 w' w.heap.size (fun _ => True) v102 x3_1) ∧ Aside0 (Below w.heap.size w w'))
   case atStart => exact ⟨(y101), (0), (by first | rfl | (simp;done) | (simp [*];done)), H', ⟨Nat.le_refl _⟩, ⟨by (with_reducible repeat (first | apply Kd.R_alloc | apply Kd.R_drewN | apply Kd.R_drew));exact HO103.out⟩, ⟨by repeat (first | (with_reducible first | exact HB.out | apply below_alloc | apply pw_below_drewN | apply below_drew1) | exact HB.out)⟩⟩
   case round =>
    clear H'
    try clear c2
    try clear c2b0
    try clear c2b1
    try clear p2
    try clear c3
    try clear c3b0
    try clear c3b1
    obtain ⟨x3_1, x4_1, rfl, HA, HK1, HO_3, HB⟩ := hrel
    cases gk with
    | zero => exact absurd HA.out (by simp [laws_toIntS.l0])
    | succ k1 =>
     have H := HA.out
     clear HA
     simp only [laws_toIntS.l0] at H
     by_cases c6 : x4_1 < (l0.length : Int)
     ·rw [if_pos c6] at H
      have c6b0 : decide (x4_1 < (l0.length : Int)) = true := decide_eq_true c6
      clear c6
      by_cases c7 : 0 ≤ x4_1
      ·rw [if_pos c7] at H
       have c7b0 : decide (0 ≤ x4_1) = true := decide_eq_true c7
       clear c7
       by_cases c8 : x4_1 < (x3_1.length : Int)
       ·rw [if_pos c8] at H
        have c8b0 : decide (x4_1 < (x3_1.length : Int)) = true := decide_eq_true c8
        clear c8
        obtain ⟨y105, hy105⟩ : ∃ y_ : List Int, y_ = (x3_1.set (x4_1 : Int).toNat (rd l0 x4_1)) := ⟨_, rfl⟩
        replace H : (laws_toIntS.l0 k1 l0 y105 (wrap64 (x4_1 + 1))) = some r := by first | (rw [hy105];with_reducible exact H) | (have H2_ := (Option.bind_some _ _).symm.trans H;rw [hy105];with_reducible exact H2_) | (have H2_ := (Option.bind_some _ _).symm.trans H;with_reducible exact H2_) | with_reducible exact H | (rw [hy105];exact H) | exact H
        have Ny105 := Aside0.mk hy105
        clear hy105
        have H' := Aside0.mk H
        clear H
        have p104 : 0 ≤ (x4_1 : Int) := of_decide_eq_true (by first | (with_reducible assumption) | assumption)
        have q104 : x4_1 < (l0.length : Int) := of_decide_eq_true (by first | (with_reducible assumption) | assumption)
        obtain ⟨ad104, e104, hx104_0⟩ := Kd.at_int HR0.out x4_1 p104 q104
        cases e104
        replace hx104_0 := (HB.out.cell (World.block_lt_of_cell? w _ hx104_0)).trans hx104_0
        replace p104 := eq_true p104
        replace q104 := eq_true q104
        have p9 : 0 ≤ (x4_1 : Int) := of_decide_eq_true (by first | (with_reducible assumption) | assumption)
        have q9 : (x4_1 : Int) < ((x3_1.length : Int) : Int) := of_decide_eq_true (by first | (with_reducible assumption) | assumption)
        obtain ⟨go9, co9, eo9, gb9, gl9, cl9, HG9⟩ := Kd.R_form HO_3.out (by omega)
        (first | cases eo9 | (injection eo9 with ea_ en_ ec_;(first | subst ea_ | (injection ea_ with ea_;subst ea_));subst ec_;clear en_))
        have GB9 := Aside0.mk gb9
        have GG9 := Aside0.mk HG9
        clear gb9 gl9 HG9
        obtain ⟨hx9_0, hf9_0⟩ := Kd.R_celln 0 HO_3.out (x4_1 : Int) p9 q9
        replace p9 := eq_true p9
        replace q9 := eq_true q9
        have HP10 := Kd.R_putg HO_3.out (x4_1 : Int) (rd l0 x4_1)
        go_wp2_with (first | ((with_reducible refine gate_store (t := 3) (p := 20) rfl ?_);refine store_event (t := 3) (p := 20) (v := ?vo_w11) (w1 := (wr.setCell ⟨go9, (x4_1 : Int).toNat, none⟩ (.int .i64 (rd l0 x4_1)))) ?hg ?ho ?hn ?hr ?_;(case ho => rfl);(case hg => rfl);(case hn => rfl);(case hr => first | (go_simp;done) | (go_simp;rfl));intro w11 hw;have hg : wr.grownBy w11 (some go9) := (by rw [hw];exact HP10.2);have hp_ : Kd.R (Kd.int .i64) 3 w11 w.heap.size (fun _ => True) (.slice (some ⟨go9, 0, none⟩) x3_1.length co9) y105 := (by rw [hw, Ny105.out];exact HP10.1);clear HP10;replace HO_3 := Aside0.mk (hp_);replace HB := Aside0.mk ((by rw [hw];exact below_set (HB.out) GB9.out : Below w.heap.size w w11));clear hg hw hp_))
        go_roundg k1
        case measure => have := HK1.out;omega
        case rel => exact ⟨(y105), (wrap64 (x4_1 + 1)), (by first | rfl | (simp;done) | (simp [*];done)), H', ⟨by have := HK1.out;omega⟩, ⟨by (with_reducible repeat (first | apply Kd.R_alloc | apply Kd.R_drewN | apply Kd.R_drew));exact HO_3.out⟩, ⟨by repeat (first | (with_reducible first | exact HB.out | apply below_alloc | apply pw_below_drewN | apply below_drew1) | exact HB.out)⟩⟩
       ·rw [if_neg c8] at H
        exact absurd H (by simp)
      ·rw [if_neg c7] at H
       exact absurd H (by simp)
     ·rw [if_neg c6] at H
      have c6b0 : decide (x4_1 < (l0.length : Int)) = false := decide_eq_false c6
      clear c6
      obtain rfl := Option.some.inj H
      go_wp2
      go_ret
      exact ⟨_, by first | rfl | (simp [errW_none, errW_some] <;> rfl) | (simp [*, errW_none, errW_some] <;> rfl), by (with_reducible repeat (first | apply Kd.R_alloc | apply Kd.R_drewN | apply Kd.R_drew));exact HO_3.out, by repeat (first | (with_reducible first | exact HB.out | apply below_alloc | apply pw_below_drewN | apply below_drew1) | exact HB.out)⟩
  ·rw [if_neg c3] at H
   exact absurd H (by simp)
 ·rw [if_neg c2] at H
  exact absurd H (by simp)

end Go.Proofs.Ytiplpckgmikmeaa.M
namespace Go.Proofs.Ytiplpckgmikmeaa.M
open Go.RowKit Go.Proofs.YtiplpckgmikmeaaW.PrintWords Go.Proofs.YtiplpckgmikmeaaW.PrintLast Go.Proofs.YtiplpckgmikmeaaW.PrintMore
attribute [local go_sem] max2_int min2_int max_two min_two max_three min_three max_four min_four
set_option linter.unusedVariables false
set_option linter.unusedSimpArgs false

def laws_eqIntS.l0 : Nat → List Int → List Int → Int → Option (Bool)
 | 0, _, _, _ => none
 | k + 1, x0, x1, x5 => if x5 < (x0.length : Int) then (if 0 ≤ x5 then (if x5 < (x1.length : Int) then (if (rd x0 x5) = (rd x1 x5) then (laws_eqIntS.l0 k x0 x1 (wrap64 (x5 + 1))) else (some false)) else (none)) else (none)) else (some true)
def laws_eqIntS.f (k : Nat) (l0 : List Int) (l1 : List Int) : Option (Bool) := if (l0.length : Int) = (l1.length : Int) then (laws_eqIntS.l0 k l0 l1 0) else (some false)
theorem laws_eqIntS.mono_l : ∀ k, (∀ y0 y1 y2, LeO (laws_eqIntS.l0 k y0 y1 y2) (laws_eqIntS.l0 (k + 1) y0 y1 y2))
 | 0 => fun _ _ _ r h => by simp [laws_eqIntS.l0] at h
 | k + 1 => by
  have ih0 := laws_eqIntS.mono_l k
  ·intro y0 y1 y2
   unfold laws_eqIntS.l0
   repeat' first
   | (with_reducible exact ih0 _ _ _)
   | (with_reducible exact LeO.refl _)
   | (with_reducible exact LeO.none _)
   | (with_reducible refine LeO.ite ?_ ?_)
   | (with_reducible refine LeO.bind ?_ (fun _ => ?_))
   | exact ih0 _ _ _
   | exact LeO.none _
   | refine LeO.ite ?_ ?_
   | refine LeO.bind ?_ (fun _ => ?_)
theorem laws_eqIntS.mono : ∀ a0 a1 k, LeO (laws_eqIntS.f k a0 a1) (laws_eqIntS.f (k + 1) a0 a1) := by
 intro a0 a1 k
 have ih0 := laws_eqIntS.mono_l k
 unfold laws_eqIntS.f
 repeat' first
   | (with_reducible exact ih0 _ _ _)
   | (with_reducible exact LeO.refl _)
   | (with_reducible exact LeO.none _)
   | (with_reducible refine LeO.ite ?_ ?_)
   | (with_reducible refine LeO.bind ?_ (fun _ => ?_))
   | exact ih0 _ _ _
   | exact LeO.none _
   | refine LeO.ite ?_ ?_
   | refine LeO.bind ?_ (fun _ => ?_)
set_option maxHeartbeats 8000000 in
set_option maxRecDepth 100000 in
theorem laws_eqIntS.calls (k : Nat) (A0 : Option Addr) (c0 : Nat) (l0 : List Int) (A1 : Option Addr) (c1 : Nat) (l1 : List Int) (r : Bool) (hT_ : Aside0 (r = true)) (w : World) (hr0 : Kd.C (Kd.int .i64) w A0 l0.length l0) (hc0 : l0.length ≤ c0) (hr1 : Kd.C (Kd.int .i64) w A1 l1.length l1) (hc1 : l1.length ≤ c1) (h : laws_eqIntS.f k l0 l1 = some r) :
  Calls Try.prog 67 #[.slice A0 l0.length c0, .slice A1 l1.length c1] w fun e w' => e = .returned (.bool r) ∧ Drawn0 w w' := by
 have HR0 := Aside0.mk hr0
 have HC0 := Aside0.mk hc0
 clear hr0 hc0
 have HR1 := Aside0.mk hr1
 have HC1 := Aside0.mk hc1
 clear hr1 hc1
 have H : (if (l0.length : Int) = (l1.length : Int) then (laws_eqIntS.l0 k l0 l1 0) else (some false)) = some r := h
 clear h
 by_cases c3 : (l0.length : Int) = (l1.length : Int)
 ·rw [if_pos c3] at H
  have c3b0 : ((l0.length : Int) == (l1.length : Int)) = true := beq_iff_eq.mpr c3
  have c3b1 : ((l0.length : Int) != (l1.length : Int)) = false := bne_eq_false_iff_eq.mpr c3
  have c3b2 : (l0.length == l1.length) = true := by first | simpa using c3 | (simp at c3 ⊢;omega)
  clear c3
  have H' := Aside0.mk H
  clear H
  go_enter Try.func67, Try.ntmps67
  go_wp2
  repeat (go_quiet (fail);try go_wp2)
  go_loopg [5] k (fun kq v5 w' => ∃ (x5_1 : Int), v5 = .int .i64 x5_1 ∧ Aside0 (laws_eqIntS.l0 kq l0 l1 x5_1 = some r) ∧ Aside0 (kq ≤ k) ∧ Drawn0 w w')
  case atStart => exact ⟨(0), (by first | rfl | (simp;done) | (simp [*];done)), H', ⟨Nat.le_refl _⟩, by repeat (first | exact Drawn0.refl _ | apply Drawn0.step)⟩
  case round =>
   clear H'
   try clear c1
   try clear p2
   try clear c3
   try clear c3b0
   try clear c3b1
   try clear c3b2
   obtain ⟨x5_1, rfl, HA, HK1, ⟨m1, rfl⟩⟩ := hrel
   cases gk with
   | zero => exact absurd HA.out (by simp [laws_eqIntS.l0])
   | succ k1 =>
    have H := HA.out
    clear HA
    simp only [laws_eqIntS.l0] at H
    by_cases c4 : x5_1 < (l0.length : Int)
    ·rw [if_pos c4] at H
     have c4b0 : decide (x5_1 < (l0.length : Int)) = true := decide_eq_true c4
     clear c4
     by_cases c5 : 0 ≤ x5_1
     ·rw [if_pos c5] at H
      have c5b0 : decide (0 ≤ x5_1) = true := decide_eq_true c5
      clear c5
      by_cases c6 : x5_1 < (l1.length : Int)
      ·rw [if_pos c6] at H
       have c6b0 : decide (x5_1 < (l1.length : Int)) = true := decide_eq_true c6
       clear c6
       by_cases c7 : (rd l0 x5_1) = (rd l1 x5_1)
       ·rw [if_pos c7] at H
        have c7b0 : ((rd l0 x5_1) == (rd l1 x5_1)) = true := beq_iff_eq.mpr c7
        have c7b1 : ((rd l0 x5_1) != (rd l1 x5_1)) = false := bne_eq_false_iff_eq.mpr c7
        clear c7
        have H' := Aside0.mk H
        clear H
        have p101 : 0 ≤ (x5_1 : Int) := of_decide_eq_true (by first | (with_reducible assumption) | assumption)
        have q101 : x5_1 < (l0.length : Int) := of_decide_eq_true (by first | (with_reducible assumption) | assumption)
        obtain ⟨ad101, e101, hx101_0⟩ := Kd.at_int HR0.out x5_1 p101 q101
        cases e101
        replace p101 := eq_true p101
        replace q101 := eq_true q101
        have p102 : 0 ≤ (x5_1 : Int) := of_decide_eq_true (by first | (with_reducible assumption) | assumption)
        have q102 : x5_1 < (l1.length : Int) := of_decide_eq_true (by first | (with_reducible assumption) | assumption)
        obtain ⟨ad102, e102, hx102_0⟩ := Kd.at_int HR1.out x5_1 p102 q102
        cases e102
        replace p102 := eq_true p102
        replace q102 := eq_true q102
        go_wp2
        repeat (go_quiet (fail);try go_wp2)
        go_roundg k1
        case measure => have := HK1.out;omega
        case rel => exact ⟨(wrap64 (x5_1 + 1)), (by first | rfl | (simp;done) | (simp [*];done)), H', ⟨by have := HK1.out;omega⟩, by repeat (first | exact Drawn0.refl _ | apply Drawn0.step)⟩
       ·rw [if_neg c7] at H
        have c7b0 : ((rd l0 x5_1) == (rd l1 x5_1)) = false := beq_eq_false_iff_ne.mpr c7
        have c7b1 : ((rd l0 x5_1) != (rd l1 x5_1)) = true := bne_iff_ne.mpr c7
        exact absurd (Option.some.inj H) (by rw [hT_.out];decide)
      ·rw [if_neg c6] at H
       exact absurd H (by simp)
     ·rw [if_neg c5] at H
      exact absurd H (by simp)
    ·rw [if_neg c4] at H
     have c4b0 : decide (x5_1 < (l0.length : Int)) = false := decide_eq_false c4
     clear c4
     obtain rfl := Option.some.inj H
     go_wp2
     repeat (go_quiet (fail);try go_wp2)
     go_ret
     exact ⟨by first | rfl | (simp;done) | (simp [*];done), by repeat (first | exact Drawn0.refl _ | apply Drawn0.step)⟩
 ·rw [if_neg c3] at H
  have c3b0 : ((l0.length : Int) == (l1.length : Int)) = false := beq_eq_false_iff_ne.mpr c3
  have c3b1 : ((l0.length : Int) != (l1.length : Int)) = true := bne_iff_ne.mpr c3
  have c3b2 : (l0.length == l1.length) = false := by first | simpa using c3 | (simp at c3 ⊢;omega)
  exact absurd (Option.some.inj H) (by rw [hT_.out];decide)

end Go.Proofs.Ytiplpckgmikmeaa.M
namespace Go.Proofs.Ytiplpckgmikmeaa.M
set_option linter.unusedVariables false
set_option linter.unusedSimpArgs false
open Go.RowKit Go.Proofs.YtiplpckgmikmeaaW.PrintWords Go.Proofs.YtiplpckgmikmeaaW.PrintLast

theorem rd_nat (l : List Int) (n : Nat) : rd l (n : Int) = l.getD n 0 := rfl

theorem szIntS_ok (l : List Int) (a : Int) (h0 : 0 ≤ a) (h1 : a ≤ 1048576) (hl : l.length ≤ 9223372036854775807) : laws_szIntS.f l a = some (if (l.length : Int) ≤ a then a - l.length else -1) := by
  unfold laws_szIntS.f
  rw [w_small (by omega) (by omega)]
  by_cases h : (l.length : Int) ≤ a
  · rw [if_neg (by omega), if_pos h]
  · rw [if_pos (by omega), if_neg h]

theorem toIntS_l0_ev (l : List Int) (hl : l.length ≤ 9223372036854775807) : ∀ (d n : Nat) (a : List Int), n + d = l.length → a.length = l.length → Ev (fun k => laws_toIntS.l0 k l a (n : Int)) (a.take n ++ l.drop n) := by
  intro d
  induction d with
  | zero =>
    intro n a hn ha
    rw [List.drop_of_length_le (by omega), List.take_of_length_le (by omega), List.append_nil]
    exact Ev.last (fun k => by simp only [laws_toIntS.l0]; rw [if_neg (by omega)])
  | succ d ih =>
    intro n a hn ha
    rw [drop_at l 0 n (by omega)]
    have next := ih (n + 1) (a.set n (l.getD n 0)) (by omega) (by rw [List.length_set]; exact ha)
    rw [take_set a n _ (by omega), List.append_assoc] at next
    refine Ev.step (fun k => by simp only [laws_toIntS.l0]; rw [if_pos (by omega), if_pos (by omega), if_pos (by omega), w_succ (by omega), rd_nat, Int.toNat_natCast]) ?_
    exact next
theorem toIntS_ev (l : List Int) (hl : l.length ≤ 1048576) : Ev (fun k => laws_toIntS.f k l) l := by
  unfold laws_toIntS.f
  refine Ev.pos (by omega) (Ev.pos (by omega) ?_)
  have := toIntS_l0_ev l (by omega) l.length 0 (List.replicate l.length 0) (by omega) (by simp)
  rw [Int.toNat_natCast]
  exact this

theorem eqIntS_l0_ev (l : List Int) (hl : l.length ≤ 9223372036854775807) : ∀ d n : Nat, n + d = l.length → Ev (fun k => laws_eqIntS.l0 k l l (n : Int)) true := by
  intro d
  induction d with
  | zero =>
    intro n hn
    exact Ev.last (fun k => by simp only [laws_eqIntS.l0]; rw [if_neg (by omega)])
  | succ d ih =>
    intro n hn
    refine Ev.step (fun k => by simp only [laws_eqIntS.l0]; rw [if_pos (by omega), if_pos (by omega), if_pos (by omega), if_pos trivial, w_succ (by omega)]) ?_
    exact ih (n + 1) (by omega)
theorem eqIntS_ev (l : List Int) (hl : l.length ≤ 9223372036854775807) : Ev (fun k => laws_eqIntS.f k l l) true := by
  unfold laws_eqIntS.f
  exact Ev.pos rfl (eqIntS_l0_ev l hl l.length 0 (by omega))
end Go.Proofs.Ytiplpckgmikmeaa.M
namespace Go.Proofs.Ytiplpckgmikmeaa.M
set_option linter.unusedVariables false
set_option linter.unusedSimpArgs false
open Go.RowKit Go.Proofs.YtiplpckgmikmeaaW.PrintWords Go.Proofs.YtiplpckgmikmeaaW.PrintLast

theorem maxLen_le {n : Nat} (h : n ≤ maxLen) : n ≤ 9223372036854775807 := by unfold maxLen at h; omega
def leftOf (a : Int) (n : Nat) : Int := if (n : Int) ≤ a then a - n else -1
theorem leftOf_neg {a : Int} {n : Nat} (h : ¬ (n : Int) ≤ a) : leftOf a n = -1 := if_neg h
theorem leftOf_pos {a : Int} {n : Nat} (h : (n : Int) ≤ a) : leftOf a n = a - n := if_pos h
def sumW {α : Type} (w : α → Nat) : List α → Nat
  | [] => 0
  | x :: xs => w x + sumW w xs
theorem sumW_mem {α : Type} (w : α → Nat) : ∀ (l : List α) (x : α), x ∈ l → w x ≤ sumW w l
  | [], _, h => by simp at h
  | y :: ys, x, h => by
    rw [sumW]
    rcases List.mem_cons.1 h with rfl | h
    · omega
    · have := sumW_mem w ys x h
      omega
theorem getD_in {α : Type} {l : List α} {z : α} {n : Nat} (h : n < l.length) : l.getD n z = l[n] := by
  rw [List.getD_eq_getElem?_getD, List.getElem?_eq_getElem h]
  rfl

theorem left_more {a : Int} {m n : Nat} : (if (m : Int) ≤ a then leftOf (a - m) n else -1) = leftOf a (m + n) := by
  unfold leftOf
  by_cases h : (m : Int) ≤ a
  · rw [if_pos h]
    by_cases h2 : (n : Int) ≤ a - m
    · rw [if_pos h2, if_pos (by omega)]
      omega
    · rw [if_neg h2, if_neg (by omega)]
  · rw [if_neg h, if_neg (by omega)]
theorem left_two {g : Nat → Option Int} {f : Int → Nat → Option Int} {a : Int} {m n : Nat} (h0 : 0 ≤ a) (hg : Ev g (leftOf a m)) (hf : (m : Int) ≤ a → Ev (f (a - m)) (leftOf (a - m) n)) : Ev (fun k => (g k).bind fun t => if t < 0 then some (-1) else f t k) (leftOf a (m + n)) := by
  refine Ev.bind hg ?_
  rw [← left_more]
  by_cases h : (m : Int) ≤ a
  · rw [leftOf_pos h, if_pos h]
    exact Ev.neg (by omega) (hf h)
  · rw [leftOf_neg h, if_neg h]
    exact Ev.pos (by omega) (Ev.now _)
theorem left_last {g : Nat → Option Int} {a : Int} {m : Nat} (h0 : 0 ≤ a) (hg : Ev g (leftOf a m)) : Ev (fun k => (g k).bind fun t => if t < 0 then some (-1) else some t) (leftOf a m) := by
  refine Ev.bind hg ?_
  by_cases h : (m : Int) ≤ a
  · rw [leftOf_pos h]
    exact Ev.neg (by omega) (Ev.now _)
  · rw [leftOf_neg h]
    exact Ev.pos (by omega) (Ev.now _)
theorem left_own {f : Int → Nat → Option Int} {a : Int} {m n : Nat} (h0 : 0 ≤ a) (h1 : a ≤ 1048576) (hm : m ≤ 9223372036854775807) (hf : (m : Int) ≤ a → Ev (f (a - m)) (leftOf (a - m) n)) : Ev (fun k => if wrap64 (a - (m : Int)) < 0 then some (-1) else f (wrap64 (a - (m : Int))) k) (leftOf a (m + n)) := by
  have hw : wrap64 (a - (m : Int)) = a - m := w_small (by omega) (by omega)
  rw [hw, ← left_more]
  by_cases h : (m : Int) ≤ a
  · rw [if_pos h]
    exact Ev.neg (by omega) (hf h)
  · rw [if_neg h]
    exact Ev.pos (by omega) (Ev.now _)

theorem gen_sz {α : Type} (z : α) (w : α → Nat) (e : Nat → α → Int → Option Int) (L : Nat → List α → Int → Int → Option Int)
    (hL : ∀ k l a n, L (k + 1) l a n = if n < (l.length : Int) then (if 0 ≤ n then ((e k (l.getD n.toNat z) a).bind fun t => (if t < 0 then (some (-1)) else (L k l t (wrap64 (n + 1))))) else none) else some a)
    (l : List α) (hl : l.length ≤ 9223372036854775807) (he : ∀ x ∈ l, ∀ a : Int, 0 ≤ a → a ≤ 1048576 → Ev (fun k => e k x a) (leftOf a (w x))) :
    ∀ (d n : Nat) (a : Int), n + d = l.length → 0 ≤ a → a ≤ 1048576 → Ev (fun k => L k l a (n : Int)) (leftOf a (sumW w (l.drop n))) := by
  intro d
  induction d with
  | zero =>
    intro n a hn h0 h1
    rw [List.drop_of_length_le (by omega), sumW, leftOf_pos (by omega)]
    exact Ev.last (fun k => by rw [hL, if_neg (by omega)]; simp)
  | succ d ih =>
    intro n a hn h0 h1
    have hlt : n < l.length := by omega
    rw [List.drop_eq_getElem_cons hlt, sumW]
    refine Ev.step (fun k => by rw [hL, if_pos (by omega), if_pos (by omega), Int.toNat_natCast, getD_in hlt, w_succ (by omega)]) ?_
    exact left_two (f := fun t k => L k l t ((n + 1 : Nat) : Int)) h0 (he _ (List.getElem_mem _) a h0 h1) (fun h => ih (n + 1) _ (by omega) (by omega) (by omega))
def allW {α : Type} (w : α → Nat) (l : List α) : Nat := l.length + sumW w l
theorem gen_szS {α : Type} (z : α) (w : α → Nat) (e : Nat → α → Int → Option Int) (L : Nat → List α → Int → Int → Option Int)
    (hL : ∀ k l a n, L (k + 1) l a n = if n < (l.length : Int) then (if 0 ≤ n then ((e k (l.getD n.toNat z) a).bind fun t => (if t < 0 then (some (-1)) else (L k l t (wrap64 (n + 1))))) else none) else some a)
    (l : List α) (hl : l.length ≤ 9223372036854775807) (he : ∀ x ∈ l, ∀ a : Int, 0 ≤ a → a ≤ 1048576 → Ev (fun k => e k x a) (leftOf a (w x))) (a : Int) (h0 : 0 ≤ a) (h1 : a ≤ 1048576) :
    Ev (fun k => if wrap64 (a - (l.length : Int)) < 0 then some (-1) else L k l (wrap64 (a - (l.length : Int))) 0) (leftOf a (allW w l)) :=
  left_own (f := fun t k => L k l t 0) h0 h1 hl (fun h => gen_sz z w e L hL l hl he l.length 0 _ (by omega) (by omega) (by omega))
theorem allW_mem {α : Type} {w : α → Nat} {l : List α} {x : α} (h : x ∈ l) : w x ≤ allW w l := by
  have := sumW_mem w l x h
  unfold allW
  omega
theorem allW_len {α : Type} {w : α → Nat} {l : List α} : l.length ≤ allW w l := by unfold allW; omega

theorem gen_to {α β γ : Type} (z : α) (cv : α → β) (u : α → γ) (pack : γ → β) (hp : ∀ x, pack (u x) = cv x) (e : Nat → α → Option γ) (L : Nat → List α → List β → Int → Option (List β))
    (hL : ∀ k l m n, L (k + 1) l m n = if n < (l.length : Int) then (if 0 ≤ n then ((e k (l.getD n.toNat z)).bind fun t => (if n < (m.length : Int) then (L k l (m.set n.toNat (pack t)) (wrap64 (n + 1))) else none)) else none) else some m)
    (l : List α) (hl : l.length ≤ 1048576) (he : ∀ x ∈ l, Ev (fun k => e k x) (u x)) :
    ∀ (d n : Nat) (m : List β), n + d = l.length → m.length = l.length → m.take n = (l.take n).map cv → Ev (fun k => L k l m (n : Int)) (l.map cv) := by
  intro d
  induction d with
  | zero =>
    intro n m hn hm ht
    refine Ev.last (fun k => by rw [hL, if_neg (by omega)]; rw [List.take_of_length_le (by omega), List.take_of_length_le (by omega)] at ht; rw [ht])
  | succ d ih =>
    intro n m hn hm ht
    have hlt : n < l.length := by omega
    refine Ev.step (fun k => by rw [hL, if_pos (by omega), if_pos (by omega), Int.toNat_natCast, getD_in hlt, w_succ (by omega)]) ?_
    refine Ev.bind (he _ (List.getElem_mem _)) (Ev.pos (by omega) ?_)
    refine ih (n + 1) _ (by omega) (by simp [hm]) ?_
    rw [take_set _ _ _ (by omega), ht, List.take_succ_eq_append_getElem hlt, List.map_append, hp]
    rfl
theorem gen_toS {α β γ : Type} (z : α) (zb : β) (cap : Nat) (hcap : 1048576 ≤ cap) (cv : α → β) (u : α → γ) (pack : γ → β) (hp : ∀ x, pack (u x) = cv x) (e : Nat → α → Option γ) (L : Nat → List α → List β → Int → Option (List β))
    (hL : ∀ k l m n, L (k + 1) l m n = if n < (l.length : Int) then (if 0 ≤ n then ((e k (l.getD n.toNat z)).bind fun t => (if n < (m.length : Int) then (L k l (m.set n.toNat (pack t)) (wrap64 (n + 1))) else none)) else none) else some m)
    (l : List α) (hl : l.length ≤ 1048576) (he : ∀ x ∈ l, Ev (fun k => e k x) (u x)) :
    Ev (fun k => if 0 ≤ (l.length : Int) then (if ((l.length : Int) : Int).toNat ≤ cap then (L k l (List.replicate ((l.length : Int) : Int).toNat zb) 0) else none) else none) (l.map cv) := by
  refine Ev.pos (by omega) (Ev.pos (by omega) ?_)
  rw [Int.toNat_natCast]
  exact gen_to z cv u pack hp e L hL l hl he l.length 0 _ (by omega) (by simp) (by simp)

theorem gen_eq {β : Type} (z : β) (e : Nat → β → β → Option Bool) (L : Nat → List β → List β → Int → Option Bool)
    (hL : ∀ k l m n, L (k + 1) l m n = if n < (l.length : Int) then (if 0 ≤ n then (if n < (m.length : Int) then ((e k (l.getD n.toNat z) (m.getD n.toNat z)).bind fun t => (if t = true then (L k l m (wrap64 (n + 1))) else some false)) else none) else none) else some true)
    (l : List β) (hl : l.length ≤ 1048576) (he : ∀ x ∈ l, Ev (fun k => e k x x) true) :
    ∀ (d n : Nat), n + d = l.length → Ev (fun k => L k l l (n : Int)) true := by
  intro d
  induction d with
  | zero =>
    intro n hn
    exact Ev.last (fun k => by rw [hL, if_neg (by omega)])
  | succ d ih =>
    intro n hn
    have hlt : n < l.length := by omega
    refine Ev.step (fun k => by rw [hL, if_pos (by omega), if_pos (by omega), if_pos (by omega), Int.toNat_natCast, getD_in hlt, w_succ (by omega)]) ?_
    exact Ev.bind (he _ (List.getElem_mem _)) (Ev.pos rfl (ih (n + 1) (by omega)))
theorem gen_eqS {β : Type} (z : β) (e : Nat → β → β → Option Bool) (L : Nat → List β → List β → Int → Option Bool)
    (hL : ∀ k l m n, L (k + 1) l m n = if n < (l.length : Int) then (if 0 ≤ n then (if n < (m.length : Int) then ((e k (l.getD n.toNat z) (m.getD n.toNat z)).bind fun t => (if t = true then (L k l m (wrap64 (n + 1))) else some false)) else none) else none) else some true)
    (l : List β) (hl : l.length ≤ 1048576) (he : ∀ x ∈ l, Ev (fun k => e k x x) true) :
    Ev (fun k => if (l.length : Int) = (l.length : Int) then L k l l 0 else some false) true :=
  Ev.pos rfl (gen_eq z e L hL l hl he l.length 0 (by omega))

theorem gen_two {β : Type} (z : β) (e f : Nat → β → β → Option Bool) (L M : Nat → List β → List β → Int → Option Bool)
    (hL : ∀ k l m n, L (k + 1) l m n = if n < (l.length : Int) then (if 0 ≤ n then (if n < (m.length : Int) then ((e k (l.getD n.toNat z) (m.getD n.toNat z)).bind fun t => (if t = true then (L k l m (wrap64 (n + 1))) else some false)) else none) else none) else some true)
    (hM : ∀ k l m n, M (k + 1) l m n = if n < (l.length : Int) then (if 0 ≤ n then (if n < (l.length : Int) then (if n < (m.length : Int) then ((f k (l.getD n.toNat z) (m.getD n.toNat z)).bind fun t => (if t = true then (M k l m (wrap64 (n + 1))) else some false)) else none) else none) else none) else some true)
    (l m : List β) (hl : l.length ≤ 1048576) (hm : l.length = m.length) (he : ∀ x ∈ l, ∀ y, ∃ v, Ev (fun k => e k x y) v ∧ Ev (fun k => f k x y) v) :
    ∀ (d n : Nat), n + d = l.length → ∃ v, Ev (fun k => L k l m (n : Int)) v ∧ Ev (fun k => M k l m (n : Int)) v := by
  intro d
  induction d with
  | zero =>
    intro n hn
    exact ⟨true, Ev.last (fun k => by rw [hL, if_neg (by omega)]), Ev.last (fun k => by rw [hM, if_neg (by omega)])⟩
  | succ d ih =>
    intro n hn
    have hlt : n < l.length := by omega
    have hlt2 : n < m.length := by omega
    obtain ⟨v, h1, h2⟩ := he l[n] (List.getElem_mem _) m[n]
    obtain ⟨v', h3, h4⟩ := ih (n + 1) (by omega)
    have sL : ∀ k, L (k + 1) l m (n : Int) = (e k l[n] m[n]).bind fun t => (if t = true then (L k l m ((n + 1 : Nat) : Int)) else some false) := fun k => by rw [hL, if_pos (by omega), if_pos (by omega), if_pos (by omega), Int.toNat_natCast, getD_in hlt, getD_in hlt2, w_succ (by omega)]
    have sM : ∀ k, M (k + 1) l m (n : Int) = (f k l[n] m[n]).bind fun t => (if t = true then (M k l m ((n + 1 : Nat) : Int)) else some false) := fun k => by rw [hM, if_pos (by omega), if_pos (by omega), if_pos (by omega), if_pos (by omega), Int.toNat_natCast, getD_in hlt, getD_in hlt2, w_succ (by omega)]
    cases v with
    | true => exact ⟨v', Ev.step sL (Ev.bind h1 (Ev.pos rfl h3)), Ev.step sM (Ev.bind h2 (Ev.pos rfl h4))⟩
    | false => exact ⟨false, Ev.step sL (Ev.bind h1 (Ev.neg (by decide) (Ev.now _))), Ev.step sM (Ev.bind h2 (Ev.neg (by decide) (Ev.now _)))⟩
theorem gen_twoS {β : Type} (z : β) (e f : Nat → β → β → Option Bool) (L M : Nat → List β → List β → Int → Option Bool)
    (hL : ∀ k l m n, L (k + 1) l m n = if n < (l.length : Int) then (if 0 ≤ n then (if n < (m.length : Int) then ((e k (l.getD n.toNat z) (m.getD n.toNat z)).bind fun t => (if t = true then (L k l m (wrap64 (n + 1))) else some false)) else none) else none) else some true)
    (hM : ∀ k l m n, M (k + 1) l m n = if n < (l.length : Int) then (if 0 ≤ n then (if n < (l.length : Int) then (if n < (m.length : Int) then ((f k (l.getD n.toNat z) (m.getD n.toNat z)).bind fun t => (if t = true then (M k l m (wrap64 (n + 1))) else some false)) else none) else none) else none) else some true)
    (l m : List β) (hl : l.length ≤ 1048576) (he : ∀ x ∈ l, ∀ y, ∃ v, Ev (fun k => e k x y) v ∧ Ev (fun k => f k x y) v) :
    ∃ v, Ev (fun k => if (l.length : Int) = (m.length : Int) then L k l m 0 else some false) v ∧ Ev (fun k => if (l.length : Int) = (m.length : Int) then M k l m 0 else some false) v := by
  by_cases h : l.length = m.length
  · obtain ⟨v, h1, h2⟩ := gen_two z e f L M hL hM l m hl h he l.length 0 (by omega)
    exact ⟨v, Ev.pos (by omega) h1, Ev.pos (by omega) h2⟩
  · exact ⟨false, Ev.neg (by omega) (Ev.now _), Ev.neg (by omega) (Ev.now _)⟩
end Go.Proofs.Ytiplpckgmikmeaa.M
namespace Go.Proofs.Ytiplpckgmikmeaa.M
open Go.RowKit Go.Proofs.YtiplpckgmikmeaaW.PrintWords Go.Proofs.YtiplpckgmikmeaaW.PrintLast Go.Proofs.YtiplpckgmikmeaaW.PrintMore
attribute [local go_sem] max2_int min2_int max_two min_two max_three min_three max_four min_four
set_option linter.unusedVariables false
set_option linter.unusedSimpArgs false

def laws_szOcc.f (a0_0 : Int) (a0_1 : Int) (l0_2 : List Int) (a1 : Int) : Option (Int) := (laws_szIntS.f l0_2 a1).bind fun t102 => (if t102 < 0 then (some (-1)) else (some t102))
set_option maxHeartbeats 8000000 in
set_option maxRecDepth 100000 in
theorem laws_szOcc.calls (a0_0 : Int) (a0_1 : Int) (A0_2 : Option Addr) (c0_2 : Nat) (l0_2 : List Int) (a1 : Int) (r : Int) (w : World) (hr0_2 : Kd.C (Kd.int .i64) w A0_2 l0_2.length l0_2) (hc0_2 : l0_2.length ≤ c0_2) (h : laws_szOcc.f a0_0 a0_1 l0_2 a1 = some r) :
  Calls Try.prog 18 #[.agg #[.int .i64 a0_0, .int .i64 a0_1, .slice A0_2 l0_2.length c0_2], .int .i64 a1] w fun e w' => e = .returned (.int .i64 r) ∧ Below w.heap.size w w' := by
 have hu24 := Try.underlying24
 have HR0_2 := Aside0.mk hr0_2
 have HC0_2 := Aside0.mk hc0_2
 clear hr0_2 hc0_2
 have HB := Aside0.mk (Below.refl w.heap.size w)
 have H : ((laws_szIntS.f l0_2 a1).bind fun t102 => (if t102 < 0 then (some (-1)) else (some t102))) = some r := h
 clear h
 replace H := Option.bind_eq_some_iff.mp H
 obtain ⟨t102, A30, H⟩ := H
 replace H : (if t102 < 0 then (some (-1)) else (some t102)) = some r := H
 have A3 := Aside0.mk A30
 clear A30
 by_cases c4 : t102 < 0
 ·rw [if_pos c4] at H
  have c4b0 : decide (t102 < 0) = true := decide_eq_true c4
  clear c4
  obtain rfl := Option.some.inj H
  go_enter Try.func18, Try.ntmps18
  go_wp2_with (first | ((with_reducible refine gate_dst (N := 2) rfl ?_);refine box_event ?hg (N := 2) ?hd (cs := #[.int .i64 a0_0, .int .i64 a0_1, .slice A0_2 l0_2.length c0_2]) (t := 24) ?hr ?_;(case hd => rfl);(case hg => rfl);(case hr => first | (go_simp;done) | (go_simp;rfl));intro gb101 hg w5 hbox hb;have BK101 := Aside0.mk (hbox);have GW101 := Aside0.mk ((by rw [hg];exact (below_size (by exact HB.out)) : w.heap.size ≤ gb101));have GE101 := Aside0.mk ((by rw [hg];exact (below_size (by exact HB.out)) : w.heap.size ≤ gb101));replace HB := Aside0.mk (below_step (by exact HB.out) hb);clear hb hbox hg;obtain ⟨hcz6_0, hcz6_1, hcz6_2, hfz6_0, hfz6_1, hfz6_2⟩ := bx3 BK101.out) | ((with_reducible refine gate_callee (f := 64) rfl ?_);refine goesL_ (some 8) rfl rfl Try.func64 (by kernel_rfl) rfl #[.slice A0_2 l0_2.length c0_2, .int .i64 a1] rfl (by (try simp only [List.map_toArray, List.map_cons, List.map_nil]);first | done | rfl | (simp only [List.length_drop, List.length_take];rfl)) ?_;(with_reducible refine (laws_szIntS.calls _ _ l0_2 a1 t102 _ ?side1 ?side2 A3.out).mono ?_);(case side1 => repeat (first | exact (Kd.C_below HR0_2.out HB.out) | (with_reducible refine Kd.C_alloc ?_ _) | (with_reducible refine Kd.C_drewN ?_ _) | (with_reducible refine Kd.C_drew ?_)));(case side2 => exact HC0_2.out);rintro e w' ⟨rfl, ⟨nd, rfl⟩⟩;refine ⟨_, rfl, ?_⟩))
  go_ret
  exact ⟨by first | rfl | (simp [errW_none, errW_some] <;> rfl) | (simp [*, errW_none, errW_some] <;> rfl), by repeat (first | (with_reducible first | exact HB.out | apply below_alloc | apply pw_below_drewN | apply below_drew1 | refine below_set ?_ GE101.out) | exact HB.out)⟩
 ·rw [if_neg c4] at H
  have c4b0 : decide (t102 < 0) = false := decide_eq_false c4
  clear c4
  obtain rfl := Option.some.inj H
  go_enter Try.func18, Try.ntmps18
  go_wp2_with (first | ((with_reducible refine gate_dst (N := 2) rfl ?_);refine box_event ?hg (N := 2) ?hd (cs := #[.int .i64 a0_0, .int .i64 a0_1, .slice A0_2 l0_2.length c0_2]) (t := 24) ?hr ?_;(case hd => rfl);(case hg => rfl);(case hr => first | (go_simp;done) | (go_simp;rfl));intro gb101 hg w7 hbox hb;have BK101 := Aside0.mk (hbox);have GW101 := Aside0.mk ((by rw [hg];exact (below_size (by exact HB.out)) : w.heap.size ≤ gb101));have GE101 := Aside0.mk ((by rw [hg];exact (below_size (by exact HB.out)) : w.heap.size ≤ gb101));replace HB := Aside0.mk (below_step (by exact HB.out) hb);clear hb hbox hg;obtain ⟨hcz8_0, hcz8_1, hcz8_2, hfz8_0, hfz8_1, hfz8_2⟩ := bx3 BK101.out) | ((with_reducible refine gate_callee (f := 64) rfl ?_);refine goesL_ (some 8) rfl rfl Try.func64 (by kernel_rfl) rfl #[.slice A0_2 l0_2.length c0_2, .int .i64 a1] rfl (by (try simp only [List.map_toArray, List.map_cons, List.map_nil]);first | done | rfl | (simp only [List.length_drop, List.length_take];rfl)) ?_;(with_reducible refine (laws_szIntS.calls _ _ l0_2 a1 t102 _ ?side1 ?side2 A3.out).mono ?_);(case side1 => repeat (first | exact (Kd.C_below HR0_2.out HB.out) | (with_reducible refine Kd.C_alloc ?_ _) | (with_reducible refine Kd.C_drewN ?_ _) | (with_reducible refine Kd.C_drew ?_)));(case side2 => exact HC0_2.out);rintro e w' ⟨rfl, ⟨nd, rfl⟩⟩;refine ⟨_, rfl, ?_⟩))
  go_ret
  exact ⟨by first | rfl | (simp [errW_none, errW_some] <;> rfl) | (simp [*, errW_none, errW_some] <;> rfl), by repeat (first | (with_reducible first | exact HB.out | apply below_alloc | apply pw_below_drewN | apply below_drew1 | refine below_set ?_ GE101.out) | exact HB.out)⟩

end Go.Proofs.Ytiplpckgmikmeaa.M
namespace Go.Proofs.Ytiplpckgmikmeaa.M
open Go.RowKit Go.Proofs.YtiplpckgmikmeaaW.PrintWords Go.Proofs.YtiplpckgmikmeaaW.PrintLast Go.Proofs.YtiplpckgmikmeaaW.PrintMore
attribute [local go_sem] max2_int min2_int max_two min_two max_three min_three max_four min_four
set_option linter.unusedVariables false
set_option linter.unusedSimpArgs false

def laws_szOccS.l0 : Nat → List (S24) → Int → Int → Option (Int)
 | 0, _, _, _ => none
 | k + 1, x0, x1, x5 => if x5 < (x0.length : Int) then (if 0 ≤ x5 then ((laws_szOcc.f ((rd_T24 x0 x5).f0) ((rd_T24 x0 x5).f1) ((rd_T24 x0 x5).f2) x1).bind fun t102 => (if t102 < 0 then (some (-1)) else (laws_szOccS.l0 k x0 t102 (wrap64 (x5 + 1))))) else (none)) else (some x1)
def laws_szOccS.f (k : Nat) (l0 : List (S24)) (a1 : Int) : Option (Int) := if (wrap64 (a1 - (l0.length : Int))) < 0 then (some (-1)) else (laws_szOccS.l0 k l0 (wrap64 (a1 - (l0.length : Int))) 0)
theorem laws_szOccS.mono_l : ∀ k, (∀ y0 y1 y2, LeO (laws_szOccS.l0 k y0 y1 y2) (laws_szOccS.l0 (k + 1) y0 y1 y2))
 | 0 => fun _ _ _ r h => by simp [laws_szOccS.l0] at h
 | k + 1 => by
  have ih0 := laws_szOccS.mono_l k
  ·intro y0 y1 y2
   unfold laws_szOccS.l0
   repeat' first
   | (with_reducible exact ih0 _ _ _)
   | (with_reducible exact LeO.refl _)
   | (with_reducible exact LeO.none _)
   | (with_reducible refine LeO.ite ?_ ?_)
   | (with_reducible refine LeO.bind ?_ (fun _ => ?_))
   | exact ih0 _ _ _
   | exact LeO.none _
   | refine LeO.ite ?_ ?_
   | refine LeO.bind ?_ (fun _ => ?_)
theorem laws_szOccS.mono : ∀ a0 a1 k, LeO (laws_szOccS.f k a0 a1) (laws_szOccS.f (k + 1) a0 a1) := by
 intro a0 a1 k
 have ih0 := laws_szOccS.mono_l k
 unfold laws_szOccS.f
 repeat' first
   | (with_reducible exact ih0 _ _ _)
   | (with_reducible exact LeO.refl _)
   | (with_reducible exact LeO.none _)
   | (with_reducible refine LeO.ite ?_ ?_)
   | (with_reducible refine LeO.bind ?_ (fun _ => ?_))
   | exact ih0 _ _ _
   | exact LeO.none _
   | refine LeO.ite ?_ ?_
   | refine LeO.bind ?_ (fun _ => ?_)
set_option maxHeartbeats 8000000 in
set_option maxRecDepth 100000 in
theorem laws_szOccS.calls (k : Nat) (A0 : Option Addr) (c0 : Nat) (l0 : List (S24)) (a1 : Int) (r : Int) (w : World) (hr0 : Kd.C k24 w A0 l0.length l0) (hc0 : l0.length ≤ c0) (h : laws_szOccS.f k l0 a1 = some r) :
  Calls Try.prog 23 #[.slice A0 l0.length c0, .int .i64 a1] w fun e w' => e = .returned (.int .i64 r) ∧ Below w.heap.size w w' := by
 have hu24 := Try.underlying24
 have HR0 := Aside0.mk hr0
 have HC0 := Aside0.mk hc0
 clear hr0 hc0
 have HB := Aside0.mk (Below.refl w.heap.size w)
 have H : (if (wrap64 (a1 - (l0.length : Int))) < 0 then (some (-1)) else (laws_szOccS.l0 k l0 (wrap64 (a1 - (l0.length : Int))) 0)) = some r := h
 clear h
 by_cases c3 : (wrap64 (a1 - (l0.length : Int))) < 0
 ·rw [if_pos c3] at H
  have c3b0 : decide ((wrap64 (a1 - (l0.length : Int))) < 0) = true := decide_eq_true c3
  clear c3
  obtain rfl := Option.some.inj H
  go_enter Try.func23, Try.ntmps23
  go_wp2
  go_ret
  exact ⟨by first | rfl | (simp [errW_none, errW_some] <;> rfl) | (simp [*, errW_none, errW_some] <;> rfl), by repeat (first | (with_reducible first | exact HB.out | apply below_alloc | apply pw_below_drewN | apply below_drew1) | exact HB.out)⟩
 ·rw [if_neg c3] at H
  have c3b0 : decide ((wrap64 (a1 - (l0.length : Int))) < 0) = false := decide_eq_false c3
  clear c3
  have H' := Aside0.mk H
  clear H
  go_enter Try.func23, Try.ntmps23
  go_wp2
  go_loopg [1, 5] k (fun kq v1 v5 w' => ∃ (x1_1 : Int) (x5_1 : Int), v1 = .int .i64 x1_1 ∧ v5 = .int .i64 x5_1 ∧ Aside0 (laws_szOccS.l0 kq l0 x1_1 x5_1 = some r) ∧ Aside0 (kq ≤ k) ∧ Aside0 (Below w.heap.size w w'))
  case atStart => exact ⟨(wrap64 (a1 - (l0.length : Int))), (0), (by first | rfl | (simp;done) | (simp [*];done)), (by first | rfl | (simp;done) | (simp [*];done)), H', ⟨Nat.le_refl _⟩, ⟨by repeat (first | (with_reducible first | exact HB.out | apply below_alloc | apply pw_below_drewN | apply below_drew1) | exact HB.out)⟩⟩
  case round =>
   clear H'
   try clear c2
   try clear p2
   try clear c3
   try clear c3b0
   obtain ⟨x1_1, x5_1, rfl, rfl, HA, HK1, HB⟩ := hrel
   cases gk with
   | zero => exact absurd HA.out (by simp [laws_szOccS.l0])
   | succ k1 =>
    have H := HA.out
    clear HA
    simp only [laws_szOccS.l0] at H
    by_cases c4 : x5_1 < (l0.length : Int)
    ·rw [if_pos c4] at H
     have c4b0 : decide (x5_1 < (l0.length : Int)) = true := decide_eq_true c4
     clear c4
     by_cases c5 : 0 ≤ x5_1
     ·rw [if_pos c5] at H
      have c5b0 : decide (0 ≤ x5_1) = true := decide_eq_true c5
      clear c5
      replace H := Option.bind_eq_some_iff.mp H
      obtain ⟨t102, A60, H⟩ := H
      replace H : (if t102 < 0 then (some (-1)) else (laws_szOccS.l0 k1 l0 t102 (wrap64 (x5_1 + 1)))) = some r := H
      have A6 := Aside0.mk A60
      clear A60
      by_cases c7 : t102 < 0
      ·rw [if_pos c7] at H
       have c7b0 : decide (t102 < 0) = true := decide_eq_true c7
       clear c7
       obtain rfl := Option.some.inj H
       have p101 : 0 ≤ (x5_1 : Int) := of_decide_eq_true (by first | (with_reducible assumption) | assumption)
       have q101 : x5_1 < (l0.length : Int) := of_decide_eq_true (by first | (with_reducible assumption) | assumption)
       obtain ⟨ad101, A101_2, c101_2, e101, hx101_0, hx101_1, hx101_2, hl101_2, hi101_2⟩ := at_T24 HR0.out x5_1 p101 q101
       cases e101
       replace hx101_0 := (HB.out.cell (World.block_lt_of_cell? w _ hx101_0)).trans hx101_0
       replace hx101_1 := (HB.out.cell (World.block_lt_of_cell? w _ hx101_1)).trans hx101_1
       replace hx101_2 := (HB.out.cell (World.block_lt_of_cell? w _ hx101_2)).trans hx101_2
       have HR101_2 := Aside0.mk hi101_2
       have HC101_2 := Aside0.mk hl101_2
       clear hi101_2 hl101_2
       replace p101 := eq_true p101
       replace q101 := eq_true q101
       go_wp2_with (first | ((with_reducible refine gate_callee (f := 18) rfl ?_);refine goesL_ (some 23) rfl rfl Try.func18 (by kernel_rfl) rfl #[.agg #[.int .i64 ((rd_T24 l0 x5_1).f0), .int .i64 ((rd_T24 l0 x5_1).f1), .slice A101_2 ((rd_T24 l0 x5_1).f2).length c101_2], .int .i64 x1_1] rfl (by (try simp only [List.map_toArray, List.map_cons, List.map_nil]);first | done | rfl | (simp only [List.length_drop, List.length_take];rfl)) ?_;(with_reducible refine (laws_szOcc.calls ((rd_T24 l0 x5_1).f0) ((rd_T24 l0 x5_1).f1) _ _ ((rd_T24 l0 x5_1).f2) x1_1 t102 _ ?side1 ?side2 A6.out).mono ?_);(case side1 => repeat (first | exact (Kd.C_below HR101_2.out HB.out) | (with_reducible refine Kd.C_alloc ?_ _) | (with_reducible refine Kd.C_drewN ?_ _) | (with_reducible refine Kd.C_drew ?_)));(case side2 => exact HC101_2.out);rintro e w8 ⟨rfl, hb⟩;refine ⟨_, rfl, ?_⟩;replace HB := Aside0.mk (below_step (by exact HB.out) hb);(try clear hb);(try clear hb2);(try clear hk);(try clear hi)))
       go_ret
       exact ⟨by first | rfl | (simp [errW_none, errW_some] <;> rfl) | (simp [*, errW_none, errW_some] <;> rfl), by repeat (first | (with_reducible first | exact HB.out | apply below_alloc | apply pw_below_drewN | apply below_drew1) | exact HB.out)⟩
      ·rw [if_neg c7] at H
       have c7b0 : decide (t102 < 0) = false := decide_eq_false c7
       clear c7
       have H' := Aside0.mk H
       clear H
       have p101 : 0 ≤ (x5_1 : Int) := of_decide_eq_true (by first | (with_reducible assumption) | assumption)
       have q101 : x5_1 < (l0.length : Int) := of_decide_eq_true (by first | (with_reducible assumption) | assumption)
       obtain ⟨ad101, A101_2, c101_2, e101, hx101_0, hx101_1, hx101_2, hl101_2, hi101_2⟩ := at_T24 HR0.out x5_1 p101 q101
       cases e101
       replace hx101_0 := (HB.out.cell (World.block_lt_of_cell? w _ hx101_0)).trans hx101_0
       replace hx101_1 := (HB.out.cell (World.block_lt_of_cell? w _ hx101_1)).trans hx101_1
       replace hx101_2 := (HB.out.cell (World.block_lt_of_cell? w _ hx101_2)).trans hx101_2
       have HR101_2 := Aside0.mk hi101_2
       have HC101_2 := Aside0.mk hl101_2
       clear hi101_2 hl101_2
       replace p101 := eq_true p101
       replace q101 := eq_true q101
       go_wp2_with (first | ((with_reducible refine gate_callee (f := 18) rfl ?_);refine goesL_ (some 23) rfl rfl Try.func18 (by kernel_rfl) rfl #[.agg #[.int .i64 ((rd_T24 l0 x5_1).f0), .int .i64 ((rd_T24 l0 x5_1).f1), .slice A101_2 ((rd_T24 l0 x5_1).f2).length c101_2], .int .i64 x1_1] rfl (by (try simp only [List.map_toArray, List.map_cons, List.map_nil]);first | done | rfl | (simp only [List.length_drop, List.length_take];rfl)) ?_;(with_reducible refine (laws_szOcc.calls ((rd_T24 l0 x5_1).f0) ((rd_T24 l0 x5_1).f1) _ _ ((rd_T24 l0 x5_1).f2) x1_1 t102 _ ?side1 ?side2 A6.out).mono ?_);(case side1 => repeat (first | exact (Kd.C_below HR101_2.out HB.out) | (with_reducible refine Kd.C_alloc ?_ _) | (with_reducible refine Kd.C_drewN ?_ _) | (with_reducible refine Kd.C_drew ?_)));(case side2 => exact HC101_2.out);rintro e w9 ⟨rfl, hb⟩;refine ⟨_, rfl, ?_⟩;replace HB := Aside0.mk (below_step (by exact HB.out) hb);(try clear hb);(try clear hb2);(try clear hk);(try clear hi)))
       go_roundg k1
       case measure => have := HK1.out;omega
       case rel => exact ⟨(t102), (wrap64 (x5_1 + 1)), (by first | rfl | (simp;done) | (simp [*];done)), (by first | rfl | (simp;done) | (simp [*];done)), H', ⟨by have := HK1.out;omega⟩, ⟨by repeat (first | (with_reducible first | exact HB.out | apply below_alloc | apply pw_below_drewN | apply below_drew1) | exact HB.out)⟩⟩
     ·rw [if_neg c5] at H
      exact absurd H (by simp)
    ·rw [if_neg c4] at H
     have c4b0 : decide (x5_1 < (l0.length : Int)) = false := decide_eq_false c4
     clear c4
     obtain rfl := Option.some.inj H
     go_wp2
     go_ret
     exact ⟨by first | rfl | (simp [errW_none, errW_some] <;> rfl) | (simp [*, errW_none, errW_some] <;> rfl), by repeat (first | (with_reducible first | exact HB.out | apply below_alloc | apply pw_below_drewN | apply below_drew1) | exact HB.out)⟩

end Go.Proofs.Ytiplpckgmikmeaa.M
namespace Go.Proofs.Ytiplpckgmikmeaa.M
open Go.RowKit Go.Proofs.YtiplpckgmikmeaaW.PrintWords Go.Proofs.YtiplpckgmikmeaaW.PrintLast Go.Proofs.YtiplpckgmikmeaaW.PrintMore
attribute [local go_sem] max2_int min2_int max_two min_two max_three min_three max_four min_four
set_option linter.unusedVariables false
set_option linter.unusedSimpArgs false

def laws_toOcc.f (k : Nat) (a0_0 : Int) (a0_1 : Int) (l0_2 : List Int) : Option (Int × Int × List Int) := (laws_toIntS.f k l0_2).bind fun t104 => (some (a0_0, a0_1, t104))
theorem laws_toOcc.mono : ∀ a0 a1 a2 k, LeO (laws_toOcc.f k a0 a1 a2) (laws_toOcc.f (k + 1) a0 a1 a2) := by
 intro a0 a1 a2 k
 unfold laws_toOcc.f
 repeat' first
   | (with_reducible exact laws_toIntS.mono _ _)
   | (with_reducible exact LeO.refl _)
   | (with_reducible exact LeO.none _)
   | (with_reducible refine LeO.ite ?_ ?_)
   | (with_reducible refine LeO.bind ?_ (fun _ => ?_))
   | exact laws_toIntS.mono _ _
   | exact LeO.none _
   | refine LeO.ite ?_ ?_
   | refine LeO.bind ?_ (fun _ => ?_)
set_option maxHeartbeats 8000000 in
set_option maxRecDepth 100000 in
theorem laws_toOcc.calls (k : Nat) (a0_0 : Int) (a0_1 : Int) (A0_2 : Option Addr) (c0_2 : Nat) (l0_2 : List Int) (r1 : Int) (r2 : Int) (r3 : List Int) (w : World) (hr0_2 : Kd.C (Kd.int .i64) w A0_2 l0_2.length l0_2) (hc0_2 : l0_2.length ≤ c0_2) (h : laws_toOcc.f k a0_0 a0_1 l0_2 = some (r1, r2, r3)) :
  Calls Try.prog 20 #[.agg #[.int .i64 a0_0, .int .i64 a0_1, .slice A0_2 l0_2.length c0_2]] w fun e w' => ∃ v2_ : Value, e = .returned (.agg #[.int .i64 r1, .int .i64 r2, v2_]) ∧ Kd.R (Kd.int .i64) 3 w' w.heap.size (fun _ => True) v2_ r3 ∧ Below w.heap.size w w' := by
 have hu24 := Try.underlying24
 have hu27 := Try.underlying27
 have HR0_2 := Aside0.mk hr0_2
 have HC0_2 := Aside0.mk hc0_2
 clear hr0_2 hc0_2
 have HB := Aside0.mk (Below.refl w.heap.size w)
 have H : ((laws_toIntS.f k l0_2).bind fun t104 => (some (a0_0, a0_1, t104))) = some (r1, r2, r3) := h
 clear h
 replace H := Option.bind_eq_some_iff.mp H
 obtain ⟨t104, A20, H⟩ := H
 replace H : (some (a0_0, a0_1, t104)) = some (r1, r2, r3) := H
 have A2 := Aside0.mk A20
 clear A20
 simp only [Option.some.injEq, Prod.mk.injEq] at H
 obtain ⟨rfl, rfl, rfl⟩ := H
 go_enter Try.func20, Try.ntmps20
 go_wp2_with (first | ((with_reducible refine gate_dst (N := 1) rfl ?_);refine box_event ?hg (N := 1) ?hd (cs := #[.int .i64 a0_0, .int .i64 a0_1, .slice A0_2 l0_2.length c0_2]) (t := 24) ?hr ?_;(case hd => rfl);(case hg => rfl);(case hr => first | (go_simp;done) | (go_simp;rfl));intro gb101 hg w3 hbox hb;have n0_ := Aside0.mk (below_step (by repeat (first | (with_reducible first | exact HB.out | apply below_alloc | apply pw_below_drewN | apply below_drew1) | exact HB.out)) hb);have n1_ := Aside0.mk (hbox);have n2_ := Aside0.mk ((by rw [hg];exact (below_size (by repeat (first | (with_reducible first | exact HB.out | apply below_alloc | apply pw_below_drewN | apply below_drew1) | exact HB.out))) : w.heap.size ≤ gb101));have n3_ := Aside0.mk ((by rw [hg];exact (below_size (by repeat (first | (with_reducible first | exact HB.out | apply below_alloc | apply pw_below_drewN | apply below_drew1) | exact HB.out))) : w.heap.size ≤ gb101));clear HB;have HB := n0_;have BK101 := n1_;have GW101 := n2_;have GE101 := n3_;clear n0_ n1_ n2_ n3_;clear hb hbox hg) | ((with_reducible refine gate_dst (N := 2) rfl ?_);refine box_event ?hg (N := 2) ?hd (cs := #[.int .i64 0, .int .i64 0, .slice none 0 0]) (t := 27) ?hr ?_;(case hd => rfl);(case hg => rfl);(case hr => first | (go_simp;done) | (go_simp;rfl));intro gb102 hg w4 hbox hb;have n0_ := Aside0.mk (blk_below BK101.out hb);have n1_ := Aside0.mk (below_step (by repeat (first | (with_reducible first | exact HB.out | apply below_alloc | apply pw_below_drewN | apply below_drew1 | refine below_set ?_ GE101.out) | exact HB.out)) hb);have n2_ := Aside0.mk (hbox);have n3_ := Aside0.mk ((by rw [hg];exact (below_size (by repeat (first | (with_reducible first | exact HB.out | apply below_alloc | apply pw_below_drewN | apply below_drew1 | refine below_set ?_ GE101.out) | exact HB.out))) : w.heap.size ≤ gb102));have n4_ := Aside0.mk ((by rw [hg];exact (below_size (by repeat (first | (with_reducible first | exact HB.out | apply below_alloc | apply pw_below_drewN | apply below_drew1 | refine below_set ?_ GE101.out) | exact HB.out))) : w.heap.size ≤ gb102));have n5_ := Aside0.mk ((by rw [hg];exact Nat.ne_of_lt (blk_lt BK101.out) : gb101 ≠ gb102));have n6_ := Aside0.mk ((by rw [hg];exact Nat.ne_of_gt (blk_lt BK101.out) : gb102 ≠ gb101));clear BK101;clear HB;have BK101 := n0_;have HB := n1_;have BK102 := n2_;have GW102 := n3_;have GE102 := n4_;have NB101_102 := n5_;have NB102_101 := n6_;clear n0_ n1_ n2_ n3_ n4_ n5_ n6_;clear hb hbox hg) | ((with_reducible refine gate_dst (N := 3) rfl ?_);refine box_event ?hg (N := 3) ?hd (cs := #[.int .i64 0, .int .i64 0, .slice none 0 0]) (t := 27) ?hr ?_;(case hd => rfl);(case hg => rfl);(case hr => first | (go_simp;done) | (go_simp;rfl));intro gb103 hg w5 hbox hb;have n0_ := Aside0.mk (blk_below BK101.out hb);have n1_ := Aside0.mk (blk_below BK102.out hb);have n2_ := Aside0.mk (below_step (by repeat (first | (with_reducible first | exact HB.out | apply below_alloc | apply pw_below_drewN | apply below_drew1 | refine below_set ?_ GE101.out | refine below_set ?_ GE102.out) | exact HB.out)) hb);have n3_ := Aside0.mk (hbox);have n4_ := Aside0.mk ((by rw [hg];exact (below_size (by repeat (first | (with_reducible first | exact HB.out | apply below_alloc | apply pw_below_drewN | apply below_drew1 | refine below_set ?_ GE101.out | refine below_set ?_ GE102.out) | exact HB.out))) : w.heap.size ≤ gb103));have n5_ := Aside0.mk ((by rw [hg];exact (below_size (by repeat (first | (with_reducible first | exact HB.out | apply below_alloc | apply pw_below_drewN | apply below_drew1 | refine below_set ?_ GE101.out | refine below_set ?_ GE102.out) | exact HB.out))) : w.heap.size ≤ gb103));have n6_ := Aside0.mk ((by rw [hg];exact Nat.ne_of_lt (blk_lt BK101.out) : gb101 ≠ gb103));have n7_ := Aside0.mk ((by rw [hg];exact Nat.ne_of_gt (blk_lt BK101.out) : gb103 ≠ gb101));have n8_ := Aside0.mk ((by rw [hg];exact Nat.ne_of_lt (blk_lt BK102.out) : gb102 ≠ gb103));have n9_ := Aside0.mk ((by rw [hg];exact Nat.ne_of_gt (blk_lt BK102.out) : gb103 ≠ gb102));clear BK101;clear BK102;clear HB;have BK101 := n0_;have BK102 := n1_;have HB := n2_;have BK103 := n3_;have GW103 := n4_;have GE103 := n5_;have NB101_103 := n6_;have NB103_101 := n7_;have NB102_103 := n8_;have NB103_102 := n9_;clear n0_ n1_ n2_ n3_ n4_ n5_ n6_ n7_ n8_ n9_;clear hb hbox hg;have hnb6 := NB101_102.out;have hnc6 := NB102_101.out;have hnb7 := NB101_103.out;have hnc7 := NB103_101.out;have hcz8_0 : w5.cell? ⟨gb101, 0, none⟩ = some (.int .i64 a0_0) := (blk_cell BK101.out 0).trans rfl;have hcz8_1 : w5.cell? ⟨gb101, 1, none⟩ = some (.int .i64 a0_1) := (blk_cell BK101.out 1).trans rfl;have hcz8_2 : w5.cell? ⟨gb101, 2, none⟩ = some (.slice A0_2 l0_2.length c0_2) := (blk_cell BK101.out 2).trans rfl;have hfz8_0 := blk_frozen BK101.out 0;have hfz8_1 := blk_frozen BK101.out 1;have hfz8_2 := blk_frozen BK101.out 2;have hnb9 := NB103_102.out;have hnc9 := NB102_103.out;have hcz10_0 : w5.cell? ⟨gb103, 0, none⟩ = some (.int .i64 0) := (blk_cell BK103.out 0).trans rfl;have hcz10_1 : w5.cell? ⟨gb103, 1, none⟩ = some (.int .i64 0) := (blk_cell BK103.out 1).trans rfl;have hcz10_2 : w5.cell? ⟨gb103, 2, none⟩ = some (.slice none 0 0) := (blk_cell BK103.out 2).trans rfl;have hfz10_0 := blk_frozen BK103.out 0;have hfz10_1 := blk_frozen BK103.out 1;have hfz10_2 := blk_frozen BK103.out 2) | ((with_reducible refine gate_callee (f := 65) rfl ?_);refine goesL_ (some 12) rfl rfl Try.func65 (by kernel_rfl) rfl #[.slice A0_2 l0_2.length c0_2] rfl (by (try simp only [List.map_toArray, List.map_cons, List.map_nil]);first | done | rfl | (simp only [List.length_drop, List.length_take];rfl)) ?_;(with_reducible refine (laws_toIntS.calls k _ _ l0_2 t104 _ ?side1 ?side2 A2.out).mono ?_);(case side1 => exact Kd.C_below HR0_2.out (by repeat (first | (with_reducible first | exact HB.out | apply below_alloc | apply pw_below_drewN | apply below_drew1 | refine below_set ?_ GE101.out | refine below_set ?_ GE102.out | refine below_set ?_ GE103.out) | exact HB.out)));(case side2 => exact HC0_2.out);rintro e w11 ⟨v105, rfl, ho0, hb⟩;refine ⟨_, rfl, ?_⟩;have n0_ := Aside0.mk (Kd.R_lower ho0 (below_size (by repeat (first | (with_reducible first | exact HB.out | apply below_alloc | apply pw_below_drewN | apply below_drew1 | refine below_set ?_ GE101.out | refine below_set ?_ GE102.out | refine below_set ?_ GE103.out) | exact HB.out))));have n1_ := Aside0.mk (blk_below (g := gb101) (o := .cells #[.int .i64 a0_0, .int .i64 a0_1, .slice A0_2 l0_2.length c0_2] 24 (0, 0)) (by (with_reducible repeat (first | refine blk_drewN ?_ _ | refine blk_drew ?_ | refine blk_alloc ?_ _));refine blk_far ?_ NB101_103.out _;(with_reducible repeat (first | refine blk_drewN ?_ _ | refine blk_drew ?_ | refine blk_alloc ?_ _));refine blk_far ?_ NB101_103.out _;(with_reducible repeat (first | refine blk_drewN ?_ _ | refine blk_drew ?_ | refine blk_alloc ?_ _));exact BK101.out) hb);have n2_ := Aside0.mk (blk_below (g := gb102) (o := .cells #[.int .i64 0, .int .i64 0, .slice none 0 0] 27 (0, 0)) (by (with_reducible repeat (first | refine blk_drewN ?_ _ | refine blk_drew ?_ | refine blk_alloc ?_ _));refine blk_far ?_ NB102_103.out _;(with_reducible repeat (first | refine blk_drewN ?_ _ | refine blk_drew ?_ | refine blk_alloc ?_ _));refine blk_far ?_ NB102_103.out _;(with_reducible repeat (first | refine blk_drewN ?_ _ | refine blk_drew ?_ | refine blk_alloc ?_ _));exact BK102.out) hb);have n3_ := Aside0.mk (blk_below (g := gb103) (o := .cells #[.int .i64 a0_0, .int .i64 a0_1, .slice none 0 0] 27 (0, 0)) (by (with_reducible repeat (first | refine blk_drewN ?_ _ | refine blk_drew ?_ | refine blk_alloc ?_ _));refine blk_put (cs := #[.int .i64 a0_0, .int .i64 0, .slice none 0 0]) ?_ 1 _ rfl;(with_reducible repeat (first | refine blk_drewN ?_ _ | refine blk_drew ?_ | refine blk_alloc ?_ _));refine blk_put (cs := #[.int .i64 0, .int .i64 0, .slice none 0 0]) ?_ 0 _ rfl;(with_reducible repeat (first | refine blk_drewN ?_ _ | refine blk_drew ?_ | refine blk_alloc ?_ _));exact BK103.out) hb);have n4_ := Aside0.mk (below_step (by repeat (first | (with_reducible first | exact HB.out | apply below_alloc | apply pw_below_drewN | apply below_drew1 | refine below_set ?_ GE101.out | refine below_set ?_ GE102.out | refine below_set ?_ GE103.out) | exact HB.out)) hb);clear BK101;clear BK102;clear BK103;clear HB;have HO106 := n0_;have BK101 := n1_;have BK102 := n2_;have BK103 := n3_;have HB := n4_;clear n0_ n1_ n2_ n3_ n4_;(try clear hb);(try clear hb2);(try clear hk);(try clear hi);(try clear ho0);obtain ⟨Ao12, co12, eo12⟩ := Kd.R_slice HO106.out;subst eo12;have hcz13_0 : w11.cell? ⟨gb103, 0, none⟩ = some (.int .i64 a0_0) := (blk_cell BK103.out 0).trans rfl;have hcz13_1 : w11.cell? ⟨gb103, 1, none⟩ = some (.int .i64 a0_1) := (blk_cell BK103.out 1).trans rfl;have hcz13_2 : w11.cell? ⟨gb103, 2, none⟩ = some (.slice none 0 0) := (blk_cell BK103.out 2).trans rfl;have hfz13_0 := blk_frozen BK103.out 0;have hfz13_1 := blk_frozen BK103.out 1;have hfz13_2 := blk_frozen BK103.out 2;have hcz14_0 : w11.cell? ⟨gb102, 0, none⟩ = some (.int .i64 0) := (blk_cell BK102.out 0).trans rfl;have hcz14_1 : w11.cell? ⟨gb102, 1, none⟩ = some (.int .i64 0) := (blk_cell BK102.out 1).trans rfl;have hcz14_2 : w11.cell? ⟨gb102, 2, none⟩ = some (.slice none 0 0) := (blk_cell BK102.out 2).trans rfl;have hfz14_0 := blk_frozen BK102.out 0;have hfz14_1 := blk_frozen BK102.out 1;have hfz14_2 := blk_frozen BK102.out 2))
 refine bodyPost_ret (results_cell_row rfl _ _ gb102 27 #[.int .i64 a0_0, .int .i64 a0_1, .slice Ao12 t104.length co12] (0, 0) _ rfl (by (with_reducible repeat (first | refine blk_drewN ?_ _ | refine blk_drew ?_ | refine blk_alloc ?_ _));refine blk_put (cs := #[.int .i64 a0_0, .int .i64 a0_1, .slice none 0 0]) ?_ 2 _ rfl;(with_reducible repeat (first | refine blk_drewN ?_ _ | refine blk_drew ?_ | refine blk_alloc ?_ _));refine blk_put (cs := #[.int .i64 a0_0, .int .i64 0, .slice none 0 0]) ?_ 1 _ rfl;(with_reducible repeat (first | refine blk_drewN ?_ _ | refine blk_drew ?_ | refine blk_alloc ?_ _));refine blk_put (cs := #[.int .i64 0, .int .i64 0, .slice none 0 0]) ?_ 0 _ rfl;(with_reducible repeat (first | refine blk_drewN ?_ _ | refine blk_drew ?_ | refine blk_alloc ?_ _));refine blk_far ?_ NB102_103.out _;(with_reducible repeat (first | refine blk_drewN ?_ _ | refine blk_drew ?_ | refine blk_alloc ?_ _));exact BK102.out) Try.underlying27 rfl (by kernel_rfl)) rfl ?_
 exact ⟨_, by first | rfl | (simp [errW_none, errW_some] <;> rfl) | (simp [*, errW_none, errW_some] <;> rfl), by (with_reducible repeat (first | apply Kd.R_alloc | apply Kd.R_drewN | apply Kd.R_drew));exact Kd.R_mono (Kd.R_far (p := ⟨gb102, 2, none⟩) (Kd.R_far (p := ⟨gb102, 1, none⟩) (Kd.R_far (p := ⟨gb102, 0, none⟩) (Kd.R_far (p := ⟨gb103, 2, none⟩) (Kd.R_types (Kd.R_types HO106.out BK103.out (by decide)) BK102.out (by decide)) (fun _ hk => hk.1.2) (.slice Ao12 t104.length co12)) (fun _ hk => hk.2) (.int .i64 a0_0)) (fun _ hk => hk.2) (.int .i64 a0_1)) (fun _ hk => hk.2) (.slice Ao12 t104.length co12)) (fun _ hk => trivial), by repeat (first | (with_reducible first | exact HB.out | apply below_alloc | apply pw_below_drewN | apply below_drew1 | refine below_set ?_ GE101.out | refine below_set ?_ GE102.out | refine below_set ?_ GE103.out) | exact HB.out)⟩

end Go.Proofs.Ytiplpckgmikmeaa.M
namespace Go.Proofs.Ytiplpckgmikmeaa.M
open Go.RowKit Go.Proofs.YtiplpckgmikmeaaW.PrintWords Go.Proofs.YtiplpckgmikmeaaW.PrintLast Go.Proofs.YtiplpckgmikmeaaW.PrintMore
attribute [local go_sem] max2_int min2_int max_two min_two max_three min_three max_four min_four
set_option linter.unusedVariables false
set_option linter.unusedSimpArgs false

def laws_toOccS.l0 : Nat → List (S24) → List (S27) → Int → Option ((List (S27)))
 | 0, _, _, _ => none
 | k + 1, x0, x3, x4 => if x4 < (x0.length : Int) then (if 0 ≤ x4 then ((laws_toOcc.f k ((rd_T24 x0 x4).f0) ((rd_T24 x0 x4).f1) ((rd_T24 x0 x4).f2)).bind fun bt105 => (if x4 < (x3.length : Int) then (laws_toOccS.l0 k x0 (x3.set (x4 : Int).toNat (⟨bt105.1, bt105.2.1, bt105.2.2⟩ : S27)) (wrap64 (x4 + 1))) else (none))) else (none)) else (some x3)
def laws_toOccS.f (k : Nat) (l0 : List (S24)) : Option ((List (S27))) := if 0 ≤ (l0.length : Int) then (if ((l0.length : Int) : Int).toNat ≤ 7036874417766 then (laws_toOccS.l0 k l0 (List.replicate ((l0.length : Int) : Int).toNat z27) 0) else (none)) else (none)
theorem laws_toOccS.mono_l : ∀ k, (∀ y0 y1 y2, LeO (laws_toOccS.l0 k y0 y1 y2) (laws_toOccS.l0 (k + 1) y0 y1 y2))
 | 0 => fun _ _ _ r h => by simp [laws_toOccS.l0] at h
 | k + 1 => by
  have ih0 := laws_toOccS.mono_l k
  ·intro y0 y1 y2
   unfold laws_toOccS.l0
   repeat' first
   | (with_reducible exact ih0 _ _ _)
   | (with_reducible exact laws_toOcc.mono _ _ _ _)
   | (with_reducible exact LeO.refl _)
   | (with_reducible exact LeO.none _)
   | (with_reducible refine LeO.ite ?_ ?_)
   | (with_reducible refine LeO.bind ?_ (fun _ => ?_))
   | exact ih0 _ _ _
   | exact laws_toOcc.mono _ _ _ _
   | exact LeO.none _
   | refine LeO.ite ?_ ?_
   | refine LeO.bind ?_ (fun _ => ?_)
theorem laws_toOccS.mono : ∀ a0 k, LeO (laws_toOccS.f k a0) (laws_toOccS.f (k + 1) a0) := by
 intro a0 k
 have ih0 := laws_toOccS.mono_l k
 unfold laws_toOccS.f
 repeat' first
   | (with_reducible exact ih0 _ _ _)
   | (with_reducible exact laws_toOcc.mono _ _ _ _)
   | (with_reducible exact LeO.refl _)
   | (with_reducible exact LeO.none _)
   | (with_reducible refine LeO.ite ?_ ?_)
   | (with_reducible refine LeO.bind ?_ (fun _ => ?_))
   | exact ih0 _ _ _
   | exact laws_toOcc.mono _ _ _ _
   | exact LeO.none _
   | refine LeO.ite ?_ ?_
   | refine LeO.bind ?_ (fun _ => ?_)
set_option maxHeartbeats 8000000 in
set_option maxRecDepth 100000 in
theorem laws_toOccS.calls (k : Nat) (A0 : Option Addr) (c0 : Nat) (l0 : List (S24)) (r : List (S27)) (w : World) (hr0 : Kd.C k24 w A0 l0.length l0) (hc0 : l0.length ≤ c0) (h : laws_toOccS.f k l0 = some r) :
  Calls Try.prog 25 #[.slice A0 l0.length c0] w fun e w' => ∃ v0_ : Value, e = .returned (v0_) ∧ Kd.S k27 27 w' w.heap.size (fun _ => True) v0_ r ∧ Below w.heap.size w w' := by
 have hu24 := Try.underlying24
 have hu27 := Try.underlying27
 have HR0 := Aside0.mk hr0
 have HC0 := Aside0.mk hc0
 clear hr0 hc0
 have HB := Aside0.mk (Below.refl w.heap.size w)
 have H : (if 0 ≤ (l0.length : Int) then (if ((l0.length : Int) : Int).toNat ≤ 7036874417766 then (laws_toOccS.l0 k l0 (List.replicate ((l0.length : Int) : Int).toNat z27) 0) else (none)) else (none)) = some r := h
 clear h
 by_cases c2 : 0 ≤ (l0.length : Int)
 ·rw [if_pos c2] at H
  have c2b0 := eq_true c2
  have c2b1 : decide (0 ≤ (l0.length : Int)) = true := decide_eq_true c2
  clear c2
  by_cases c3 : ((l0.length : Int) : Int).toNat ≤ 7036874417766
  ·rw [if_pos c3] at H
   have c3b0 := eq_true c3
   have c3b1 : decide (((l0.length : Int) : Int).toNat ≤ 7036874417766) = true := decide_eq_true c3
   clear c3
   obtain ⟨y101, hy101⟩ : ∃ y_ : List (S27), y_ = (List.replicate ((l0.length : Int) : Int).toNat z27) := ⟨_, rfl⟩
   replace H : (laws_toOccS.l0 k l0 y101 0) = some r := by first | (rw [hy101];with_reducible exact H) | (have H2_ := (Option.bind_some _ _).symm.trans H;rw [hy101];with_reducible exact H2_) | (have H2_ := (Option.bind_some _ _).symm.trans H;with_reducible exact H2_) | with_reducible exact H | (rw [hy101];exact H) | exact H
   have Ny101 := Aside0.mk hy101
   clear hy101
   have H' := Aside0.mk H
   clear H
   go_enter Try.func25, Try.ntmps25
   go_wp2_with (first | ((with_reducible refine gate_dst (N := 7) rfl ?_);refine Kd.S_make k27 _ 27 rfl (N := 7) rfl 34 _ _ rfl (l0.length : Int) rfl rfl Try.underlying34 (.agg #[(.int .i64 0), (.int .i64 0), (.slice none 0 0)]) 40 info27 rfl (by decide) (by omega) z27 (ok := fun _ => True) (okp := fun _ => True) (k27_mkM _ _ _ z27 (Kd.R_nil _ _ _ _ _)) (fun _ hk => hk) trivial (of_decide_eq_true (by first | (with_reducible assumption) | assumption)) (Nat.le_trans (Nat.mul_le_mul_right _ (of_decide_eq_true (by first | (with_reducible assumption) | assumption) : (l0.length : Int).toNat ≤ 7036874417766)) (by omega)) (Below.refl _ _) (Nat.le_refl _) ?_;intro v102 w4 ho5 hb hg_ hnew_;clear hg_ hnew_;(first | rw [← Ny101.out] at ho5 | (simp only [Int.reduceToNat] at ho5;rw [← Ny101.out] at ho5));have HO103 := Aside0.mk (Kd.S_lower ho5 (below_size (by exact HB.out)));replace HB := Aside0.mk (below_step (by exact HB.out) hb);clear hb ho5))
   go_loopg [4] k (fun kq v4 w' => ∃ (x3_1 : List (S27)) (x4_1 : Int), v4 = .int .i64 x4_1 ∧ Aside0 (laws_toOccS.l0 kq l0 x3_1 x4_1 = some r) ∧ Aside0 (kq ≤ k) ∧ Aside0 (Kd.S k27 27 w' w.heap.size (fun _ => True) v102 x3_1) ∧ Aside0 (Below w.heap.size w w'))
   case atStart => exact ⟨(y101), (0), (by first | rfl | (simp;done) | (simp [*];done)), H', ⟨Nat.le_refl _⟩, ⟨by (with_reducible repeat (first | apply Kd.S_alloc | apply Kd.S_drewN | apply Kd.S_drew));exact HO103.out⟩, ⟨by repeat (first | (with_reducible first | exact HB.out | apply below_alloc | apply pw_below_drewN | apply below_drew1) | exact HB.out)⟩⟩
   case round =>
    clear H'
    try clear c2
    try clear c2b0
    try clear c2b1
    try clear p2
    try clear c3
    try clear c3b0
    try clear c3b1
    obtain ⟨x3_1, x4_1, rfl, HA, HK1, HO_3, HB⟩ := hrel
    cases gk with
    | zero => exact absurd HA.out (by simp [laws_toOccS.l0])
    | succ k1 =>
     have H := HA.out
     clear HA
     simp only [laws_toOccS.l0] at H
     by_cases c6 : x4_1 < (l0.length : Int)
     ·rw [if_pos c6] at H
      have c6b0 : decide (x4_1 < (l0.length : Int)) = true := decide_eq_true c6
      clear c6
      by_cases c7 : 0 ≤ x4_1
      ·rw [if_pos c7] at H
       have c7b0 : decide (0 ≤ x4_1) = true := decide_eq_true c7
       clear c7
       replace H := Option.bind_eq_some_iff.mp H
       obtain ⟨⟨t105, t106, t107⟩, A80, H⟩ := H
       replace H : (if x4_1 < (x3_1.length : Int) then (laws_toOccS.l0 k1 l0 (x3_1.set (x4_1 : Int).toNat (⟨t105, t106, t107⟩ : S27)) (wrap64 (x4_1 + 1))) else (none)) = some r := H
       have A8 := Aside0.mk A80
       clear A80
       by_cases c9 : x4_1 < (x3_1.length : Int)
       ·rw [if_pos c9] at H
        have c9b0 : decide (x4_1 < (x3_1.length : Int)) = true := decide_eq_true c9
        clear c9
        obtain ⟨y110, hy110⟩ : ∃ y_ : List (S27), y_ = (x3_1.set (x4_1 : Int).toNat (⟨t105, t106, t107⟩ : S27)) := ⟨_, rfl⟩
        replace H : (laws_toOccS.l0 k1 l0 y110 (wrap64 (x4_1 + 1))) = some r := by first | (rw [hy110];with_reducible exact H) | (have H2_ := (Option.bind_some _ _).symm.trans H;rw [hy110];with_reducible exact H2_) | (have H2_ := (Option.bind_some _ _).symm.trans H;with_reducible exact H2_) | with_reducible exact H | (rw [hy110];exact H) | exact H
        have Ny110 := Aside0.mk hy110
        clear hy110
        have H' := Aside0.mk H
        clear H
        have p104 : 0 ≤ (x4_1 : Int) := of_decide_eq_true (by first | (with_reducible assumption) | assumption)
        have q104 : x4_1 < (l0.length : Int) := of_decide_eq_true (by first | (with_reducible assumption) | assumption)
        obtain ⟨ad104, A104_2, c104_2, e104, hx104_0, hx104_1, hx104_2, hl104_2, hi104_2⟩ := at_T24 HR0.out x4_1 p104 q104
        cases e104
        replace hx104_0 := (HB.out.cell (World.block_lt_of_cell? w _ hx104_0)).trans hx104_0
        replace hx104_1 := (HB.out.cell (World.block_lt_of_cell? w _ hx104_1)).trans hx104_1
        replace hx104_2 := (HB.out.cell (World.block_lt_of_cell? w _ hx104_2)).trans hx104_2
        have HR104_2 := Aside0.mk hi104_2
        have HC104_2 := Aside0.mk hl104_2
        clear hi104_2 hl104_2
        replace p104 := eq_true p104
        replace q104 := eq_true q104
        go_wp2_with (first | ((with_reducible refine gate_callee (f := 20) rfl ?_);refine goesL_ (some 20) rfl rfl Try.func20 (by kernel_rfl) rfl #[.agg #[.int .i64 ((rd_T24 l0 x4_1).f0), .int .i64 ((rd_T24 l0 x4_1).f1), .slice A104_2 ((rd_T24 l0 x4_1).f2).length c104_2]] rfl (by (try simp only [List.map_toArray, List.map_cons, List.map_nil]);first | done | rfl | (simp only [List.length_drop, List.length_take];rfl)) ?_;(with_reducible refine (laws_toOcc.calls k1 ((rd_T24 l0 x4_1).f0) ((rd_T24 l0 x4_1).f1) _ _ ((rd_T24 l0 x4_1).f2) t105 t106 t107 _ ?side1 ?side2 A8.out).mono ?_);(case side1 => repeat (first | exact (Kd.C_below HR104_2.out HB.out) | (with_reducible refine Kd.C_alloc ?_ _) | (with_reducible refine Kd.C_drewN ?_ _) | (with_reducible refine Kd.C_drew ?_)));(case side2 => exact HC104_2.out);rintro e w11 ⟨v108, rfl, ho0, hb⟩;refine ⟨_, rfl, ?_⟩;replace HO_3 := Aside0.mk (Kd.S_elder' (by exact HO_3.out) (Kd.R_base ho0) hb);have HO109 := Aside0.mk (Kd.R_lower ho0 (below_size (by exact HB.out)));replace HB := Aside0.mk (below_step (by exact HB.out) hb);(try clear hb);(try clear hb2);(try clear hk);(try clear hi);(try clear ho0);have p10 : 0 ≤ (x4_1 : Int) := of_decide_eq_true (by first | (with_reducible assumption) | assumption);have q10 : (x4_1 : Int) < ((x3_1.length : Int) : Int) := of_decide_eq_true (by first | (with_reducible assumption) | assumption);obtain ⟨go10, co10, eo10, gb10, gl10, cl10, HG10⟩ := Kd.S_form HO_3.out (by omega);(first | cases eo10 | (injection eo10 with ea_ en_ ec_;(first | subst ea_ | (injection ea_ with ea_;subst ea_));subst ec_;clear en_));have GB10 := Aside0.mk gb10;have GG10 := Aside0.mk HG10;clear gb10 gl10 HG10;obtain ⟨_, ce10, hcl10, hM10, hcc10, hfr10, _, _⟩ := Kd.S_elem HO_3.out z27 (x4_1 : Int) p10 q10;obtain ⟨ve10_2, rfl, ge10_2⟩ := k27_openM hM10;have hx10_0 : w11.cell? ⟨go10, (x4_1 : Int).toNat * 3, none⟩ = some (.int .i64 ((rd_T27 x3_1 x4_1).f0)) := hcc10 0 _ rfl;have hx10_1 : w11.cell? ⟨go10, (x4_1 : Int).toNat * 3 + 1, none⟩ = some (.int .i64 ((rd_T27 x3_1 x4_1).f1)) := hcc10 1 _ rfl;have hx10_2 : w11.cell? ⟨go10, (x4_1 : Int).toNat * 3 + 2, none⟩ = some (ve10_2) := hcc10 2 _ rfl;have hf10_0 : w11.frozen? ⟨go10, (x4_1 : Int).toNat * 3, none⟩ = false := hfr10 0;have hf10_1 : w11.frozen? ⟨go10, (x4_1 : Int).toNat * 3 + 1, none⟩ = false := hfr10 1;have hf10_2 : w11.frozen? ⟨go10, (x4_1 : Int).toNat * 3 + 2, none⟩ = false := hfr10 2;clear hcl10 hcc10 hfr10 hM10;replace p10 := eq_true p10;replace q10 := eq_true q10;obtain ⟨Ao14, co14, eo14⟩ := Kd.R_slice HO109.out;subst eo14;have n_ := Aside0.mk (Kd.S_mono (ok' := (fun k_ => some k_ ≠ (.slice Ao14 t107.length co14 : Value).ownBlock)) HO_3.out (fun k_ hk => hk.2));clear HO_3;have HO_3 := n_;clear n_;have HX12 := Aside0.mk (show Kd.S k27 27 w11 w.heap.size (fun k_ => ((fun _ => True)) k_ ∧ ¬ ((fun k_ => some k_ = (.slice Ao14 t107.length co14 : Value).ownBlock)) k_) (.slice (some ⟨go10, 0, none⟩) x3_1.length co10) x3_1 from (by (with_reducible repeat (first | apply Kd.S_alloc | apply Kd.S_drewN | apply Kd.S_drew));exact Kd.S_mono HO_3.out (fun k_ hk => ⟨trivial, fun e_ => hk e_⟩)));obtain ⟨oki12, ce12, hcl12, hM12, hcc12, hfr12, hoki12, hH12⟩ := Kd.S_elem HX12.out z27 (x4_1 : Int) (of_decide_eq_true (by first | (with_reducible assumption) | assumption)) (by have h_ : (x4_1 : Int) < ((x3_1.length : Int) : Int) := of_decide_eq_true (by first | (with_reducible assumption) | assumption);first | exact h_ | (have e_ := (Kd.S_reads' HO_3.out).1;omega) | simpa using h_);obtain ⟨ve12_2, rfl, ge12_2⟩ := k27_openM hM12;have HP12 := Kd.S_seg hH12 (of_decide_eq_true (by first | (with_reducible assumption) | assumption)) (by have h_ : (x4_1 : Int) < ((x3_1.length : Int) : Int) := of_decide_eq_true (by first | (with_reducible assumption) | assumption);first | exact h_ | (have e_ := (Kd.S_reads' HO_3.out).1;omega) | simpa using h_) (seg := [.int .i64 t105, .int .i64 t106, .slice Ao14 t107.length co14]) (j := 0) (show 3 ≤ 3 from by decide) (x' := (⟨t105, t106, t107⟩ : S27)) (k27_mkM _ _ _ (⟨t105, t106, t107⟩ : S27) (Kd.R_mono (Kd.R_tight rfl (Kd.R_mono (ok' := fun k_ => ((fun _ => True)) k_ ∧ k_ ≠ go10) (Kd.R_apart' (HO109.out) (Kd.S_typed HO_3.out) (by decide)) (fun k_ hk => ⟨trivial, fun e_ => (hk.2) (by rw [e_];rfl)⟩))) (fun _ h_ => Or.inr (h_)))) (fun _ hk => hk) (fun k_ hk_ => ((Kd.R_mono (ok' := fun k_ => ((fun _ => True)) k_ ∧ k_ ≠ go10) (Kd.R_apart' (HO109.out) (Kd.S_typed HO_3.out) (by decide)) (fun k_ hk => ⟨trivial, fun e_ => (hk.2) (by rw [e_];rfl)⟩))).1 k_ hk_.symm);have hx12_0 := hcc12 0 _ rfl;(try simp only [show (k27).sz = 3 from rfl, Nat.mul_one, Nat.add_zero] at hx12_0);have hf12_0 := hfr12 0;(try simp only [show (k27).sz = 3 from rfl, Nat.mul_one, Nat.add_zero] at hf12_0);have hx12_1 := hcc12 1 _ rfl;(try simp only [show (k27).sz = 3 from rfl, Nat.mul_one, Nat.add_zero] at hx12_1);have hf12_1 := hfr12 1;(try simp only [show (k27).sz = 3 from rfl, Nat.mul_one, Nat.add_zero] at hf12_1);have hx12_2 := hcc12 2 _ rfl;(try simp only [show (k27).sz = 3 from rfl, Nat.mul_one, Nat.add_zero] at hx12_2);have hf12_2 := hfr12 2;(try simp only [show (k27).sz = 3 from rfl, Nat.mul_one, Nat.add_zero] at hf12_2);clear hcl12 hcc12 hfr12 hM12 hoki12 hH12) | ((with_reducible refine gate_store (t := 27) (p := 21) rfl ?_);refine store_event (t := 27) (p := 21) (v := ?vo_w13) (w1 := (((w11.setCell ⟨go10, (x4_1 : Int).toNat * 3, none⟩ (.int .i64 t105)).setCell ⟨go10, (x4_1 : Int).toNat * 3 + 1, none⟩ (.int .i64 t106)).setCell ⟨go10, (x4_1 : Int).toNat * 3 + 2, none⟩ (.slice Ao14 t107.length co14))) ?hg ?ho ?hn ?hr ?_;(case ho => rfl);(case hg => rfl);(case hn => rfl);(case hr => first | (go_simp;done) | (go_simp;rfl));intro w13 hw;have hg : w11.grownBy w13 (some go10) := (by rw [hw];exact HP12.2);have hp_ : Kd.S k27 27 w13 w.heap.size (fun _ => True) (.slice (some ⟨go10, 0, none⟩) x3_1.length co10) y110 := (by rw [hw, Ny110.out];exact HP12.1);clear HP12;have n0_ := Aside0.mk (hp_);have n1_ := Aside0.mk ((by rw [hw];exact below_set (below_set (below_set (HB.out) GB10.out) GB10.out) GB10.out : Below w.heap.size w w13));clear HO_3;clear HB;clear HO109;have HO_3 := n0_;have HB := n1_;clear n0_ n1_;clear hg hw hp_))
        go_roundg k1
        case measure => have := HK1.out;omega
        case rel => exact ⟨(y110), (wrap64 (x4_1 + 1)), (by first | rfl | (simp;done) | (simp [*];done)), H', ⟨by have := HK1.out;omega⟩, ⟨by (with_reducible repeat (first | apply Kd.S_alloc | apply Kd.S_drewN | apply Kd.S_drew));exact HO_3.out⟩, ⟨by repeat (first | (with_reducible first | exact HB.out | apply below_alloc | apply pw_below_drewN | apply below_drew1) | exact HB.out)⟩⟩
       ·rw [if_neg c9] at H
        exact absurd H (by simp)
      ·rw [if_neg c7] at H
       exact absurd H (by simp)
     ·rw [if_neg c6] at H
      have c6b0 : decide (x4_1 < (l0.length : Int)) = false := decide_eq_false c6
      clear c6
      obtain rfl := Option.some.inj H
      go_wp2
      go_ret
      exact ⟨_, by first | rfl | (simp [errW_none, errW_some] <;> rfl) | (simp [*, errW_none, errW_some] <;> rfl), by (with_reducible repeat (first | apply Kd.S_alloc | apply Kd.S_drewN | apply Kd.S_drew));exact HO_3.out, by repeat (first | (with_reducible first | exact HB.out | apply below_alloc | apply pw_below_drewN | apply below_drew1) | exact HB.out)⟩
  ·rw [if_neg c3] at H
   exact absurd H (by simp)
 ·rw [if_neg c2] at H
  exact absurd H (by simp)

end Go.Proofs.Ytiplpckgmikmeaa.M
namespace Go.Proofs.Ytiplpckgmikmeaa.M
open Go.RowKit Go.Proofs.YtiplpckgmikmeaaW.PrintWords Go.Proofs.YtiplpckgmikmeaaW.PrintLast Go.Proofs.YtiplpckgmikmeaaW.PrintMore
attribute [local go_sem] max2_int min2_int max_two min_two max_three min_three max_four min_four
set_option linter.unusedVariables false
set_option linter.unusedSimpArgs false

def laws_eqOcc.f (k : Nat) (a0_0 : Int) (a0_1 : Int) (l0_2 : List Int) (a1_0 : Int) (a1_1 : Int) (l1_2 : List Int) : Option (Bool) := if a0_0 = a1_0 then (if a0_1 = a1_1 then ((laws_eqIntS.f k l0_2 l1_2).bind fun t103 => (if t103 = true then (some true) else (some false))) else (some false)) else (some false)
theorem laws_eqOcc.mono : ∀ a0 a1 a2 a3 a4 a5 k, LeO (laws_eqOcc.f k a0 a1 a2 a3 a4 a5) (laws_eqOcc.f (k + 1) a0 a1 a2 a3 a4 a5) := by
 intro a0 a1 a2 a3 a4 a5 k
 unfold laws_eqOcc.f
 repeat' first
   | (with_reducible exact laws_eqIntS.mono _ _ _)
   | (with_reducible exact LeO.refl _)
   | (with_reducible exact LeO.none _)
   | (with_reducible refine LeO.ite ?_ ?_)
   | (with_reducible refine LeO.bind ?_ (fun _ => ?_))
   | exact laws_eqIntS.mono _ _ _
   | exact LeO.none _
   | refine LeO.ite ?_ ?_
   | refine LeO.bind ?_ (fun _ => ?_)
set_option maxHeartbeats 8000000 in
set_option maxRecDepth 100000 in
theorem laws_eqOcc.calls (k : Nat) (a0_0 : Int) (a0_1 : Int) (A0_2 : Option Addr) (c0_2 : Nat) (l0_2 : List Int) (a1_0 : Int) (a1_1 : Int) (A1_2 : Option Addr) (c1_2 : Nat) (l1_2 : List Int) (r : Bool) (hT_ : Aside0 (r = true)) (w : World) (hr0_2 : Kd.C (Kd.int .i64) w A0_2 l0_2.length l0_2) (hc0_2 : l0_2.length ≤ c0_2) (hr1_2 : Kd.C (Kd.int .i64) w A1_2 l1_2.length l1_2) (hc1_2 : l1_2.length ≤ c1_2) (h : laws_eqOcc.f k a0_0 a0_1 l0_2 a1_0 a1_1 l1_2 = some r) :
  Calls Try.prog 22 #[.agg #[.int .i64 a0_0, .int .i64 a0_1, .slice A0_2 l0_2.length c0_2], .agg #[.int .i64 a1_0, .int .i64 a1_1, .slice A1_2 l1_2.length c1_2]] w fun e w' => e = .returned (.bool r) ∧ Below w.heap.size w w' := by
 have hu27 := Try.underlying27
 have HR0_2 := Aside0.mk hr0_2
 have HC0_2 := Aside0.mk hc0_2
 clear hr0_2 hc0_2
 have HR1_2 := Aside0.mk hr1_2
 have HC1_2 := Aside0.mk hc1_2
 clear hr1_2 hc1_2
 have HB := Aside0.mk (Below.refl w.heap.size w)
 have H : (if a0_0 = a1_0 then (if a0_1 = a1_1 then ((laws_eqIntS.f k l0_2 l1_2).bind fun t103 => (if t103 = true then (some true) else (some false))) else (some false)) else (some false)) = some r := h
 clear h
 by_cases c3 : a0_0 = a1_0
 ·rw [if_pos c3] at H
  have c3b0 : (a0_0 == a1_0) = true := beq_iff_eq.mpr c3
  have c3b1 : (a0_0 != a1_0) = false := bne_eq_false_iff_eq.mpr c3
  clear c3
  by_cases c4 : a0_1 = a1_1
  ·rw [if_pos c4] at H
   have c4b0 : (a0_1 == a1_1) = true := beq_iff_eq.mpr c4
   have c4b1 : (a0_1 != a1_1) = false := bne_eq_false_iff_eq.mpr c4
   clear c4
   replace H := Option.bind_eq_some_iff.mp H
   obtain ⟨t103, A50, H⟩ := H
   replace H : (if t103 = true then (some true) else (some false)) = some r := H
   have A5 := Aside0.mk A50
   clear A50
   by_cases c6 : t103 = true
   ·subst c6
    have H1 : (some true) = some r := by rw [if_pos rfl] at H;exact H
    clear H
    have H := H1
    clear H1
    obtain rfl := Option.some.inj H
    go_enter Try.func22, Try.ntmps22
    go_wp2_with (first | ((with_reducible refine gate_dst (N := 2) rfl ?_);refine box_event ?hg (N := 2) ?hd (cs := #[.int .i64 a0_0, .int .i64 a0_1, .slice A0_2 l0_2.length c0_2]) (t := 27) ?hr ?_;(case hd => rfl);(case hg => rfl);(case hr => first | (go_simp;done) | (go_simp;rfl));intro gb101 hg w7 hbox hb;have BK101 := Aside0.mk (hbox);have GW101 := Aside0.mk ((by rw [hg];exact (below_size (by exact HB.out)) : w.heap.size ≤ gb101));have GE101 := Aside0.mk ((by rw [hg];exact (below_size (by exact HB.out)) : w.heap.size ≤ gb101));replace HB := Aside0.mk (below_step (by exact HB.out) hb);clear hb hbox hg) | ((with_reducible refine gate_dst (N := 3) rfl ?_);refine box_event ?hg (N := 3) ?hd (cs := #[.int .i64 a1_0, .int .i64 a1_1, .slice A1_2 l1_2.length c1_2]) (t := 27) ?hr ?_;(case hd => rfl);(case hg => rfl);(case hr => first | (go_simp;done) | (go_simp;rfl));intro gb102 hg w8 hbox hb;have BK102 := Aside0.mk (hbox);have GW102 := Aside0.mk ((by rw [hg];exact (below_size (by exact HB.out)) : w.heap.size ≤ gb102));have GE102 := Aside0.mk ((by rw [hg];exact (below_size (by exact HB.out)) : w.heap.size ≤ gb102));replace HB := Aside0.mk (below_step (by exact HB.out) hb);have NB101_102 := Aside0.mk ((by rw [hg];exact Nat.ne_of_lt (blk_lt BK101.out) : gb101 ≠ gb102));have NB102_101 := Aside0.mk ((by rw [hg];exact Nat.ne_of_gt (blk_lt BK101.out) : gb102 ≠ gb101));replace BK101 := Aside0.mk (blk_below BK101.out hb);clear hb hbox hg;have hnb9 := NB101_102.out;have hnc9 := NB102_101.out;obtain ⟨hcz10_0, hcz10_1, hcz10_2, hfz10_0, hfz10_1, hfz10_2⟩ := bx3 BK101.out;obtain ⟨hcz11_0, hcz11_1, hcz11_2, hfz11_0, hfz11_1, hfz11_2⟩ := bx3 BK102.out) | ((with_reducible refine gate_callee (f := 67) rfl ?_);refine goesL_ (some 19) rfl rfl Try.func67 (by kernel_rfl) rfl #[.slice A0_2 l0_2.length c0_2, .slice A1_2 l1_2.length c1_2] rfl (by (try simp only [List.map_toArray, List.map_cons, List.map_nil]);first | done | rfl | (simp only [List.length_drop, List.length_take];rfl)) ?_;(with_reducible refine (laws_eqIntS.calls k _ _ l0_2 _ _ l1_2 true ⟨rfl⟩ _ ?side1 ?side2 ?side3 ?side4 A5.out).mono ?_);(case side1 => repeat (first | exact (Kd.C_below HR0_2.out HB.out) | (with_reducible refine Kd.C_alloc ?_ _) | (with_reducible refine Kd.C_drewN ?_ _) | (with_reducible refine Kd.C_drew ?_)));(case side2 => exact HC0_2.out);(case side3 => repeat (first | exact (Kd.C_below HR1_2.out HB.out) | (with_reducible refine Kd.C_alloc ?_ _) | (with_reducible refine Kd.C_drewN ?_ _) | (with_reducible refine Kd.C_drew ?_)));(case side4 => exact HC1_2.out);rintro e w' ⟨rfl, ⟨nd, rfl⟩⟩;refine ⟨_, rfl, ?_⟩))
    go_ret
    exact ⟨by first | rfl | (simp [errW_none, errW_some] <;> rfl) | (simp [*, errW_none, errW_some] <;> rfl), by repeat (first | (with_reducible first | exact HB.out | apply below_alloc | apply pw_below_drewN | apply below_drew1 | refine below_set ?_ GE101.out | refine below_set ?_ GE102.out) | exact HB.out)⟩
   ·replace c6 := Bool.eq_false_iff.mpr c6
    subst c6
    have H1 : (some false) = some r := by rw [if_neg (show ¬ (false = true) by decide)] at H;exact H
    clear H
    have H := H1
    clear H1
    exact absurd (Option.some.inj H) (by rw [hT_.out];decide)
  ·rw [if_neg c4] at H
   have c4b0 : (a0_1 == a1_1) = false := beq_eq_false_iff_ne.mpr c4
   have c4b1 : (a0_1 != a1_1) = true := bne_iff_ne.mpr c4
   exact absurd (Option.some.inj H) (by rw [hT_.out];decide)
 ·rw [if_neg c3] at H
  have c3b0 : (a0_0 == a1_0) = false := beq_eq_false_iff_ne.mpr c3
  have c3b1 : (a0_0 != a1_0) = true := bne_iff_ne.mpr c3
  exact absurd (Option.some.inj H) (by rw [hT_.out];decide)

end Go.Proofs.Ytiplpckgmikmeaa.M
namespace Go.Proofs.Ytiplpckgmikmeaa.M
open Go.RowKit Go.Proofs.YtiplpckgmikmeaaW.PrintWords Go.Proofs.YtiplpckgmikmeaaW.PrintLast Go.Proofs.YtiplpckgmikmeaaW.PrintMore
attribute [local go_sem] max2_int min2_int max_two min_two max_three min_three max_four min_four
set_option linter.unusedVariables false
set_option linter.unusedSimpArgs false

def laws_eqOccS.l0 : Nat → List (S27) → List (S27) → Int → Option (Bool)
 | 0, _, _, _ => none
 | k + 1, x0, x1, x5 => if x5 < (x0.length : Int) then (if 0 ≤ x5 then (if x5 < (x1.length : Int) then ((laws_eqOcc.f k ((rd_T27 x0 x5).f0) ((rd_T27 x0 x5).f1) ((rd_T27 x0 x5).f2) ((rd_T27 x1 x5).f0) ((rd_T27 x1 x5).f1) ((rd_T27 x1 x5).f2)).bind fun t103 => (if t103 = true then (laws_eqOccS.l0 k x0 x1 (wrap64 (x5 + 1))) else (some false))) else (none)) else (none)) else (some true)
def laws_eqOccS.f (k : Nat) (l0 : List (S27)) (l1 : List (S27)) : Option (Bool) := if (l0.length : Int) = (l1.length : Int) then (laws_eqOccS.l0 k l0 l1 0) else (some false)
theorem laws_eqOccS.mono_l : ∀ k, (∀ y0 y1 y2, LeO (laws_eqOccS.l0 k y0 y1 y2) (laws_eqOccS.l0 (k + 1) y0 y1 y2))
 | 0 => fun _ _ _ r h => by simp [laws_eqOccS.l0] at h
 | k + 1 => by
  have ih0 := laws_eqOccS.mono_l k
  ·intro y0 y1 y2
   unfold laws_eqOccS.l0
   repeat' first
   | (with_reducible exact ih0 _ _ _)
   | (with_reducible exact laws_eqOcc.mono _ _ _ _ _ _ _)
   | (with_reducible exact LeO.refl _)
   | (with_reducible exact LeO.none _)
   | (with_reducible refine LeO.ite ?_ ?_)
   | (with_reducible refine LeO.bind ?_ (fun _ => ?_))
   | exact ih0 _ _ _
   | exact laws_eqOcc.mono _ _ _ _ _ _ _
   | exact LeO.none _
   | refine LeO.ite ?_ ?_
   | refine LeO.bind ?_ (fun _ => ?_)
theorem laws_eqOccS.mono : ∀ a0 a1 k, LeO (laws_eqOccS.f k a0 a1) (laws_eqOccS.f (k + 1) a0 a1) := by
 intro a0 a1 k
 have ih0 := laws_eqOccS.mono_l k
 unfold laws_eqOccS.f
 repeat' first
   | (with_reducible exact ih0 _ _ _)
   | (with_reducible exact laws_eqOcc.mono _ _ _ _ _ _ _)
   | (with_reducible exact LeO.refl _)
   | (with_reducible exact LeO.none _)
   | (with_reducible refine LeO.ite ?_ ?_)
   | (with_reducible refine LeO.bind ?_ (fun _ => ?_))
   | exact ih0 _ _ _
   | exact laws_eqOcc.mono _ _ _ _ _ _ _
   | exact LeO.none _
   | refine LeO.ite ?_ ?_
   | refine LeO.bind ?_ (fun _ => ?_)
def laws_eqOccS.T6 : Bool × List (List Nat × List Nat) := (true, [([], []), ([], []), ([0, 1], [0, 1]), ([2], [2]), ([], []), ([], []), ([4, 5], [4, 5]), ([6], [6]), ([3, 7], [3, 7]), ([8], [8])])
def laws_eqOccS.B6 : List Nat := [0, 0, 3, 7, 0, 0, 48, 112, 255, 511]
theorem laws_eqOccS.tab6 : rtab .any (opsOf Try.f27 6) = laws_eqOccS.T6 := by kernel_rfl
theorem laws_eqOccS.bits6 : waitsOk laws_eqOccS.T6.2 laws_eqOccS.B6 = true := by kernel_rfl
set_option maxHeartbeats 8000000 in
set_option maxRecDepth 100000 in
theorem laws_eqOccS.calls (k : Nat) (A0 : Option Addr) (c0 : Nat) (l0 : List (S27)) (A1 : Option Addr) (c1 : Nat) (l1 : List (S27)) (r : Bool) (hT_ : Aside0 (r = true)) (w : World) (hr0 : Kd.C k27 w A0 l0.length l0) (hc0 : l0.length ≤ c0) (hr1 : Kd.C k27 w A1 l1.length l1) (hc1 : l1.length ≤ c1) (h : laws_eqOccS.f k l0 l1 = some r) :
  Calls Try.prog 27 #[.slice A0 l0.length c0, .slice A1 l1.length c1] w fun e w' => e = .returned (.bool r) ∧ Below w.heap.size w w' := by
 have hu27 := Try.underlying27
 have HR0 := Aside0.mk hr0
 have HC0 := Aside0.mk hc0
 clear hr0 hc0
 have HR1 := Aside0.mk hr1
 have HC1 := Aside0.mk hc1
 clear hr1 hc1
 have HB := Aside0.mk (Below.refl w.heap.size w)
 have H : (if (l0.length : Int) = (l1.length : Int) then (laws_eqOccS.l0 k l0 l1 0) else (some false)) = some r := h
 clear h
 by_cases c3 : (l0.length : Int) = (l1.length : Int)
 ·rw [if_pos c3] at H
  have c3b0 : ((l0.length : Int) == (l1.length : Int)) = true := beq_iff_eq.mpr c3
  have c3b1 : ((l0.length : Int) != (l1.length : Int)) = false := bne_eq_false_iff_eq.mpr c3
  have c3b2 : (l0.length == l1.length) = true := by first | simpa using c3 | (simp at c3 ⊢;omega)
  clear c3
  have H' := Aside0.mk H
  clear H
  go_enter Try.func27, Try.ntmps27
  go_wp2
  go_loopg [5] k (fun kq v5 w' => ∃ (x5_1 : Int), v5 = .int .i64 x5_1 ∧ Aside0 (laws_eqOccS.l0 kq l0 l1 x5_1 = some r) ∧ Aside0 (kq ≤ k) ∧ Aside0 (Below w.heap.size w w'))
  case atStart => exact ⟨(0), (by first | rfl | (simp;done) | (simp [*];done)), H', ⟨Nat.le_refl _⟩, ⟨by repeat (first | (with_reducible first | exact HB.out | apply below_alloc | apply pw_below_drewN | apply below_drew1) | exact HB.out)⟩⟩
  case round =>
   clear H'
   try clear c1
   try clear c2
   try clear p2
   try clear c3
   try clear c3b0
   try clear c3b1
   try clear c3b2
   obtain ⟨x5_1, rfl, HA, HK1, HB⟩ := hrel
   cases gk with
   | zero => exact absurd HA.out (by simp [laws_eqOccS.l0])
   | succ k1 =>
    have H := HA.out
    clear HA
    simp only [laws_eqOccS.l0] at H
    by_cases c4 : x5_1 < (l0.length : Int)
    ·rw [if_pos c4] at H
     have c4b0 : decide (x5_1 < (l0.length : Int)) = true := decide_eq_true c4
     clear c4
     by_cases c5 : 0 ≤ x5_1
     ·rw [if_pos c5] at H
      have c5b0 : decide (0 ≤ x5_1) = true := decide_eq_true c5
      clear c5
      by_cases c6 : x5_1 < (l1.length : Int)
      ·rw [if_pos c6] at H
       have c6b0 : decide (x5_1 < (l1.length : Int)) = true := decide_eq_true c6
       clear c6
       replace H := Option.bind_eq_some_iff.mp H
       obtain ⟨t103, A70, H⟩ := H
       replace H : (if t103 = true then (laws_eqOccS.l0 k1 l0 l1 (wrap64 (x5_1 + 1))) else (some false)) = some r := H
       have A7 := Aside0.mk A70
       clear A70
       by_cases c8 : t103 = true
       ·subst c8
        have H1 : (laws_eqOccS.l0 k1 l0 l1 (wrap64 (x5_1 + 1))) = some r := by rw [if_pos rfl] at H;exact H
        clear H
        have H := H1
        clear H1
        have H' := Aside0.mk H
        clear H
        try go_wp2
        replace HB := Aside0.mk (below_drew1 HB.out)
        have p101 : 0 ≤ (x5_1 : Int) := of_decide_eq_true (by first | (with_reducible assumption) | assumption)
        have q101 : x5_1 < (l0.length : Int) := of_decide_eq_true (by first | (with_reducible assumption) | assumption)
        obtain ⟨ad101, A101_2, c101_2, e101, hx101_0, hx101_1, hx101_2, hl101_2, hi101_2⟩ := at_T27 HR0.out x5_1 p101 q101
        have hw101_2 := hx101_2
        have hw101_1 := hx101_1
        have hw101_0 := hx101_0
        cases e101
        replace hx101_0 := (HB.out.cell (World.block_lt_of_cell? w _ hx101_0)).trans hx101_0
        replace hx101_1 := (HB.out.cell (World.block_lt_of_cell? w _ hx101_1)).trans hx101_1
        replace hx101_2 := (HB.out.cell (World.block_lt_of_cell? w _ hx101_2)).trans hx101_2
        have HR101_2 := Aside0.mk hi101_2
        have HC101_2 := Aside0.mk hl101_2
        clear hi101_2 hl101_2
        replace p101 := eq_true p101
        replace q101 := eq_true q101
        have p102 : 0 ≤ (x5_1 : Int) := of_decide_eq_true (by first | (with_reducible assumption) | assumption)
        have q102 : x5_1 < (l1.length : Int) := of_decide_eq_true (by first | (with_reducible assumption) | assumption)
        obtain ⟨ad102, A102_2, c102_2, e102, hx102_0, hx102_1, hx102_2, hl102_2, hi102_2⟩ := at_T27 HR1.out x5_1 p102 q102
        have hw102_2 := hx102_2
        have hw102_1 := hx102_1
        have hw102_0 := hx102_0
        cases e102
        replace hx102_0 := (HB.out.cell (World.block_lt_of_cell? w _ hx102_0)).trans hx102_0
        replace hx102_1 := (HB.out.cell (World.block_lt_of_cell? w _ hx102_1)).trans hx102_1
        replace hx102_2 := (HB.out.cell (World.block_lt_of_cell? w _ hx102_2)).trans hx102_2
        have HR102_2 := Aside0.mk hi102_2
        have HC102_2 := Aside0.mk hl102_2
        clear hi102_2 hl102_2
        replace p102 := eq_true p102
        replace q102 := eq_true q102
        refine start_ (n := 10) (S := fun w' => w'.cell? (ad101.add ((x5_1).toNat * 3)) = some (.int .i64 ((rd_T27 l0 x5_1).f0)) ∧ w'.cell? ⟨(ad101.add ((x5_1).toNat * 3)).block, (ad101.add ((x5_1).toNat * 3)).off + 1, none⟩ = some (.int .i64 ((rd_T27 l0 x5_1).f1)) ∧ w'.cell? ⟨(ad101.add ((x5_1).toNat * 3)).block, (ad101.add ((x5_1).toNat * 3)).off + 2, none⟩ = some (.slice A101_2 ((rd_T27 l0 x5_1).f2).length c101_2) ∧ w'.cell? (ad102.add ((x5_1).toNat * 3)) = some (.int .i64 ((rd_T27 l1 x5_1).f0)) ∧ w'.cell? ⟨(ad102.add ((x5_1).toNat * 3)).block, (ad102.add ((x5_1).toNat * 3)).off + 1, none⟩ = some (.int .i64 ((rd_T27 l1 x5_1).f1)) ∧ w'.cell? ⟨(ad102.add ((x5_1).toNat * 3)).block, (ad102.add ((x5_1).toNat * 3)).off + 2, none⟩ = some (.slice A102_2 ((rd_T27 l1 x5_1).f2).length c102_2)) (ds := []) #[false, false, false, false, false, false, false, false, false, false] (by kernel_rfl) rfl rfl ⟨((HB.out.cell (World.block_lt_of_cell? w _ hw101_0)).trans hw101_0), ((HB.out.cell (World.block_lt_of_cell? w _ hw101_1)).trans hw101_1), ((HB.out.cell (World.block_lt_of_cell? w _ hw101_2)).trans hw101_2), ((HB.out.cell (World.block_lt_of_cell? w _ hw102_0)).trans hw102_0), ((HB.out.cell (World.block_lt_of_cell? w _ hw102_1)).trans hw102_1), ((HB.out.cell (World.block_lt_of_cell? w _ hw102_2)).trans hw102_2)⟩ (fun hHeld => ?_);refine with_tabW laws_eqOccS.tab6 laws_eqOccS.bits6 (fun HT_ HW_ => ?_)
        generalize wr.drew = w9 at HB HR101_2 HR102_2 hx101_0 hx101_1 hx101_2 hx102_0 hx102_1 hx102_2 hHeld ⊢
        refine pv_ 0 17 #[true, false, false, false, false, false, false, false, false, false] (any_of HT_.out (by kernel_rfl)) ?_
        refine pv_ 1 18 #[true, true, false, false, false, false, false, false, false, false] (any_of HT_.out (by kernel_rfl)) ?_
        refine pv_ 2 19 #[true, true, true, false, false, false, false, false, false, false] (any_of HT_.out (by kernel_rfl)) ?_
        refine pv_ 4 21 #[true, true, true, false, true, false, false, false, false, false] (any_of HT_.out (by kernel_rfl)) ?_
        refine pv_ 5 22 #[true, true, true, false, true, true, false, false, false, false] (any_of HT_.out (by kernel_rfl)) ?_
        refine pv_ 6 23 #[true, true, true, false, true, true, true, false, false, false] (any_of HT_.out (by kernel_rfl)) ?_
        refine take_ (i := 3) (N := some 20) (v := ?_) (a' := ?_) #[true, true, true, true, true, true, true, false, false, false] rfl rfl (take_ofW HT_.out HW_.out (by kernel_rfl)) (fun _ _ _ h => h) (Or.inl ⟨by rfl, ?_⟩) hHeld ?_ ?_
        rotate_left
        ·rintro w' ⟨s0, s1, s2, s3, s4, s5⟩
         go_simp
         with_reducible rfl
        rotate_left
        ·simp only [Act.put, List.setIfInBounds_toArray, List.set_cons_zero, List.set_cons_succ, i64_w, i32_w]
         rfl
        refine take_ (i := 7) (N := some 24) (v := ?_) (a' := ?_) #[true, true, true, true, true, true, true, true, false, false] rfl rfl (take_ofW HT_.out HW_.out (by kernel_rfl)) (fun _ _ _ h => h) (Or.inl ⟨by rfl, ?_⟩) hHeld ?_ ?_
        rotate_left
        ·rintro w' ⟨s0, s1, s2, s3, s4, s5⟩
         go_simp
         with_reducible rfl
        rotate_left
        ·simp only [Act.put, List.setIfInBounds_toArray, List.set_cons_zero, List.set_cons_succ, i64_w, i32_w]
         rfl
        refine one_ (i := 8) (N := some 25) #[true, true, true, true, true, true, true, true, true, false] rfl rfl (one_of HT_.out (by kernel_rfl)) (by decide) (fun K hK => ?_)
        refine goes_ Try.func22 (by kernel_rfl) rfl #[.agg #[.int .i64 ((rd_T27 l0 x5_1).f0), .int .i64 ((rd_T27 l0 x5_1).f1), .slice A101_2 ((rd_T27 l0 x5_1).f2).length c101_2], .agg #[.int .i64 ((rd_T27 l1 x5_1).f0), .int .i64 ((rd_T27 l1 x5_1).f1), .slice A102_2 ((rd_T27 l1 x5_1).f2).length c102_2]] (by rfl) rfl rfl (by (try simp only [List.map_toArray, List.map_cons, List.map_nil]);first | done | rfl | (simp only [List.length_drop, List.length_take];rfl)) ?_
        with_reducible refine (laws_eqOcc.calls k1 ((rd_T27 l0 x5_1).f0) ((rd_T27 l0 x5_1).f1) _ _ ((rd_T27 l0 x5_1).f2) ((rd_T27 l1 x5_1).f0) ((rd_T27 l1 x5_1).f1) _ _ ((rd_T27 l1 x5_1).f2) true ⟨rfl⟩ _ ?side1 ?side2 ?side3 ?side4 A7.out).mono ?_
        (case side1 => repeat (first | exact (Kd.C_below HR101_2.out HB.out) | (with_reducible refine Kd.C_alloc ?_ _) | (with_reducible refine Kd.C_drewN ?_ _) | (with_reducible refine Kd.C_drew ?_)))
        (case side2 => exact HC101_2.out)
        (case side3 => repeat (first | exact (Kd.C_below HR102_2.out HB.out) | (with_reducible refine Kd.C_alloc ?_ _) | (with_reducible refine Kd.C_drewN ?_ _) | (with_reducible refine Kd.C_drew ?_)))
        (case side4 => exact HC102_2.out)
        rintro e w10 ⟨rfl, hb⟩
        refine ⟨_, rfl, ?_⟩
        replace HB := Aside0.mk (below_step (by exact HB.out) hb)
        (try clear hb)
        (try clear hb2)
        (try clear hk)
        (try clear hi)
        refine hK.out _ _ ⟨((HB.out.cell (World.block_lt_of_cell? w _ hw101_0)).trans hw101_0), ((HB.out.cell (World.block_lt_of_cell? w _ hw101_1)).trans hw101_1), ((HB.out.cell (World.block_lt_of_cell? w _ hw101_2)).trans hw101_2), ((HB.out.cell (World.block_lt_of_cell? w _ hw102_0)).trans hw102_0), ((HB.out.cell (World.block_lt_of_cell? w _ hw102_1)).trans hw102_1), ((HB.out.cell (World.block_lt_of_cell? w _ hw102_2)).trans hw102_2)⟩ (fun hHeld => ?_)
        clear hK K
        refine norm_ (a' := ?_) ?_ ?_
        rotate_left
        ·show Act.put _ (some 25) _ = _
         simp only [Act.put, List.setIfInBounds_toArray, List.set_cons_zero, List.set_cons_succ, i64_w, i32_w]
         rfl
        refine pv_ 9 26 #[true, true, true, true, true, true, true, true, true, true] (any_of HT_.out (by kernel_rfl)) ?_
        refine done_ (done_of HT_.out (by kernel_rfl)) ?_
        try go_wp2
        go_roundg k1
        case measure => have := HK1.out;omega
        case rel => exact ⟨(wrap64 (x5_1 + 1)), (by first | rfl | (simp;done) | (simp [*];done)), H', ⟨by have := HK1.out;omega⟩, ⟨by repeat (first | (with_reducible first | exact HB.out | apply below_alloc | apply pw_below_drewN | apply below_drew1) | exact HB.out)⟩⟩
       ·replace c8 := Bool.eq_false_iff.mpr c8
        subst c8
        have H1 : (some false) = some r := by rw [if_neg (show ¬ (false = true) by decide)] at H;exact H
        clear H
        have H := H1
        clear H1
        exact absurd (Option.some.inj H) (by rw [hT_.out];decide)
      ·rw [if_neg c6] at H
       exact absurd H (by simp)
     ·rw [if_neg c5] at H
      exact absurd H (by simp)
    ·rw [if_neg c4] at H
     have c4b0 : decide (x5_1 < (l0.length : Int)) = false := decide_eq_false c4
     clear c4
     obtain rfl := Option.some.inj H
     go_wp2
     go_ret
     exact ⟨by first | rfl | (simp [errW_none, errW_some] <;> rfl) | (simp [*, errW_none, errW_some] <;> rfl), by repeat (first | (with_reducible first | exact HB.out | apply below_alloc | apply pw_below_drewN | apply below_drew1) | exact HB.out)⟩
 ·rw [if_neg c3] at H
  have c3b0 : ((l0.length : Int) == (l1.length : Int)) = false := beq_eq_false_iff_ne.mpr c3
  have c3b1 : ((l0.length : Int) != (l1.length : Int)) = true := bne_iff_ne.mpr c3
  have c3b2 : (l0.length == l1.length) = false := by first | simpa using c3 | (simp at c3 ⊢;omega)
  exact absurd (Option.some.inj H) (by rw [hT_.out];decide)

end Go.Proofs.Ytiplpckgmikmeaa.M
namespace Go.Proofs.Ytiplpckgmikmeaa.M
open Go.RowKit Go.Proofs.YtiplpckgmikmeaaW.PrintWords Go.Proofs.YtiplpckgmikmeaaW.PrintLast Go.Proofs.YtiplpckgmikmeaaW.PrintMore
attribute [local go_sem] max2_int min2_int max_two min_two max_three min_three max_four min_four
set_option linter.unusedVariables false
set_option linter.unusedSimpArgs false

def spec_OccsSame.l0 : Nat → List (S27) → List (S27) → Int → Option (Bool)
 | 0, _, _, _ => none
 | k + 1, x0, x1, x5 => if x5 < (x0.length : Int) then (if 0 ≤ x5 then (if x5 < (x1.length : Int) then ((spec_l3Same.f k ((rd_T27 x0 x5).f0) ((rd_T27 x0 x5).f1) ((rd_T27 x0 x5).f2) ((rd_T27 x1 x5).f0) ((rd_T27 x1 x5).f1) ((rd_T27 x1 x5).f2)).bind fun t103 => (if t103 = true then (spec_OccsSame.l0 k x0 x1 (wrap64 (x5 + 1))) else (some false))) else (none)) else (none)) else (some true)
def spec_OccsSame.f (k : Nat) (l0 : List (S27)) (l1 : List (S27)) : Option (Bool) := if (l0.length : Int) = (l1.length : Int) then (spec_OccsSame.l0 k l0 l1 0) else (some false)
theorem spec_OccsSame.mono_l : ∀ k, (∀ y0 y1 y2, LeO (spec_OccsSame.l0 k y0 y1 y2) (spec_OccsSame.l0 (k + 1) y0 y1 y2))
 | 0 => fun _ _ _ r h => by simp [spec_OccsSame.l0] at h
 | k + 1 => by
  have ih0 := spec_OccsSame.mono_l k
  ·intro y0 y1 y2
   unfold spec_OccsSame.l0
   repeat' first
   | (with_reducible exact ih0 _ _ _)
   | (with_reducible exact spec_l3Same.mono _ _ _ _ _ _ _)
   | (with_reducible exact LeO.refl _)
   | (with_reducible exact LeO.none _)
   | (with_reducible refine LeO.ite ?_ ?_)
   | (with_reducible refine LeO.bind ?_ (fun _ => ?_))
   | exact ih0 _ _ _
   | exact spec_l3Same.mono _ _ _ _ _ _ _
   | exact LeO.none _
   | refine LeO.ite ?_ ?_
   | refine LeO.bind ?_ (fun _ => ?_)
theorem spec_OccsSame.mono : ∀ a0 a1 k, LeO (spec_OccsSame.f k a0 a1) (spec_OccsSame.f (k + 1) a0 a1) := by
 intro a0 a1 k
 have ih0 := spec_OccsSame.mono_l k
 unfold spec_OccsSame.f
 repeat' first
   | (with_reducible exact ih0 _ _ _)
   | (with_reducible exact spec_l3Same.mono _ _ _ _ _ _ _)
   | (with_reducible exact LeO.refl _)
   | (with_reducible exact LeO.none _)
   | (with_reducible refine LeO.ite ?_ ?_)
   | (with_reducible refine LeO.bind ?_ (fun _ => ?_))
   | exact ih0 _ _ _
   | exact spec_l3Same.mono _ _ _ _ _ _ _
   | exact LeO.none _
   | refine LeO.ite ?_ ?_
   | refine LeO.bind ?_ (fun _ => ?_)
def spec_OccsSame.T6 : Bool × List (List Nat × List Nat) := (true, [([], []), ([], []), ([0, 1], [0, 1]), ([2], [2]), ([], []), ([], []), ([4, 5], [4, 5]), ([6], [6]), ([3, 7], [3, 7]), ([8], [8])])
def spec_OccsSame.B6 : List Nat := [0, 0, 3, 7, 0, 0, 48, 112, 255, 511]
theorem spec_OccsSame.tab6 : rtab .any (opsOf Try.f24 6) = spec_OccsSame.T6 := by kernel_rfl
theorem spec_OccsSame.bits6 : waitsOk spec_OccsSame.T6.2 spec_OccsSame.B6 = true := by kernel_rfl
set_option maxHeartbeats 8000000 in
set_option maxRecDepth 100000 in
theorem spec_OccsSame.calls (k : Nat) (A0 : Option Addr) (c0 : Nat) (l0 : List (S27)) (A1 : Option Addr) (c1 : Nat) (l1 : List (S27)) (r : Bool) (w : World) (hr0 : Kd.C k27 w A0 l0.length l0) (hc0 : l0.length ≤ c0) (hr1 : Kd.C k27 w A1 l1.length l1) (hc1 : l1.length ≤ c1) (h : spec_OccsSame.f k l0 l1 = some r) :
  Calls Try.prog 24 #[.slice A0 l0.length c0, .slice A1 l1.length c1] w fun e w' => e = .returned (.bool r) ∧ Below w.heap.size w w' := by
 have hu27 := Try.underlying27
 have HR0 := Aside0.mk hr0
 have HC0 := Aside0.mk hc0
 clear hr0 hc0
 have HR1 := Aside0.mk hr1
 have HC1 := Aside0.mk hc1
 clear hr1 hc1
 have HB := Aside0.mk (Below.refl w.heap.size w)
 have H : (if (l0.length : Int) = (l1.length : Int) then (spec_OccsSame.l0 k l0 l1 0) else (some false)) = some r := h
 clear h
 by_cases c3 : (l0.length : Int) = (l1.length : Int)
 ·rw [if_pos c3] at H
  have c3b0 : ((l0.length : Int) == (l1.length : Int)) = true := beq_iff_eq.mpr c3
  have c3b1 : ((l0.length : Int) != (l1.length : Int)) = false := bne_eq_false_iff_eq.mpr c3
  have c3b2 : (l0.length == l1.length) = true := by first | simpa using c3 | (simp at c3 ⊢;omega)
  clear c3
  have H' := Aside0.mk H
  clear H
  go_enter Try.func24, Try.ntmps24
  go_wp2
  go_loopg [5] k (fun kq v5 w' => ∃ (x5_1 : Int), v5 = .int .i64 x5_1 ∧ Aside0 (spec_OccsSame.l0 kq l0 l1 x5_1 = some r) ∧ Aside0 (kq ≤ k) ∧ Aside0 (Below w.heap.size w w'))
  case atStart => exact ⟨(0), (by first | rfl | (simp;done) | (simp [*];done)), H', ⟨Nat.le_refl _⟩, ⟨by repeat (first | (with_reducible first | exact HB.out | apply below_alloc | apply pw_below_drewN | apply below_drew1) | exact HB.out)⟩⟩
  case round =>
   clear H'
   try clear c1
   try clear c2
   try clear p2
   try clear c3
   try clear c3b0
   try clear c3b1
   try clear c3b2
   obtain ⟨x5_1, rfl, HA, HK1, HB⟩ := hrel
   cases gk with
   | zero => exact absurd HA.out (by simp [spec_OccsSame.l0])
   | succ k1 =>
    have H := HA.out
    clear HA
    simp only [spec_OccsSame.l0] at H
    by_cases c4 : x5_1 < (l0.length : Int)
    ·rw [if_pos c4] at H
     have c4b0 : decide (x5_1 < (l0.length : Int)) = true := decide_eq_true c4
     clear c4
     by_cases c5 : 0 ≤ x5_1
     ·rw [if_pos c5] at H
      have c5b0 : decide (0 ≤ x5_1) = true := decide_eq_true c5
      clear c5
      by_cases c6 : x5_1 < (l1.length : Int)
      ·rw [if_pos c6] at H
       have c6b0 : decide (x5_1 < (l1.length : Int)) = true := decide_eq_true c6
       clear c6
       replace H := Option.bind_eq_some_iff.mp H
       obtain ⟨t103, A70, H⟩ := H
       replace H : (if t103 = true then (spec_OccsSame.l0 k1 l0 l1 (wrap64 (x5_1 + 1))) else (some false)) = some r := H
       have A7 := Aside0.mk A70
       clear A70
       by_cases c8 : t103 = true
       ·subst c8
        have H1 : (spec_OccsSame.l0 k1 l0 l1 (wrap64 (x5_1 + 1))) = some r := by rw [if_pos rfl] at H;exact H
        clear H
        have H := H1
        clear H1
        have H' := Aside0.mk H
        clear H
        try go_wp2
        replace HB := Aside0.mk (below_drew1 HB.out)
        have p101 : 0 ≤ (x5_1 : Int) := of_decide_eq_true (by first | (with_reducible assumption) | assumption)
        have q101 : x5_1 < (l0.length : Int) := of_decide_eq_true (by first | (with_reducible assumption) | assumption)
        obtain ⟨ad101, A101_2, c101_2, e101, hx101_0, hx101_1, hx101_2, hl101_2, hi101_2⟩ := at_T27 HR0.out x5_1 p101 q101
        have hw101_2 := hx101_2
        have hw101_1 := hx101_1
        have hw101_0 := hx101_0
        cases e101
        replace hx101_0 := (HB.out.cell (World.block_lt_of_cell? w _ hx101_0)).trans hx101_0
        replace hx101_1 := (HB.out.cell (World.block_lt_of_cell? w _ hx101_1)).trans hx101_1
        replace hx101_2 := (HB.out.cell (World.block_lt_of_cell? w _ hx101_2)).trans hx101_2
        have HR101_2 := Aside0.mk hi101_2
        have HC101_2 := Aside0.mk hl101_2
        clear hi101_2 hl101_2
        replace p101 := eq_true p101
        replace q101 := eq_true q101
        have p102 : 0 ≤ (x5_1 : Int) := of_decide_eq_true (by first | (with_reducible assumption) | assumption)
        have q102 : x5_1 < (l1.length : Int) := of_decide_eq_true (by first | (with_reducible assumption) | assumption)
        obtain ⟨ad102, A102_2, c102_2, e102, hx102_0, hx102_1, hx102_2, hl102_2, hi102_2⟩ := at_T27 HR1.out x5_1 p102 q102
        have hw102_2 := hx102_2
        have hw102_1 := hx102_1
        have hw102_0 := hx102_0
        cases e102
        replace hx102_0 := (HB.out.cell (World.block_lt_of_cell? w _ hx102_0)).trans hx102_0
        replace hx102_1 := (HB.out.cell (World.block_lt_of_cell? w _ hx102_1)).trans hx102_1
        replace hx102_2 := (HB.out.cell (World.block_lt_of_cell? w _ hx102_2)).trans hx102_2
        have HR102_2 := Aside0.mk hi102_2
        have HC102_2 := Aside0.mk hl102_2
        clear hi102_2 hl102_2
        replace p102 := eq_true p102
        replace q102 := eq_true q102
        refine start_ (n := 10) (S := fun w' => w'.cell? (ad101.add ((x5_1).toNat * 3)) = some (.int .i64 ((rd_T27 l0 x5_1).f0)) ∧ w'.cell? ⟨(ad101.add ((x5_1).toNat * 3)).block, (ad101.add ((x5_1).toNat * 3)).off + 1, none⟩ = some (.int .i64 ((rd_T27 l0 x5_1).f1)) ∧ w'.cell? ⟨(ad101.add ((x5_1).toNat * 3)).block, (ad101.add ((x5_1).toNat * 3)).off + 2, none⟩ = some (.slice A101_2 ((rd_T27 l0 x5_1).f2).length c101_2) ∧ w'.cell? (ad102.add ((x5_1).toNat * 3)) = some (.int .i64 ((rd_T27 l1 x5_1).f0)) ∧ w'.cell? ⟨(ad102.add ((x5_1).toNat * 3)).block, (ad102.add ((x5_1).toNat * 3)).off + 1, none⟩ = some (.int .i64 ((rd_T27 l1 x5_1).f1)) ∧ w'.cell? ⟨(ad102.add ((x5_1).toNat * 3)).block, (ad102.add ((x5_1).toNat * 3)).off + 2, none⟩ = some (.slice A102_2 ((rd_T27 l1 x5_1).f2).length c102_2)) (ds := []) #[false, false, false, false, false, false, false, false, false, false] (by kernel_rfl) rfl rfl ⟨((HB.out.cell (World.block_lt_of_cell? w _ hw101_0)).trans hw101_0), ((HB.out.cell (World.block_lt_of_cell? w _ hw101_1)).trans hw101_1), ((HB.out.cell (World.block_lt_of_cell? w _ hw101_2)).trans hw101_2), ((HB.out.cell (World.block_lt_of_cell? w _ hw102_0)).trans hw102_0), ((HB.out.cell (World.block_lt_of_cell? w _ hw102_1)).trans hw102_1), ((HB.out.cell (World.block_lt_of_cell? w _ hw102_2)).trans hw102_2)⟩ (fun hHeld => ?_);refine with_tabW spec_OccsSame.tab6 spec_OccsSame.bits6 (fun HT_ HW_ => ?_)
        generalize wr.drew = w9 at HB HR101_2 HR102_2 hx101_0 hx101_1 hx101_2 hx102_0 hx102_1 hx102_2 hHeld ⊢
        refine pv_ 0 17 #[true, false, false, false, false, false, false, false, false, false] (any_of HT_.out (by kernel_rfl)) ?_
        refine pv_ 1 18 #[true, true, false, false, false, false, false, false, false, false] (any_of HT_.out (by kernel_rfl)) ?_
        refine pv_ 2 19 #[true, true, true, false, false, false, false, false, false, false] (any_of HT_.out (by kernel_rfl)) ?_
        refine pv_ 4 21 #[true, true, true, false, true, false, false, false, false, false] (any_of HT_.out (by kernel_rfl)) ?_
        refine pv_ 5 22 #[true, true, true, false, true, true, false, false, false, false] (any_of HT_.out (by kernel_rfl)) ?_
        refine pv_ 6 23 #[true, true, true, false, true, true, true, false, false, false] (any_of HT_.out (by kernel_rfl)) ?_
        refine take_ (i := 3) (N := some 20) (v := ?_) (a' := ?_) #[true, true, true, true, true, true, true, false, false, false] rfl rfl (take_ofW HT_.out HW_.out (by kernel_rfl)) (fun _ _ _ h => h) (Or.inl ⟨by rfl, ?_⟩) hHeld ?_ ?_
        rotate_left
        ·rintro w' ⟨s0, s1, s2, s3, s4, s5⟩
         go_simp
         with_reducible rfl
        rotate_left
        ·simp only [Act.put, List.setIfInBounds_toArray, List.set_cons_zero, List.set_cons_succ, i64_w, i32_w]
         rfl
        refine take_ (i := 7) (N := some 24) (v := ?_) (a' := ?_) #[true, true, true, true, true, true, true, true, false, false] rfl rfl (take_ofW HT_.out HW_.out (by kernel_rfl)) (fun _ _ _ h => h) (Or.inl ⟨by rfl, ?_⟩) hHeld ?_ ?_
        rotate_left
        ·rintro w' ⟨s0, s1, s2, s3, s4, s5⟩
         go_simp
         with_reducible rfl
        rotate_left
        ·simp only [Act.put, List.setIfInBounds_toArray, List.set_cons_zero, List.set_cons_succ, i64_w, i32_w]
         rfl
        refine one_ (i := 8) (N := some 25) #[true, true, true, true, true, true, true, true, true, false] rfl rfl (one_of HT_.out (by kernel_rfl)) (by decide) (fun K hK => ?_)
        refine goes_ Try.func68 (by kernel_rfl) rfl #[.agg #[.int .i64 ((rd_T27 l0 x5_1).f0), .int .i64 ((rd_T27 l0 x5_1).f1), .slice A101_2 ((rd_T27 l0 x5_1).f2).length c101_2], .agg #[.int .i64 ((rd_T27 l1 x5_1).f0), .int .i64 ((rd_T27 l1 x5_1).f1), .slice A102_2 ((rd_T27 l1 x5_1).f2).length c102_2]] (by rfl) rfl rfl (by (try simp only [List.map_toArray, List.map_cons, List.map_nil]);first | done | rfl | (simp only [List.length_drop, List.length_take];rfl)) ?_
        with_reducible refine (spec_l3Same.calls k1 ((rd_T27 l0 x5_1).f0) ((rd_T27 l0 x5_1).f1) _ _ ((rd_T27 l0 x5_1).f2) ((rd_T27 l1 x5_1).f0) ((rd_T27 l1 x5_1).f1) _ _ ((rd_T27 l1 x5_1).f2) true _ ?side1 ?side2 ?side3 ?side4 A7.out).mono ?_
        (case side1 => repeat (first | exact (Kd.C_below HR101_2.out HB.out) | (with_reducible refine Kd.C_alloc ?_ _) | (with_reducible refine Kd.C_drewN ?_ _) | (with_reducible refine Kd.C_drew ?_)))
        (case side2 => exact HC101_2.out)
        (case side3 => repeat (first | exact (Kd.C_below HR102_2.out HB.out) | (with_reducible refine Kd.C_alloc ?_ _) | (with_reducible refine Kd.C_drewN ?_ _) | (with_reducible refine Kd.C_drew ?_)))
        (case side4 => exact HC102_2.out)
        rintro e w10 ⟨rfl, hb⟩
        refine ⟨_, rfl, ?_⟩
        replace HB := Aside0.mk (below_step (by exact HB.out) hb)
        (try clear hb)
        (try clear hb2)
        (try clear hk)
        (try clear hi)
        refine hK.out _ _ ⟨((HB.out.cell (World.block_lt_of_cell? w _ hw101_0)).trans hw101_0), ((HB.out.cell (World.block_lt_of_cell? w _ hw101_1)).trans hw101_1), ((HB.out.cell (World.block_lt_of_cell? w _ hw101_2)).trans hw101_2), ((HB.out.cell (World.block_lt_of_cell? w _ hw102_0)).trans hw102_0), ((HB.out.cell (World.block_lt_of_cell? w _ hw102_1)).trans hw102_1), ((HB.out.cell (World.block_lt_of_cell? w _ hw102_2)).trans hw102_2)⟩ (fun hHeld => ?_)
        clear hK K
        refine norm_ (a' := ?_) ?_ ?_
        rotate_left
        ·show Act.put _ (some 25) _ = _
         simp only [Act.put, List.setIfInBounds_toArray, List.set_cons_zero, List.set_cons_succ, i64_w, i32_w]
         rfl
        refine pv_ 9 26 #[true, true, true, true, true, true, true, true, true, true] (any_of HT_.out (by kernel_rfl)) ?_
        refine done_ (done_of HT_.out (by kernel_rfl)) ?_
        try go_wp2
        go_roundg k1
        case measure => have := HK1.out;omega
        case rel => exact ⟨(wrap64 (x5_1 + 1)), (by first | rfl | (simp;done) | (simp [*];done)), H', ⟨by have := HK1.out;omega⟩, ⟨by repeat (first | (with_reducible first | exact HB.out | apply below_alloc | apply pw_below_drewN | apply below_drew1) | exact HB.out)⟩⟩
       ·replace c8 := Bool.eq_false_iff.mpr c8
        subst c8
        have H1 : (some false) = some r := by rw [if_neg (show ¬ (false = true) by decide)] at H;exact H
        clear H
        have H := H1
        clear H1
        obtain rfl := Option.some.inj H
        try go_wp2
        replace HB := Aside0.mk (below_drew1 HB.out)
        have p101 : 0 ≤ (x5_1 : Int) := of_decide_eq_true (by first | (with_reducible assumption) | assumption)
        have q101 : x5_1 < (l0.length : Int) := of_decide_eq_true (by first | (with_reducible assumption) | assumption)
        obtain ⟨ad101, A101_2, c101_2, e101, hx101_0, hx101_1, hx101_2, hl101_2, hi101_2⟩ := at_T27 HR0.out x5_1 p101 q101
        have hw101_2 := hx101_2
        have hw101_1 := hx101_1
        have hw101_0 := hx101_0
        cases e101
        replace hx101_0 := (HB.out.cell (World.block_lt_of_cell? w _ hx101_0)).trans hx101_0
        replace hx101_1 := (HB.out.cell (World.block_lt_of_cell? w _ hx101_1)).trans hx101_1
        replace hx101_2 := (HB.out.cell (World.block_lt_of_cell? w _ hx101_2)).trans hx101_2
        have HR101_2 := Aside0.mk hi101_2
        have HC101_2 := Aside0.mk hl101_2
        clear hi101_2 hl101_2
        replace p101 := eq_true p101
        replace q101 := eq_true q101
        have p102 : 0 ≤ (x5_1 : Int) := of_decide_eq_true (by first | (with_reducible assumption) | assumption)
        have q102 : x5_1 < (l1.length : Int) := of_decide_eq_true (by first | (with_reducible assumption) | assumption)
        obtain ⟨ad102, A102_2, c102_2, e102, hx102_0, hx102_1, hx102_2, hl102_2, hi102_2⟩ := at_T27 HR1.out x5_1 p102 q102
        have hw102_2 := hx102_2
        have hw102_1 := hx102_1
        have hw102_0 := hx102_0
        cases e102
        replace hx102_0 := (HB.out.cell (World.block_lt_of_cell? w _ hx102_0)).trans hx102_0
        replace hx102_1 := (HB.out.cell (World.block_lt_of_cell? w _ hx102_1)).trans hx102_1
        replace hx102_2 := (HB.out.cell (World.block_lt_of_cell? w _ hx102_2)).trans hx102_2
        have HR102_2 := Aside0.mk hi102_2
        have HC102_2 := Aside0.mk hl102_2
        clear hi102_2 hl102_2
        replace p102 := eq_true p102
        replace q102 := eq_true q102
        refine start_ (n := 10) (S := fun w' => w'.cell? (ad101.add ((x5_1).toNat * 3)) = some (.int .i64 ((rd_T27 l0 x5_1).f0)) ∧ w'.cell? ⟨(ad101.add ((x5_1).toNat * 3)).block, (ad101.add ((x5_1).toNat * 3)).off + 1, none⟩ = some (.int .i64 ((rd_T27 l0 x5_1).f1)) ∧ w'.cell? ⟨(ad101.add ((x5_1).toNat * 3)).block, (ad101.add ((x5_1).toNat * 3)).off + 2, none⟩ = some (.slice A101_2 ((rd_T27 l0 x5_1).f2).length c101_2) ∧ w'.cell? (ad102.add ((x5_1).toNat * 3)) = some (.int .i64 ((rd_T27 l1 x5_1).f0)) ∧ w'.cell? ⟨(ad102.add ((x5_1).toNat * 3)).block, (ad102.add ((x5_1).toNat * 3)).off + 1, none⟩ = some (.int .i64 ((rd_T27 l1 x5_1).f1)) ∧ w'.cell? ⟨(ad102.add ((x5_1).toNat * 3)).block, (ad102.add ((x5_1).toNat * 3)).off + 2, none⟩ = some (.slice A102_2 ((rd_T27 l1 x5_1).f2).length c102_2)) (ds := []) #[false, false, false, false, false, false, false, false, false, false] (by kernel_rfl) rfl rfl ⟨((HB.out.cell (World.block_lt_of_cell? w _ hw101_0)).trans hw101_0), ((HB.out.cell (World.block_lt_of_cell? w _ hw101_1)).trans hw101_1), ((HB.out.cell (World.block_lt_of_cell? w _ hw101_2)).trans hw101_2), ((HB.out.cell (World.block_lt_of_cell? w _ hw102_0)).trans hw102_0), ((HB.out.cell (World.block_lt_of_cell? w _ hw102_1)).trans hw102_1), ((HB.out.cell (World.block_lt_of_cell? w _ hw102_2)).trans hw102_2)⟩ (fun hHeld => ?_);refine with_tabW spec_OccsSame.tab6 spec_OccsSame.bits6 (fun HT_ HW_ => ?_)
        generalize wr.drew = w11 at HB HR101_2 HR102_2 hx101_0 hx101_1 hx101_2 hx102_0 hx102_1 hx102_2 hHeld ⊢
        refine pv_ 0 17 #[true, false, false, false, false, false, false, false, false, false] (any_of HT_.out (by kernel_rfl)) ?_
        refine pv_ 1 18 #[true, true, false, false, false, false, false, false, false, false] (any_of HT_.out (by kernel_rfl)) ?_
        refine pv_ 2 19 #[true, true, true, false, false, false, false, false, false, false] (any_of HT_.out (by kernel_rfl)) ?_
        refine pv_ 4 21 #[true, true, true, false, true, false, false, false, false, false] (any_of HT_.out (by kernel_rfl)) ?_
        refine pv_ 5 22 #[true, true, true, false, true, true, false, false, false, false] (any_of HT_.out (by kernel_rfl)) ?_
        refine pv_ 6 23 #[true, true, true, false, true, true, true, false, false, false] (any_of HT_.out (by kernel_rfl)) ?_
        refine take_ (i := 3) (N := some 20) (v := ?_) (a' := ?_) #[true, true, true, true, true, true, true, false, false, false] rfl rfl (take_ofW HT_.out HW_.out (by kernel_rfl)) (fun _ _ _ h => h) (Or.inl ⟨by rfl, ?_⟩) hHeld ?_ ?_
        rotate_left
        ·rintro w' ⟨s0, s1, s2, s3, s4, s5⟩
         go_simp
         with_reducible rfl
        rotate_left
        ·simp only [Act.put, List.setIfInBounds_toArray, List.set_cons_zero, List.set_cons_succ, i64_w, i32_w]
         rfl
        refine take_ (i := 7) (N := some 24) (v := ?_) (a' := ?_) #[true, true, true, true, true, true, true, true, false, false] rfl rfl (take_ofW HT_.out HW_.out (by kernel_rfl)) (fun _ _ _ h => h) (Or.inl ⟨by rfl, ?_⟩) hHeld ?_ ?_
        rotate_left
        ·rintro w' ⟨s0, s1, s2, s3, s4, s5⟩
         go_simp
         with_reducible rfl
        rotate_left
        ·simp only [Act.put, List.setIfInBounds_toArray, List.set_cons_zero, List.set_cons_succ, i64_w, i32_w]
         rfl
        refine one_ (i := 8) (N := some 25) #[true, true, true, true, true, true, true, true, true, false] rfl rfl (one_of HT_.out (by kernel_rfl)) (by decide) (fun K hK => ?_)
        refine goes_ Try.func68 (by kernel_rfl) rfl #[.agg #[.int .i64 ((rd_T27 l0 x5_1).f0), .int .i64 ((rd_T27 l0 x5_1).f1), .slice A101_2 ((rd_T27 l0 x5_1).f2).length c101_2], .agg #[.int .i64 ((rd_T27 l1 x5_1).f0), .int .i64 ((rd_T27 l1 x5_1).f1), .slice A102_2 ((rd_T27 l1 x5_1).f2).length c102_2]] (by rfl) rfl rfl (by (try simp only [List.map_toArray, List.map_cons, List.map_nil]);first | done | rfl | (simp only [List.length_drop, List.length_take];rfl)) ?_
        with_reducible refine (spec_l3Same.calls k1 ((rd_T27 l0 x5_1).f0) ((rd_T27 l0 x5_1).f1) _ _ ((rd_T27 l0 x5_1).f2) ((rd_T27 l1 x5_1).f0) ((rd_T27 l1 x5_1).f1) _ _ ((rd_T27 l1 x5_1).f2) false _ ?side1 ?side2 ?side3 ?side4 A7.out).mono ?_
        (case side1 => repeat (first | exact (Kd.C_below HR101_2.out HB.out) | (with_reducible refine Kd.C_alloc ?_ _) | (with_reducible refine Kd.C_drewN ?_ _) | (with_reducible refine Kd.C_drew ?_)))
        (case side2 => exact HC101_2.out)
        (case side3 => repeat (first | exact (Kd.C_below HR102_2.out HB.out) | (with_reducible refine Kd.C_alloc ?_ _) | (with_reducible refine Kd.C_drewN ?_ _) | (with_reducible refine Kd.C_drew ?_)))
        (case side4 => exact HC102_2.out)
        rintro e w12 ⟨rfl, hb⟩
        refine ⟨_, rfl, ?_⟩
        replace HB := Aside0.mk (below_step (by exact HB.out) hb)
        (try clear hb)
        (try clear hb2)
        (try clear hk)
        (try clear hi)
        refine hK.out _ _ ⟨((HB.out.cell (World.block_lt_of_cell? w _ hw101_0)).trans hw101_0), ((HB.out.cell (World.block_lt_of_cell? w _ hw101_1)).trans hw101_1), ((HB.out.cell (World.block_lt_of_cell? w _ hw101_2)).trans hw101_2), ((HB.out.cell (World.block_lt_of_cell? w _ hw102_0)).trans hw102_0), ((HB.out.cell (World.block_lt_of_cell? w _ hw102_1)).trans hw102_1), ((HB.out.cell (World.block_lt_of_cell? w _ hw102_2)).trans hw102_2)⟩ (fun hHeld => ?_)
        clear hK K
        refine norm_ (a' := ?_) ?_ ?_
        rotate_left
        ·show Act.put _ (some 25) _ = _
         simp only [Act.put, List.setIfInBounds_toArray, List.set_cons_zero, List.set_cons_succ, i64_w, i32_w]
         rfl
        refine pv_ 9 26 #[true, true, true, true, true, true, true, true, true, true] (any_of HT_.out (by kernel_rfl)) ?_
        refine done_ (done_of HT_.out (by kernel_rfl)) ?_
        try go_wp2
        go_ret
        exact ⟨by first | rfl | (simp [errW_none, errW_some] <;> rfl) | (simp [*, errW_none, errW_some] <;> rfl), by repeat (first | (with_reducible first | exact HB.out | apply below_alloc | apply pw_below_drewN | apply below_drew1) | exact HB.out)⟩
      ·rw [if_neg c6] at H
       exact absurd H (by simp)
     ·rw [if_neg c5] at H
      exact absurd H (by simp)
    ·rw [if_neg c4] at H
     have c4b0 : decide (x5_1 < (l0.length : Int)) = false := decide_eq_false c4
     clear c4
     obtain rfl := Option.some.inj H
     go_wp2
     go_ret
     exact ⟨by first | rfl | (simp [errW_none, errW_some] <;> rfl) | (simp [*, errW_none, errW_some] <;> rfl), by repeat (first | (with_reducible first | exact HB.out | apply below_alloc | apply pw_below_drewN | apply below_drew1) | exact HB.out)⟩
 ·rw [if_neg c3] at H
  have c3b0 : ((l0.length : Int) == (l1.length : Int)) = false := beq_eq_false_iff_ne.mpr c3
  have c3b1 : ((l0.length : Int) != (l1.length : Int)) = true := bne_iff_ne.mpr c3
  have c3b2 : (l0.length == l1.length) = false := by first | simpa using c3 | (simp at c3 ⊢;omega)
  obtain rfl := Option.some.inj H
  go_enter Try.func24, Try.ntmps24
  go_wp2
  go_ret
  exact ⟨by first | rfl | (simp [errW_none, errW_some] <;> rfl) | (simp [*, errW_none, errW_some] <;> rfl), by repeat (first | (with_reducible first | exact HB.out | apply below_alloc | apply pw_below_drewN | apply below_drew1) | exact HB.out)⟩

end Go.Proofs.Ytiplpckgmikmeaa.M
namespace Go.Proofs.Ytiplpckgmikmeaa.M
set_option linter.unusedVariables false
set_option linter.unusedSimpArgs false
open Go.RowKit Go.Proofs.YtiplpckgmikmeaaW.PrintWords Go.Proofs.YtiplpckgmikmeaaW.PrintLast

def cvO (x : S24) : S27 := ⟨x.f0, x.f1, x.f2⟩
def szO : List S24 → Nat
  | [] => 0
  | x :: xs => x.f2.length + szO xs
theorem szIntS_is (l : List Int) (a : Int) (h0 : 0 ≤ a) (h1 : a ≤ 1048576) (hl : l.length ≤ 9223372036854775807) : laws_szIntS.f l a = some (leftOf a l.length) := szIntS_ok l a h0 h1 hl
theorem szOcc_is (x : S24) (a : Int) (h0 : 0 ≤ a) (h1 : a ≤ 1048576) (hl : x.f2.length ≤ 9223372036854775807) : laws_szOcc.f x.f0 x.f1 x.f2 a = some (leftOf a x.f2.length) := by
  unfold laws_szOcc.f
  rw [szIntS_is _ _ h0 h1 hl, Option.bind_some]
  by_cases h : (x.f2.length : Int) ≤ a
  · rw [leftOf_pos h, if_neg (by omega)]
  · rw [leftOf_neg h, if_pos (by omega)]

def ShortL (l : List S24) : Prop := ∀ x ∈ l, x.f2.length ≤ 9223372036854775807
theorem ShortL.at_ {l : List S24} (h : ShortL l) (n : Nat) : (l.getD n z24).f2.length ≤ 9223372036854775807 := by
  rw [List.getD_eq_getElem?_getD]
  rcases Nat.lt_or_ge n l.length with hn | hn
  · rw [List.getElem?_eq_getElem hn]
    exact h _ (List.getElem_mem hn)
  · rw [List.getElem?_eq_none hn]
    show (z24).f2.length ≤ _
    simp [z24]
theorem szOccS_l0_ev (l : List S24) (hl : l.length ≤ 9223372036854775807) (hs : ShortL l) : ∀ (d n : Nat) (a : Int), n + d = l.length → 0 ≤ a → a ≤ 1048576 → Ev (fun k => laws_szOccS.l0 k l a (n : Int)) (leftOf a (szO (l.drop n))) := by
  intro d
  induction d with
  | zero =>
    intro n a hn h0 h1
    rw [List.drop_of_length_le (by omega), leftOf_pos (show ((szO [] : Nat) : Int) ≤ a from h0)]
    exact Ev.last (fun k => by simp only [laws_szOccS.l0]; rw [if_neg (by omega)]; simp [szO])
  | succ d ih =>
    intro n a hn h0 h1
    have hr : rd_T24 l (n : Int) = l.getD n z24 := rfl
    have hx := hs.at_ n
    rw [drop_at l z24 n (by omega)]
    refine Ev.step (fun k => by simp only [laws_szOccS.l0]; rw [if_pos (by omega), if_pos (by omega), hr, w_succ (by omega)]) ?_
    generalize l.getD n z24 = x at *
    refine Ev.bind (Ev.one (fun _ => szOcc_is x a h0 h1 hx)) ?_
    rw [szO]
    by_cases h : (x.f2.length : Int) ≤ a
    · rw [leftOf_pos h]
      refine Ev.neg (by omega) (Ev.val (ih (n + 1) (a - x.f2.length) (by omega) (by omega) (by omega)) ?_)
      unfold leftOf
      by_cases h2 : ((szO (l.drop (n + 1)) : Nat) : Int) ≤ a - x.f2.length
      · rw [if_pos h2, if_pos (by omega)]
        omega
      · rw [if_neg h2, if_neg (by omega)]
    · rw [leftOf_neg h, leftOf_neg (by omega)]
      exact Ev.pos (by omega) (Ev.now _)
def allO (l : List S24) : Nat := l.length + szO l
theorem szOccS_ev (l : List S24) (hl : l.length ≤ 9223372036854775807) (hs : ShortL l) (a : Int) (h0 : 0 ≤ a) (h1 : a ≤ 1048576) : Ev (fun k => laws_szOccS.f k l a) (leftOf a (allO l)) := by
  unfold laws_szOccS.f allO
  rw [w_small (by omega) (by omega)]
  by_cases h : (l.length : Int) ≤ a
  · refine Ev.neg (by omega) (Ev.val (szOccS_l0_ev l hl hs l.length 0 (a - l.length) (by omega) (by omega) (by omega)) ?_)
    rw [List.drop_zero]
    unfold leftOf
    by_cases h2 : ((szO l : Nat) : Int) ≤ a - l.length
    · rw [if_pos h2, if_pos (by omega)]
      omega
    · rw [if_neg h2, if_neg (by omega)]
  · rw [leftOf_neg (by omega)]
    exact Ev.pos (by omega) (Ev.now _)
theorem szO_mem : ∀ (l : List S24) (x : S24), x ∈ l → x.f2.length ≤ szO l
  | [], _, h => by simp at h
  | y :: ys, x, h => by
    rw [szO]
    rcases List.mem_cons.1 h with rfl | h
    · omega
    · have := szO_mem ys x h
      omega
def FewO (l : List S24) : Prop := allO l ≤ 1048576
theorem FewO.len {l : List S24} (h : FewO l) : l.length ≤ 1048576 := by unfold FewO allO at h; omega
theorem FewO.ids {l : List S24} (h : FewO l) (x : S24) (hx : x ∈ l) : x.f2.length ≤ 1048576 := by
  have := szO_mem l x hx
  unfold FewO allO at h
  omega

theorem toOcc_ev (x : S24) (hl : x.f2.length ≤ 1048576) : Ev (fun k => laws_toOcc.f k x.f0 x.f1 x.f2) (x.f0, x.f1, x.f2) := by
  unfold laws_toOcc.f
  exact Ev.bindS (toIntS_ev x.f2 hl) rfl
theorem toOccS_l0_ev (l : List S24) (hl : FewO l) : ∀ (d n : Nat) (a : List S27), n + d = l.length → a.length = l.length → Ev (fun k => laws_toOccS.l0 k l a (n : Int)) (a.take n ++ (l.drop n).map cvO) := by
  have hlen := hl.len
  intro d
  induction d with
  | zero =>
    intro n a hn ha
    rw [List.drop_of_length_le (by omega), List.take_of_length_le (by omega), List.map_nil, List.append_nil]
    exact Ev.last (fun k => by simp only [laws_toOccS.l0]; rw [if_neg (by omega)])
  | succ d ih =>
    intro n a hn ha
    have hlt : n < l.length := by omega
    have hr : rd_T24 l (n : Int) = l.getD n z24 := rfl
    have hx : (l.getD n z24).f2.length ≤ 1048576 := by
      refine hl.ids _ ?_
      rw [List.getD_eq_getElem?_getD, List.getElem?_eq_getElem hlt]
      exact List.getElem_mem hlt
    rw [drop_at l z24 n hlt]
    have next := ih (n + 1) (a.set n (cvO (l.getD n z24))) (by omega) (by rw [List.length_set]; exact ha)
    rw [take_set a n _ (by omega), List.append_assoc] at next
    refine Ev.step (fun k => by simp only [laws_toOccS.l0]; rw [if_pos (by omega), if_pos (by omega), w_succ (by omega), hr, Int.toNat_natCast]) ?_
    refine Ev.bind (toOcc_ev _ hx) (Ev.pos (by omega) ?_)
    rw [List.map_cons]
    exact next
theorem toOccS_ev (l : List S24) (hl : FewO l) : Ev (fun k => laws_toOccS.f k l) (l.map cvO) := by
  have hlen := hl.len
  unfold laws_toOccS.f
  refine Ev.pos (by omega) (Ev.pos (by omega) ?_)
  have := toOccS_l0_ev l hl l.length 0 (List.replicate l.length z27) (by omega) (by simp)
  rw [Int.toNat_natCast]
  exact this
theorem short_map (l : List S24) (hl : FewO l) : Short (l.map cvO) := by
  intro x hx
  obtain ⟨y, hy, rfl⟩ := List.mem_map.1 hx
  have := hl.ids y hy
  show y.f2.length ≤ _
  omega

theorem eqOcc_ev (o : S27) (hl : o.f2.length ≤ 9223372036854775806) : Ev (fun k => laws_eqOcc.f k o.f0 o.f1 o.f2 o.f0 o.f1 o.f2) true := by
  unfold laws_eqOcc.f
  exact Ev.pos rfl (Ev.pos rfl (Ev.bindS (eqIntS_ev o.f2 (by omega)) rfl))
theorem eqOccS_l0_ev (l : List S27) (hl : l.length ≤ 9223372036854775806) (hs : Short l) : ∀ d n : Nat, n + d = l.length → Ev (fun k => laws_eqOccS.l0 k l l (n : Int)) true := by
  intro d
  induction d with
  | zero =>
    intro n hn
    exact Ev.last (fun k => by simp only [laws_eqOccS.l0]; rw [if_neg (by omega)])
  | succ d ih =>
    intro n hn
    have hr : rd_T27 l (n : Int) = l.getD n z27 := rfl
    refine Ev.step (fun k => by simp only [laws_eqOccS.l0]; rw [if_pos (by omega), if_pos (by omega), if_pos (by omega), hr, w_succ (by omega)]) ?_
    exact Ev.bind (eqOcc_ev _ (hs.at_ n)) (Ev.pos rfl (ih (n + 1) (by omega)))
theorem eqOccS_ev (l : List S27) (hl : l.length ≤ 9223372036854775806) (hs : Short l) : Ev (fun k => laws_eqOccS.f k l l) true := by
  unfold laws_eqOccS.f
  exact Ev.pos rfl (eqOccS_l0_ev l hl hs l.length 0 (by omega))

theorem cmpI_eq : ∀ a b : List Int, cmpI a b = 0 ↔ a = b
  | [], [] => by simp [cmpI]
  | [], _ :: _ => by simp [cmpI]
  | _ :: _, [] => by simp [cmpI]
  | a :: xs, b :: ys => by
    unfold cmpI
    by_cases h1 : a < b
    · rw [if_pos h1]
      constructor
      · intro h; exact absurd h (by decide)
      · intro h; injection h with h _; omega
    · rw [if_neg h1]
      by_cases h2 : a > b
      · rw [if_pos h2]
        constructor
        · intro h; exact absurd h (by decide)
        · intro h; injection h with h _; omega
      · rw [if_neg h2, cmpI_eq xs ys]
        have : a = b := by omega
        subst this
        simp
theorem sgn_ne (b : Bool) : sgn b ≠ 0 := by cases b <;> decide
theorem cmpO_eq (a b : S27) : cmpO a b = 0 ↔ a = b := by
  obtain ⟨a0, a1, a2⟩ := a
  obtain ⟨b0, b1, b2⟩ := b
  unfold cmpO
  dsimp only
  by_cases h1 : a1 = b1
  · rw [if_pos h1]
    by_cases h0 : a0 = b0
    · rw [if_pos h0, cmpI_eq]
      subst h1
      subst h0
      simp
    · rw [if_neg h0]
      constructor
      · intro h; exact absurd h (sgn_ne _)
      · intro h; injection h with h _ _; exact absurd h h0
  · rw [if_neg h1]
    constructor
    · intro h; exact absurd h (sgn_ne _)
    · intro h; injection h with _ h _; exact absurd h h1
def occsEq : List S27 → List S27 → Bool
  | [], [] => true
  | x :: xs, y :: ys => (cmpO x y == 0) && occsEq xs ys
  | _, _ => false
theorem occsEq_iff : ∀ a b : List S27, occsEq a b = true ↔ a = b
  | [], [] => by simp [occsEq]
  | [], _ :: _ => by simp [occsEq]
  | _ :: _, [] => by simp [occsEq]
  | x :: xs, y :: ys => by
    unfold occsEq
    rw [Bool.and_eq_true, occsEq_iff xs ys, beq_iff_eq, cmpO_eq]
    simp
theorem occsEq_self (a : List S27) : occsEq a a = true := (occsEq_iff a a).2 rfl
theorem occsEq_len (a b : List S27) (h : a.length ≠ b.length) : occsEq a b = false := by
  rw [Bool.eq_false_iff]
  intro e
  exact h (by rw [(occsEq_iff a b).1 e])

theorem l3Same_ev (a b : S27) (ha : a.f2.length ≤ 9223372036854775806) (hb : b.f2.length ≤ 9223372036854775806) : Ev (fun k => spec_l3Same.f k a.f0 a.f1 a.f2 b.f0 b.f1 b.f2) (cmpO a b == 0) := by
  have no : a ≠ b → (cmpO a b == 0) = false := fun h => beq_eq_false_iff_ne.2 (fun e => h ((cmpO_eq a b).1 e))
  unfold spec_l3Same.f
  by_cases h0 : a.f0 = b.f0
  · refine Ev.pos h0 ?_
    by_cases h1 : a.f1 = b.f1
    · refine Ev.pos h1 ?_
      by_cases h2 : (a.f2.length : Int) = (b.f2.length : Int)
      · refine Ev.pos h2 (Ev.bindS (l3Ids_ev _ _ ha hb) ?_)
        unfold cmpO
        rw [if_pos h1, if_pos h0]
      · rw [no (fun e => h2 (by rw [e]))]
        exact Ev.neg h2 (Ev.now _)
    · rw [no (fun e => h1 (by rw [e]))]
      exact Ev.neg h1 (Ev.now _)
  · rw [no (fun e => h0 (by rw [e]))]
    exact Ev.neg h0 (Ev.now _)
theorem spec_OccsSame_l0_ev (a b : List S27) (hl : a.length ≤ 9223372036854775806) (ha : Short a) (hb : Short b) (hab : a.length = b.length) : ∀ d n : Nat, n + d = a.length → Ev (fun k => spec_OccsSame.l0 k a b (n : Int)) (occsEq (a.drop n) (b.drop n)) := by
  intro d
  induction d with
  | zero =>
    intro n hn
    rw [List.drop_of_length_le (by omega), List.drop_of_length_le (by omega)]
    exact Ev.last (fun k => by simp only [spec_OccsSame.l0]; rw [if_neg (by omega)]; rfl)
  | succ d ih =>
    intro n hn
    have hra : rd_T27 a (n : Int) = a.getD n z27 := rfl
    have hrb : rd_T27 b (n : Int) = b.getD n z27 := rfl
    have hx := ha.at_ n
    have hy := hb.at_ n
    rw [drop_at a z27 n (by omega), drop_at b z27 n (by omega)]
    have next := ih (n + 1) (by omega)
    refine Ev.step (fun k => by simp only [spec_OccsSame.l0]; rw [if_pos (by omega), if_pos (by omega), if_pos (by omega), hra, hrb, w_succ (by omega)]) ?_
    generalize a.getD n z27 = x at *
    generalize b.getD n z27 = y at *
    refine Ev.bind (l3Same_ev x y hx hy) ?_
    unfold occsEq
    by_cases h : (cmpO x y == 0) = true
    · rw [h]
      exact Ev.pos rfl next
    · refine Ev.neg h ?_
      simp only [Bool.not_eq_true] at h
      rw [h]
      exact Ev.now _
theorem spec_OccsSame_ev (a b : List S27) (hl : a.length ≤ 9223372036854775806) (ha : Short a) (hb : Short b) : Ev (fun k => spec_OccsSame.f k a b) (occsEq a b) := by
  unfold spec_OccsSame.f
  by_cases h : a.length = b.length
  · exact Ev.pos (by omega) (spec_OccsSame_l0_ev a b hl ha hb h a.length 0 (by omega))
  · rw [occsEq_len a b h]
    exact Ev.neg (by omega) (Ev.now _)
theorem impl_EqualFunc_l0_ev (a b : List S27) (hl : a.length ≤ 9223372036854775806) (ha : Short a) (hb : Short b) (hab : a.length = b.length) : ∀ d n : Nat, n + d = a.length → Ev (fun k => impl_Occ_69.l0 k b a (a.length : Int) (n : Int)) (occsEq (a.drop n) (b.drop n)) := by
  intro d
  induction d with
  | zero =>
    intro n hn
    rw [List.drop_of_length_le (by omega), List.drop_of_length_le (by omega)]
    exact Ev.last (fun k => by simp only [impl_Occ_69.l0]; rw [if_neg (by omega)]; rfl)
  | succ d ih =>
    intro n hn
    have hra : rd_T27 a (n : Int) = a.getD n z27 := rfl
    have hrb : rd_T27 b (n : Int) = b.getD n z27 := rfl
    have hx := ha.at_ n
    have hy := hb.at_ n
    rw [drop_at a z27 n (by omega), drop_at b z27 n (by omega)]
    have next := ih (n + 1) (by omega)
    refine Ev.step (fun k => by simp only [impl_Occ_69.l0, impl_OccsSame_1.f]; rw [if_pos (by omega), if_pos (by omega), if_pos (by omega), if_pos (by omega), hra, hrb, w_succ (by omega)]) ?_
    generalize a.getD n z27 = x at *
    generalize b.getD n z27 = y at *
    refine Ev.bind (a := cmpO x y == 0) (Ev.bindS (impl_compare_ev x y hx hy) rfl) ?_
    unfold occsEq
    by_cases h : (cmpO x y == 0) = true
    · rw [h]
      exact Ev.pos rfl next
    · refine Ev.neg h ?_
      simp only [Bool.not_eq_true] at h
      rw [h]
      exact Ev.now _
theorem impl_OccsSame_ev (a b : List S27) (hl : a.length ≤ 9223372036854775806) (ha : Short a) (hb : Short b) : Ev (fun k => impl_OccsSame.f k a b) (occsEq a b) := by
  unfold impl_OccsSame.f impl_Occ_69.f
  refine Ev.bindS (a := occsEq a b) ?_ rfl
  by_cases h : a.length = b.length
  · exact Ev.pos (by omega) (impl_EqualFunc_l0_ev a b hl ha hb h a.length 0 (by omega))
  · rw [occsEq_len a b h]
    exact Ev.neg (by omega) (Ev.now _)
end Go.Proofs.Ytiplpckgmikmeaa.M
namespace Go.Proofs.Ytiplpckgmikmeaa.M
set_option linter.unusedVariables false
set_option linter.unusedSimpArgs false
open Go.RowKit Go.Proofs.YtiplpckgmikmeaaW.PrintWords Go.Proofs.YtiplpckgmikmeaaW.PrintLast

theorem l3Any_l0_ev (bs : List Int) (hb : Bytes bs) (a b : Int) : ∀ (d : Nat) (ids : List Int) (x i p : Int), i = d → ids.length + d ≤ 100 → 0 ≤ p → p + d ≤ 100000 → ∃ ids', Ev (fun k => spec_l3Any.l0 k x i bs p a b ids) (a, b, ids', p + d) ∧ ids'.length = ids.length + d := by
  intro d
  induction d with
  | zero =>
    intro ids x i p hi hl h0 h1
    refine ⟨ids, Ev.last (fun k => ?_), by omega⟩
    simp only [spec_l3Any.l0]
    rw [if_neg (by omega)]
    simp
  | succ d ih =>
    intro ids x i p hi hl h0 h1
    obtain ⟨r, hr, _, _⟩ := pick_ev bs hb p 3 h0 (by omega)
    have w1 : wrap64 (i - 1) = i - 1 := w_small (by omega) (by omega)
    obtain ⟨ids', h2, h3⟩ := ih (ids ++ [x]) (wrap64 (wrap64 (x + 1) + r)) (i - 1) (p + 1) (by omega) (by rw [List.length_append, List.length_singleton]; omega) (by omega) (by omega)
    refine ⟨ids', ?_, by rw [h3, List.length_append, List.length_singleton]; omega⟩
    refine Ev.step (fun k => by simp only [spec_l3Any.l0]; rw [if_pos (by omega), if_pos (by omega), w1]) ?_
    exact Ev.bind hr (Ev.val h2 (by rw [show p + 1 + (d : Int) = p + ((d + 1 : Nat) : Int) by omega]))
theorem l3Any_ev (bs : List Int) (hb : Bytes bs) (p : Int) (h0 : 0 ≤ p) (h1 : p ≤ 90000) : ∃ (o : S27) (p' : Int), Ev (fun k => spec_l3Any.f k bs p) (o.f0, o.f1, o.f2, p') ∧ o.f2.length ≤ 10 ∧ 0 ≤ p' ∧ p' ≤ p + 10 := by
  obtain ⟨a, ha, _, _⟩ := pick_ev bs hb p 9 h0 (by omega)
  obtain ⟨n, hn, _⟩ := num_ev bs hb (p + 1) [0, 0, 1, 2, 5] (by simp) (by simp) (by omega) (by omega)
  obtain ⟨x, hx, _, _⟩ := pick_ev bs hb (p + 1 + 1) 3 (by omega) (by omega)
  obtain ⟨m, hm, m0, m1⟩ := pick_ev bs hb (p + 1 + 1 + 1) 3 (by omega) (by omega)
  have w1 : wrap64 (1 + m) = 1 + m := w_small (by omega) (by omega)
  obtain ⟨ids, h2, h3⟩ := l3Any_l0_ev bs hb (wrap64 (1 + a)) (wrap64 (wrap64 (1 + a) + n)) (1 + m).toNat [] x (1 + m) (p + 1 + 1 + 1 + 1) (by omega) (by simp; omega) (by omega) (by omega)
  refine ⟨⟨wrap64 (1 + a), wrap64 (wrap64 (1 + a) + n), ids⟩, p + 1 + 1 + 1 + 1 + ((1 + m).toNat : Int), ?_, by show ids.length ≤ 10; rw [h3]; simp; omega, by omega, by omega⟩
  unfold spec_l3Any.f
  exact Ev.bind ha (Ev.bind hn (Ev.bind hx (Ev.bind hm (by rw [w1]; exact h2))))
def putIx (l : List S27) (o : S27) : Nat → Nat → Nat
  | 0, i => i
  | d + 1, i => if lessO (l.getD i z27) o = true then putIx l o d (i + 1) else i
theorem putIx_le (l : List S27) (o : S27) : ∀ d i : Nat, i + d = l.length → putIx l o d i ≤ l.length
  | 0, i, h => by unfold putIx; omega
  | d + 1, i, h => by
    unfold putIx
    by_cases c : lessO (l.getD i z27) o = true
    · rw [if_pos c]; exact putIx_le l o d (i + 1) (by omega)
    · rw [if_neg c]; omega
def putS (l : List S27) (o : S27) : List S27 := if putIx l o l.length 0 < l.length ∧ (cmpO (l.getD (putIx l o l.length 0) z27) o == 0) = true then l else putIn l (putIx l o l.length 0) o
theorem putAt_ev (l : List S27) (hs : Short l) (o : S27) (ho : o.f2.length ≤ 9223372036854775806) : ∀ d i : Nat, Ev (fun k => putAt (fun x => spec_OccLess.f k x.f0 x.f1 x.f2 o.f0 o.f1 o.f2) l d i) (putIx l o d i) := by
  intro d
  induction d with
  | zero => exact fun i => Ev.now _
  | succ d ih =>
    intro i
    unfold putIx
    refine Ev.bind (spec_OccLess_ev (l.getD i z27) o (hs.at_ i) ho) ?_
    by_cases c : lessO (l.getD i z27) o = true
    · rw [if_pos c]; exact Ev.pos c (ih (i + 1))
    · rw [if_neg c]; exact Ev.neg c (Ev.now _)
theorem l3Put_ev (l : List S27) (hl : l.length < 1099511627776) (hs : Short l) (o : S27) (ho : o.f2.length < 1099511627776) : Ev (fun k => spec_l3Put.f k l o.f0 o.f1 o.f2) (putS l o) := by
  unfold spec_l3Put.f
  refine Ev.pos ⟨hl, ho⟩ (Ev.bind (putAt_ev l hs o (by omega) l.length 0) ?_)
  unfold putS
  by_cases c : putIx l o l.length 0 < l.length
  · refine Ev.pos c (Ev.bindS (l3Same_ev (l.getD (putIx l o l.length 0) z27) o (hs.at_ _) (by omega)) ?_)
    by_cases e : (cmpO (l.getD (putIx l o l.length 0) z27) o == 0) = true
    · rw [if_pos e, if_pos ⟨c, e⟩]
    · rw [if_neg e, if_neg (fun h => e h.2)]
  · refine Ev.neg c (Ev.val (Ev.now _) ?_)
    rw [if_neg (fun h => c h.1)]
theorem putS_len (l : List S27) (o : S27) : (putS l o).length ≤ l.length + 1 := by
  unfold putS
  by_cases c : putIx l o l.length 0 < l.length ∧ (cmpO (l.getD (putIx l o l.length 0) z27) o == 0) = true
  · rw [if_pos c]; omega
  · rw [if_neg c]
    unfold putIn
    rw [List.length_append, List.length_append, List.length_take, List.length_drop, List.length_singleton]
    omega
theorem putS_mem {l : List S27} {o x : S27} (h : x ∈ putS l o) : x ∈ l ∨ x = o := by
  unfold putS at h
  by_cases c : putIx l o l.length 0 < l.length ∧ (cmpO (l.getD (putIx l o l.length 0) z27) o == 0) = true
  · rw [if_pos c] at h; exact .inl h
  · rw [if_neg c] at h
    unfold putIn at h
    rcases List.mem_append.1 h with h | h
    · rcases List.mem_append.1 h with h | h
      · exact .inl (List.mem_of_mem_take h)
      · exact .inr (List.mem_singleton.1 h)
    · exact .inl (List.mem_of_mem_drop h)
def Few (l : List S27) : Prop := ∀ x ∈ l, x.f2.length ≤ 100
theorem Few.short {l : List S27} (h : Few l) : Short l := fun x hx => Nat.le_trans (h x hx) (by omega)
theorem Few.put {l : List S27} (h : Few l) {o : S27} (ho : o.f2.length ≤ 100) : Few (putS l o) := fun x hx => (putS_mem hx).elim (h x) (fun e => by rw [e]; exact ho)
theorem Few.at_ {l : List S27} (h : Few l) (i : Int) : (rd_T27 l i).f2.length ≤ 100 := by
  show (l.getD i.toNat z27).f2.length ≤ 100
  rw [List.getD_eq_getElem?_getD]
  rcases Nat.lt_or_ge i.toNat l.length with hi | hi
  · rw [List.getElem?_eq_getElem hi]
    exact h _ (List.getElem_mem hi)
  · rw [List.getElem?_eq_none hi]
    decide
theorem Few.set {l : List S27} (h : Few l) (i : Nat) {o : S27} (ho : o.f2.length ≤ 100) : Few (l.set i o) := fun x hx => by
  rcases List.mem_or_eq_of_mem_set hx with hx | hx
  · exact h x hx
  · rw [hx]; exact ho
theorem l3Some_l0_ev (bs : List Int) (hb : Bytes bs) : ∀ (d : Nat) (out : List S27) (i p : Int), i = d → out.length + d ≤ 500 → Few out → 0 ≤ p → p + 10 * d ≤ 80000 →
    ∃ l p', Ev (fun k => spec_l3Some.l0 k bs i out p) (l, p') ∧ l.length ≤ out.length + d ∧ Few l ∧ 0 ≤ p' ∧ p' ≤ p + 10 * d := by
  intro d
  induction d with
  | zero =>
    intro out i p hi ho hf h0 h1
    refine ⟨out, p, Ev.last (fun k => ?_), by omega, hf, h0, by omega⟩
    simp only [spec_l3Some.l0]
    rw [if_neg (by omega)]
  | succ d ih =>
    intro out i p hi ho hf h0 h1
    obtain ⟨o, p1, h2, h3, h4, h5⟩ := l3Any_ev bs hb p h0 (by omega)
    have w1 : wrap64 (i - 1) = i - 1 := w_small (by omega) (by omega)
    have hp := putS_len out o
    obtain ⟨l, p2, h6, h7, h8, h9, h10⟩ := ih (putS out o) (i - 1) p1 (by omega) (by omega) (hf.put (by omega)) h4 (by omega)
    refine ⟨l, p2, ?_, by omega, h8, h9, by omega⟩
    refine Ev.step (fun k => by simp only [spec_l3Some.l0]; rw [if_pos (by omega), w1]) ?_
    exact Ev.bind h2 (Ev.bind (l3Put_ev out (by omega) hf.short o (by omega)) h6)
theorem l3Some_ev (bs : List Int) (hb : Bytes bs) (p most : Int) (h0 : 0 ≤ p) (h1 : p ≤ 50000) (hm : 0 ≤ most) (hm2 : most ≤ 100) :
    ∃ l p', Ev (fun k => spec_l3Some.f k bs p most) (l, p') ∧ (l.length : Int) ≤ most ∧ Few l ∧ 0 ≤ p' ∧ p' ≤ p + 1 + 10 * most := by
  have w1 : wrap64 (most + 1) = most + 1 := w_small (by omega) (by omega)
  obtain ⟨r, hr, h2, h3⟩ := pick_ev bs hb p (most + 1) h0 (by omega)
  obtain ⟨l, p', h4, h5, h6, h7, h8⟩ := l3Some_l0_ev bs hb r.toNat [] r (p + 1) (by omega) (by simp; omega) (fun x hx => by simp at hx) (by omega) (by omega)
  refine ⟨l, p', ?_, by simp at h5; omega, h6, h7, by omega⟩
  unfold spec_l3Some.f
  rw [w1]
  exact Ev.bind hr h4
theorem r0Ids_ev (bs : List Int) (hb : Bytes bs) (p : Int) (h0 : 0 ≤ p) (h1 : p ≤ 90000) : ∃ ids, Ev (fun k => spec_r0Ids.f k bs p) (ids, p + 1) ∧ ids.length ≤ 100 := by
  obtain ⟨r, hr, _, _⟩ := pick_ev bs hb p 3 h0 (by omega)
  unfold spec_r0Ids.f
  by_cases c : r = 0
  · exact ⟨[], Ev.bind hr (Ev.pos c (Ev.now _)), by simp⟩
  · by_cases c1 : r = 1
    · exact ⟨[2, 2], Ev.bind hr (Ev.neg c (Ev.pos c1 (Ev.now _))), by simp⟩
    · exact ⟨[24], Ev.bind hr (Ev.neg c (Ev.neg c1 (Ev.now _))), by simp⟩
theorem l3Bent_ev (bs : List Int) (hb : Bytes bs) (p : Int) (h0 : 0 ≤ p) (h1 : p ≤ 40000) : ∃ l p', Ev (fun k => spec_l3Bent.f k bs p) (l, p') ∧ l.length ≤ 7 ∧ Few l ∧ 0 ≤ p' ∧ p' ≤ p + 100 := by
  obtain ⟨l, p1, h2, h3, h4, h5, h6⟩ := l3Some_ev bs hb p 6 h0 (by omega) (by omega) (by omega)
  unfold spec_l3Bent.f
  by_cases c : (l.length : Int) = 0
  · exact ⟨l, p1, Ev.bind h2 (Ev.pos c (Ev.now _)), by omega, h4, h5, by omega⟩
  obtain ⟨k, hk, k0, k1⟩ := pick_ev bs hb p1 (l.length : Int) h5 (by omega)
  obtain ⟨s, hs, _, _⟩ := pick_ev bs hb (p1 + 1) 40 (by omega) (by omega)
  have hklt : k < (l.length : Int) := by omega
  by_cases s0 : s = 0
  · obtain ⟨v, hv, _⟩ := num_ev bs hb (p1 + 1 + 1) [0, wrap64 ((rd_T27 l k).f1 + 1)] (by simp) (by simp) (by omega) (by omega)
    exact ⟨_, _, Ev.bind h2 (Ev.neg c (Ev.bind hk (Ev.bind hs (Ev.pos s0 (Ev.pos k0 (Ev.pos hklt (Ev.bindS hv rfl))))))), by rw [List.length_set]; show l.length ≤ 7; omega, h4.set _ (h4.at_ _), by omega, by omega⟩
  by_cases s1 : s = 1
  · obtain ⟨ids, hv, hi⟩ := r0Ids_ev bs hb (p1 + 1 + 1) (by omega) (by omega)
    exact ⟨_, _, Ev.bind h2 (Ev.neg c (Ev.bind hk (Ev.bind hs (Ev.neg s0 (Ev.pos s1 (Ev.bind hv (Ev.pos k0 (Ev.pos hklt (Ev.now _))))))))), by rw [List.length_set]; show l.length ≤ 7; omega, h4.set _ hi, by omega, by omega⟩
  by_cases s2 : s = 2
  · exact ⟨_, _, Ev.bind h2 (Ev.neg c (Ev.bind hk (Ev.bind hs (Ev.neg s0 (Ev.neg s1 (Ev.pos s2 (Ev.pos (by show 0 < (l.length : Int); omega) (Ev.pos (by show l.length < _; omega) (Ev.now _))))))))), by rw [List.length_append, List.length_singleton]; show l.length + 1 ≤ 7; omega, fun x hx => by
      rcases List.mem_append.1 hx with hx | hx
      · exact h4 x hx
      · rw [List.mem_singleton.1 hx]; exact h4.at_ 0, by omega, by omega⟩
  by_cases s3 : s = 3
  · exact ⟨_, _, Ev.bind h2 (Ev.neg c (Ev.bind hk (Ev.bind hs (Ev.neg s0 (Ev.neg s1 (Ev.neg s2 (Ev.pos s3 (Ev.pos k0 (Ev.pos hklt (Ev.now _)))))))))), by rw [List.length_set]; show l.length ≤ 7; omega, h4.set _ (h4.at_ _), by omega, by omega⟩
  · exact ⟨_, _, Ev.bind h2 (Ev.neg c (Ev.bind hk (Ev.bind hs (Ev.neg s0 (Ev.neg s1 (Ev.neg s2 (Ev.neg s3 (Ev.now _)))))))), by show l.length ≤ 7; omega, h4, by omega, by omega⟩
end Go.Proofs.Ytiplpckgmikmeaa.M
namespace Go.Proofs.Ytiplpckgmikmeaa.M
open Go.RowKit Go.Proofs.YtiplpckgmikmeaaW.PrintWords Go.Proofs.YtiplpckgmikmeaaW.PrintLast Go.Proofs.YtiplpckgmikmeaaW.PrintMore
attribute [local go_sem] max2_int min2_int max_two min_two max_three min_three max_four min_four
set_option linter.unusedVariables false
set_option linter.unusedSimpArgs false

def spec_l4Merge.l0 : Nat → List S27 → List S27 → Int → Option (List S27)
 | 0, _, _, _ => none
 | k + 1, a, b, i => if i < (b.length : Int) then (if 0 ≤ i then (spec_l3Put.f k a (rd_T27 b i).f0 (rd_T27 b i).f1 (rd_T27 b i).f2).bind fun a2 => spec_l4Merge.l0 k a2 b (wrap64 (i + 1)) else none) else some a
def spec_l4Merge.f (k : Nat) (l0 l1 : List S27) : Option (List S27) := spec_l4Merge.l0 k l0 l1 0
theorem spec_l4Merge.mono_l : ∀ k a b i, LeO (spec_l4Merge.l0 k a b i) (spec_l4Merge.l0 (k + 1) a b i)
 | 0, _, _, _ => fun r h => by simp [spec_l4Merge.l0] at h
 | k + 1, a, b, i => by
  unfold spec_l4Merge.l0
  exact LeO.ite (LeO.ite (LeO.bind (spec_l3Put.mono _ _ _ _ k) (fun _ => spec_l4Merge.mono_l k _ _ _)) (LeO.refl _)) (LeO.refl _)
theorem spec_l4Merge.mono : ∀ a0 a1 k, LeO (spec_l4Merge.f k a0 a1) (spec_l4Merge.f (k + 1) a0 a1) := fun a0 a1 k => spec_l4Merge.mono_l k a0 a1 0
set_option maxHeartbeats 4000000 in
set_option maxRecDepth 100000 in
theorem spec_l4Merge.calls (k : Nat) (u : Value) (l0 : List S27) (A1 : Option Addr) (c1 : Nat) (l1 : List S27) (r : List S27) (wb w : World) (hB : Below wb.heap.size wb w) (hS : Kd.S k27 27 w wb.heap.size (fun _ => True) u l0) (hR : Kd.C k27 wb A1 l1.length l1) (hc : l1.length ≤ c1) (h : spec_l4Merge.f k l0 l1 = some r) :
  Calls Try.prog 87 #[u, .slice A1 l1.length c1] w fun e w' => ∃ v0_ : Value, e = .returned (v0_) ∧ Kd.S k27 27 w' wb.heap.size (fun _ => True) v0_ r ∧ Below wb.heap.size wb w' := by
 have HH := Aside0.mk (show spec_l4Merge.l0 k l0 l1 0 = some r from h)
 have HS := Aside0.mk hS
 have HR := Aside0.mk hR
 have HC := Aside0.mk hc
 have HB := Aside0.mk hB
 clear h hS hR hc hB
 go_enter Try.func87, Try.ntmps87
 go_wp2
 go_loopg [0, 5] k (fun kq v0 v5 w' => ∃ (a : List S27) (i : Int), v5 = .int .i64 i ∧ Aside0 (spec_l4Merge.l0 kq a l1 i = some r) ∧ Aside0 (kq ≤ k) ∧ Aside0 (Kd.S k27 27 w' wb.heap.size (fun _ => True) v0 a) ∧ Aside0 (Below wb.heap.size wb w'))
 case atStart => exact ⟨l0, 0, rfl, HH, ⟨Nat.le_refl _⟩, HS, HB⟩
 case round =>
  clear HS HB HH
  obtain ⟨a, i, rfl, HA, HK1, HS, HB⟩ := hrel
  cases gk with
  | zero => exact absurd HA.out (by simp [spec_l4Merge.l0])
  | succ k1 =>
   have H := HA.out
   clear HA
   simp only [spec_l4Merge.l0] at H
   by_cases c : i < (l1.length : Int)
   ·rw [if_pos c] at H
    by_cases c0 : 0 ≤ i
    ·rw [if_pos c0] at H
     obtain ⟨a2, hP, H⟩ := Option.bind_eq_some_iff.1 H
     obtain ⟨ad, A2, c2, e, h0, h1, h2, hl2, hg2⟩ := at_T27 HR.out i c0 c
     subst e
     have HP := Aside0.mk hP
     have HH := Aside0.mk H
     have HL2 := Aside0.mk hl2
     have HG2 := Aside0.mk (Kd.C_below hg2 HB.out)
     clear hP H hl2 hg2
     replace h0 := (HB.out.cell (World.block_lt_of_cell? wb _ h0)).trans h0
     replace h1 := (HB.out.cell (World.block_lt_of_cell? wb _ h1)).trans h1
     replace h2 := (HB.out.cell (World.block_lt_of_cell? wb _ h2)).trans h2
     have p1 : (0 ≤ i) = True := eq_true c0
     have q1 : (i < (l1.length : Int)) = True := eq_true c
     go_wp2_with (go_at_call 82;fail)
     refine (spec_l3Put.calls_base k1 (fun _ => True) _ a (rd_T27 l1 i).f0 (rd_T27 l1 i).f1 A2 c2 (rd_T27 l1 i).f2 a2 wb.heap.size wb _ HB.out HB.out.size HS.out HG2.out HL2.out HP.out).mono ?_
     rintro e w4 ⟨v4, rfl, hs4, hb4, _⟩
     have n0_ := Aside0.mk (Kd.S_mono (ok' := fun _ => True) hs4 (fun _ _ => trivial))
     have n1_ := Aside0.mk hb4
     clear HS HB hs4 hb4 h0 h1 h2 HG2
     have HS := n0_
     have HB := n1_
     clear n0_ n1_
     go_wp2
     go_roundg k1
     case measure => have := HK1.out;omega
     case rel => exact ⟨a2, wrap64 (i + 1), rfl, HH, ⟨by have := HK1.out;omega⟩, HS, HB⟩
    ·rw [if_neg c0] at H
     cases H
   ·rw [if_neg c] at H
    obtain rfl := Option.some.inj H
    have q1 : (i < (l1.length : Int)) = False := eq_false c
    go_wp2
    go_ret
    exact ⟨_, rfl, HS.out, HB.out⟩

end Go.Proofs.Ytiplpckgmikmeaa.M
namespace Go.Proofs.Ytiplpckgmikmeaa.M
open Go.RowKit Go.Proofs.YtiplpckgmikmeaaW.PrintWords Go.Proofs.YtiplpckgmikmeaaW.PrintLast Go.Proofs.YtiplpckgmikmeaaW.PrintMore
attribute [local go_sem] max2_int min2_int max_two min_two max_three min_three max_four min_four
set_option linter.unusedVariables false
set_option linter.unusedSimpArgs false

def spec_OccsPut.f (k : Nat) (l0 : List (S27)) (a1_0 : Int) (a1_1 : Int) (l1_2 : List Int) : Option (List (S27)) := (spec_OccsOk.f k l0).bind fun t => if t = true then (spec_OccOk.f k a1_0 a1_1 l1_2).bind fun u => (if u = true then (spec_l3List.f k l0).bind fun l => spec_l3Put.f k l a1_0 a1_1 l1_2 else some []) else some []
theorem spec_OccsPut.mono : ∀ a0 a1 a2 a3 k, LeO (spec_OccsPut.f k a0 a1 a2 a3) (spec_OccsPut.f (k + 1) a0 a1 a2 a3) := by
 intro a0 a1 a2 a3 k
 unfold spec_OccsPut.f
 exact LeO.bind (spec_OccsOk.mono _ k) (fun _ => LeO.ite (LeO.bind (spec_OccOk.mono _ _ _ k) (fun _ => LeO.ite (LeO.bind (spec_l3List.mono _ k) (fun _ => spec_l3Put.mono _ _ _ _ k)) (LeO.refl _))) (LeO.refl _))
set_option maxHeartbeats 4000000 in
set_option maxRecDepth 100000 in
theorem spec_OccsPut.calls (k : Nat) (A0 : Option Addr) (c0 : Nat) (l0 : List (S27)) (a1_0 : Int) (a1_1 : Int) (A1_2 : Option Addr) (c1_2 : Nat) (l1_2 : List Int) (r : List (S27)) (w : World) (hr0 : Kd.C k27 w A0 l0.length l0) (hc0 : l0.length ≤ c0) (hr1_2 : Kd.C (Kd.int .i64) w A1_2 l1_2.length l1_2) (hc1_2 : l1_2.length ≤ c1_2) (h : spec_OccsPut.f k l0 a1_0 a1_1 l1_2 = some r) :
  Calls Try.prog 53 #[.slice A0 l0.length c0, .agg #[.int .i64 a1_0, .int .i64 a1_1, .slice A1_2 l1_2.length c1_2]] w fun e w' => ∃ v0_ : Value, e = .returned (v0_) ∧ Kd.S k27 27 w' w.heap.size (fun _ => True) v0_ r ∧ Below w.heap.size w w' := by
 unfold spec_OccsPut.f at h
 obtain ⟨t, ht, h⟩ := Option.bind_eq_some_iff.1 h
 have HT := Aside0.mk ht
 have HH := Aside0.mk h
 have HR0 := Aside0.mk hr0
 have HC0 := Aside0.mk hc0
 have HR1 := Aside0.mk hr1_2
 have HC1 := Aside0.mk hc1_2
 have HB := Aside0.mk (Below.refl w.heap.size w)
 clear ht h hr0 hc0 hr1_2 hc1_2
 go_enter Try.func53, Try.ntmps53
 go_wp2_with (first | ((with_reducible refine gate_dst (N := 3) rfl ?_);refine box_event ?hg (N := 3) ?hd (cs := #[.int .i64 a1_0, .int .i64 a1_1, .slice A1_2 l1_2.length c1_2]) (t := 27) ?hr ?_;(case hd => rfl);(case hg => rfl);(case hr => first | (go_simp;done) | (go_simp;rfl));intro gb1 hg wb1 hbox hb;have BK1 := Aside0.mk (hbox);have GE1 := Aside0.mk ((by rw [hg];exact below_size HB.out : w.heap.size ≤ gb1));replace HB := Aside0.mk (below_step HB.out hb);clear hb hbox hg) | (go_at_call 28;fail))
 refine (spec_OccsOk.calls k A0 c0 l0 t _ (Kd.C_below HR0.out HB.out) HC0.out HT.out).mono ?_
 rintro e w' ⟨rfl, hb⟩
 replace BK1 := Aside0.mk (blk_below BK1.out hb)
 replace HB := Aside0.mk (below_step HB.out hb)
 clear hb
 cases t with
 | false =>
  go_wp2_with (first | ((with_reducible refine gate_dst (N := 13) rfl ?_);refine Kd.S_lit k27 _ 27 ?hg (N := 13) ?hd (xs := ([] : List (S27))) (inner := []) (ok := fun _ => True) (okp := fun _ => True) ?hr ?hp (fun _ hk => hk) trivial (Below.refl _ _) (Nat.le_refl _) (by simp) ?_;(case hd => rfl);(case hg => rfl);(case hr => first | (go_simp;done) | (go_simp;rfl));(case hp => exact (Reps.none _ _));intro v13 wl hol hb hg_ hnew_;clear hg_ hnew_;have HS := Aside0.mk (Kd.S_lower hol HB.out.size);have n0_ := Aside0.mk (below_step HB.out hb);clear HB hol hb;have HB := n0_;clear n0_))
  go_ret
  obtain rfl := Option.some.inj HH.out
  exact ⟨_, rfl, HS.out, HB.out⟩
 | true =>
  obtain ⟨u, hu, h⟩ := Option.bind_eq_some_iff.1 (show ((spec_OccOk.f k a1_0 a1_1 l1_2).bind fun u => (if u = true then (spec_l3List.f k l0).bind fun l => spec_l3Put.f k l a1_0 a1_1 l1_2 else some [])) = some r from by have := HH.out;rw [if_pos rfl] at this;exact this)
  have HU := Aside0.mk hu
  clear HH
  have HH := Aside0.mk h
  clear hu h
  have hz0 := (blk_cell BK1.out 0).trans (show _ = some (Value.int .i64 a1_0) from rfl)
  have hz1 := (blk_cell BK1.out 1).trans (show _ = some (Value.int .i64 a1_1) from rfl)
  have hz2 := (blk_cell BK1.out 2).trans (show _ = some (Value.slice A1_2 l1_2.length c1_2) from rfl)
  go_wp2_with (go_at_call 19;fail)
  clear hz0 hz1 hz2
  refine (spec_OccOk.calls k a1_0 a1_1 A1_2 c1_2 l1_2 u _ (Kd.C_below HR1.out HB.out) HC1.out HU.out).mono ?_
  rintro e w' ⟨rfl, hb⟩
  replace BK1 := Aside0.mk (blk_below BK1.out hb)
  replace HB := Aside0.mk (below_step HB.out hb)
  clear hb
  cases u with
  | false =>
   go_wp2_with (first | ((with_reducible refine gate_dst (N := 13) rfl ?_);refine Kd.S_lit k27 _ 27 ?hg (N := 13) ?hd (xs := ([] : List (S27))) (inner := []) (ok := fun _ => True) (okp := fun _ => True) ?hr ?hp (fun _ hk => hk) trivial (Below.refl _ _) (Nat.le_refl _) (by simp) ?_;(case hd => rfl);(case hg => rfl);(case hr => first | (go_simp;done) | (go_simp;rfl));(case hp => exact (Reps.none _ _));intro v13 wl hol hb hg_ hnew_;clear hg_ hnew_;have HS := Aside0.mk (Kd.S_lower hol HB.out.size);have n0_ := Aside0.mk (below_step HB.out hb);clear HB hol hb;have HB := n0_;clear n0_))
   go_ret
   obtain rfl := Option.some.inj HH.out
   exact ⟨_, rfl, HS.out, HB.out⟩
  | true =>
   obtain ⟨l, hl, hp⟩ := Option.bind_eq_some_iff.1 (show ((spec_l3List.f k l0).bind fun l => spec_l3Put.f k l a1_0 a1_1 l1_2) = some r from by have := HH.out;rw [if_pos rfl] at this;exact this)
   have HL := Aside0.mk hl
   have HP := Aside0.mk hp
   clear hl hp
   go_wp2
   have hb := below_drew (Below.refl w'.heap.size w')
   replace BK1 := Aside0.mk (blk_below BK1.out hb)
   replace HB := Aside0.mk (below_step HB.out hb)
   clear hb
   refine start_ (n := 5) (S := fun w' => w'.cell? ⟨gb1, 0, none⟩ = some (.int .i64 a1_0) ∧ w'.cell? ⟨gb1, 1, none⟩ = some (.int .i64 a1_1) ∧ w'.cell? ⟨gb1, 2, none⟩ = some (.slice A1_2 l1_2.length c1_2)) (ds := []) #[false, false, false, false, false] (by kernel_rfl) rfl rfl ⟨(blk_cell BK1.out 0).trans rfl, (blk_cell BK1.out 1).trans rfl, (blk_cell BK1.out 2).trans rfl⟩ (fun hHeld => ?_)
   refine pv_ 0 14 #[true, false, false, false, false] (by kernel_rfl) ?_
   refine take_ (i := 2) (N := some 16) (v := ?_) (a' := ?_) #[true, false, true, false, false] rfl rfl (by kernel_rfl) (fun _ _ _ h => h) (Or.inl ⟨by rfl, ?_⟩) hHeld ?_ ?_
   rotate_left
   ·rintro w' ⟨s0, s1, s2⟩
    go_simp
    with_reducible rfl
   rotate_left
   ·simp only [Act.put, List.setIfInBounds_toArray, List.set_cons_zero, List.set_cons_succ, i64_w, i32_w]
    rfl
   refine one_ (i := 1) (N := some 15) #[true, true, true, false, false] rfl rfl (by kernel_rfl) (by decide) (fun K hK => ?_)
   refine goes_ Try.func83 (by kernel_rfl) rfl #[.slice A0 l0.length c0] (by rfl) rfl rfl (by simp only [List.map_toArray, List.map_cons, List.map_nil];rfl) ?_
   with_reducible refine (spec_l3List.calls k A0 c0 l0 l _ (Kd.C_below HR0.out HB.out) HC0.out HL.out).mono ?_
   rintro e w' ⟨v15, rfl, hs, hb⟩
   refine ⟨_, rfl, ?_⟩
   have HGL := Aside0.mk (blk_lt BK1.out)
   have HS := Aside0.mk (Kd.S_lower (Kd.S_mono (ok' := fun k_ => _ ≤ k_) (Kd.S_bound hs) (fun k_ hk => hk.2.1)) HB.out.size)
   clear hs
   replace BK1 := Aside0.mk (blk_below BK1.out hb)
   replace HB := Aside0.mk (below_step HB.out hb)
   clear hb
   refine hK.out _ _ ⟨(blk_cell BK1.out 0).trans rfl, (blk_cell BK1.out 1).trans rfl, (blk_cell BK1.out 2).trans rfl⟩ (fun hHeld => ?_)
   clear hK K
   refine norm_ (a' := ?_) ?_ ?_
   rotate_left
   ·show Act.put _ (some 15) _ = _
    simp only [Act.put, List.setIfInBounds_toArray, List.set_cons_zero, List.set_cons_succ, i64_w, i32_w]
    rfl
   refine one_ (i := 3) (N := some 17) #[true, true, true, true, false] rfl rfl (by kernel_rfl) (by decide) (fun K hK => ?_)
   refine goes_ Try.func82 (by kernel_rfl) rfl #[v15, .agg #[.int .i64 a1_0, .int .i64 a1_1, .slice A1_2 l1_2.length c1_2]] (by rfl) rfl rfl (by simp only [List.map_toArray, List.map_cons, List.map_nil];rfl) ?_
   with_reducible refine (spec_l3Put.calls_base k _ v15 l a1_0 a1_1 A1_2 c1_2 l1_2 r w.heap.size w _ HB.out HB.out.size HS.out (Kd.C_below HR1.out HB.out) HC1.out HP.out).mono ?_
   rintro e w' ⟨v17, rfl, hs, hb, hk⟩
   refine ⟨_, rfl, ?_⟩
   replace BK1 := Aside0.mk (blk_kept BK1.out hk (fun h_ => by have := HGL.out;omega))
   replace HS := Aside0.mk (Kd.S_mono (ok' := fun _ => True) hs (fun _ _ => trivial))
   replace HB := Aside0.mk (hb)
   clear hs hb hk
   refine hK.out _ _ ⟨(blk_cell BK1.out 0).trans rfl, (blk_cell BK1.out 1).trans rfl, (blk_cell BK1.out 2).trans rfl⟩ (fun hHeld => ?_)
   clear hK K
   refine norm_ (a' := ?_) ?_ ?_
   rotate_left
   ·show Act.put _ (some 17) _ = _
    simp only [Act.put, List.setIfInBounds_toArray, List.set_cons_zero, List.set_cons_succ, i64_w, i32_w]
    rfl
   refine pv_ 4 4 #[true, true, true, true, true] (by kernel_rfl) ?_
   refine done_ (by kernel_rfl) ?_

   go_wp2
   go_ret
   exact ⟨_, rfl, HS.out, HB.out⟩

end Go.Proofs.Ytiplpckgmikmeaa.M
namespace Go.Proofs.Ytiplpckgmikmeaa.M
set_option linter.unusedVariables false
set_option linter.unusedSimpArgs false
open Go.RowKit Go.Proofs.YtiplpckgmikmeaaW.PrintWords Go.Proofs.YtiplpckgmikmeaaW.PrintLast

theorem cmpI_anti : ∀ a b : List Int, cmpI b a = - cmpI a b
  | [], [] => by simp [cmpI]
  | [], _ :: _ => by simp [cmpI]
  | _ :: _, [] => by simp [cmpI]
  | x :: a, y :: b => by
    unfold cmpI
    have ih := cmpI_anti a b
    split <;> split <;> first | omega | (split <;> first | omega | (split <;> first | omega | exact ih))
theorem cmpI_trans : ∀ a b c : List Int, cmpI a b < 0 → cmpI b c < 0 → cmpI a c < 0
  | [], [], _, h, _ => by simp [cmpI] at h
  | [], _ :: _, [], _, h => by simp [cmpI] at h
  | [], _ :: _, _ :: _, _, _ => by simp [cmpI]
  | _ :: _, [], _, h, _ => by simp [cmpI] at h
  | _ :: _, _ :: _, [], _, h => by simp [cmpI] at h
  | x :: a, y :: b, z :: c, h1, h2 => by
    unfold cmpI at h1 h2 ⊢
    have ih := cmpI_trans a b c
    split at h1 <;> split at h2 <;> first | omega | (split at h1 <;> split at h2 <;> first | omega | (split <;> first | omega | (split <;> first | omega | exact ih (by omega) (by omega))))
theorem sgn_neg (b : Bool) : sgn b < 0 ↔ b = true := by cases b <;> decide
theorem lessO_iff (a b : S27) : lessO a b = true ↔ a.f1 < b.f1 ∨ (a.f1 = b.f1 ∧ (a.f0 < b.f0 ∨ (a.f0 = b.f0 ∧ cmpI a.f2 b.f2 < 0))) := by
  unfold lessO cmpO
  rw [decide_eq_true_iff]
  by_cases h1 : a.f1 = b.f1
  · rw [if_pos h1]
    by_cases h0 : a.f0 = b.f0
    · rw [if_pos h0]
      constructor
      · exact fun h => .inr ⟨h1, .inr ⟨h0, h⟩⟩
      · rintro (h | ⟨_, h | ⟨_, h⟩⟩)
        · omega
        · omega
        · exact h
    · rw [if_neg h0, sgn_neg, decide_eq_true_iff]
      constructor
      · exact fun h => .inr ⟨h1, .inl h⟩
      · rintro (h | ⟨_, h | ⟨h, _⟩⟩)
        · omega
        · exact h
        · exact absurd h h0
  · rw [if_neg h1, sgn_neg, decide_eq_true_iff]
    constructor
    · exact fun h => .inl h
    · rintro (h | ⟨h, _⟩)
      · exact h
      · exact absurd h h1
theorem lessO_trans {a b c : S27} (h1 : lessO a b = true) (h2 : lessO b c = true) : lessO a c = true := by
  rw [lessO_iff] at h1 h2 ⊢
  rcases h1 with h1 | ⟨e1, h1⟩
  · rcases h2 with h2 | ⟨e2, h2⟩
    · exact .inl (by omega)
    · exact .inl (by omega)
  · rcases h2 with h2 | ⟨e2, h2⟩
    · exact .inl (by omega)
    · refine .inr ⟨by omega, ?_⟩
      rcases h1 with h1 | ⟨d1, h1⟩
      · rcases h2 with h2 | ⟨d2, h2⟩
        · exact .inl (by omega)
        · exact .inl (by omega)
      · rcases h2 with h2 | ⟨d2, h2⟩
        · exact .inl (by omega)
        · exact .inr ⟨by omega, cmpI_trans _ _ _ h1 h2⟩
theorem lessO_self (a : S27) : lessO a a = false := by
  have : cmpO a a = 0 := (cmpO_eq a a).2 rfl
  unfold lessO
  rw [this]
  decide
theorem lessO_tri {a b : S27} (h : lessO a b = false) (hn : a ≠ b) : lessO b a = true := by
  have h' : ¬ lessO a b = true := by rw [h]; decide
  rw [lessO_iff] at h' ⊢
  rcases Int.lt_trichotomy b.f1 a.f1 with h1 | h1 | h1
  · exact .inl h1
  · refine .inr ⟨h1, ?_⟩
    rcases Int.lt_trichotomy b.f0 a.f0 with h2 | h2 | h2
    · exact .inl h2
    · refine .inr ⟨h2, ?_⟩
      have h3 : ¬ cmpI a.f2 b.f2 < 0 := fun h3 => h' (.inr ⟨h1.symm, .inr ⟨h2.symm, h3⟩⟩)
      have h4 : cmpI a.f2 b.f2 ≠ 0 := fun h4 => hn (by
        have h5 := (cmpI_eq a.f2 b.f2).1 h4
        cases a; cases b
        simp only at h1 h2 h5
        rw [h1, h2, h5])
      rw [cmpI_anti]
      omega
    · exact absurd (.inr ⟨h1.symm, .inl h2⟩) h'
  · exact absurd (.inl h1) h'
abbrev AscO (l : List S27) : Prop := l.Pairwise (fun x y => lessO x y = true)
theorem lessO_not {a b : S27} (h : lessO a b = true) (h' : lessO b a = true) : False := by
  have := lessO_trans h h'
  rw [lessO_self] at this
  cases this
theorem ascO_ext : ∀ l m : List S27, AscO l → AscO m → (∀ x, x ∈ l ↔ x ∈ m) → l = m
  | [], [], _, _, _ => rfl
  | [], y :: ys, _, _, h => by have := (h y).2 (by simp); simp at this
  | x :: xs, [], _, _, h => by have := (h x).1 (by simp); simp at this
  | x :: xs, y :: ys, hl, hm, h => by
    have h1 := List.pairwise_cons.1 hl
    have h2 := List.pairwise_cons.1 hm
    have e : x = y := by
      rcases List.mem_cons.1 ((h x).1 (by simp)) with e | e
      · exact e
      · rcases List.mem_cons.1 ((h y).2 (by simp)) with e' | e'
        · exact e'.symm
        · exact (lessO_not (h2.1 x e) (h1.1 y e')).elim
    subst e
    rw [ascO_ext xs ys h1.2 h2.2 (fun z => ?_)]
    constructor
    · intro hz
      rcases List.mem_cons.1 ((h z).1 (by simp [hz])) with e | e
      · have := h1.1 z hz; rw [e, lessO_self] at this; cases this
      · exact e
    · intro hz
      rcases List.mem_cons.1 ((h z).2 (by simp [hz])) with e | e
      · have := h2.1 z hz; rw [e, lessO_self] at this; cases this
      · exact e
def insO : List S27 → S27 → List S27
  | [], o => [o]
  | x :: l, o => if lessO x o = true then x :: insO l o else if (cmpO x o == 0) = true then x :: l else o :: x :: l
theorem same_eq {a b : S27} : (cmpO a b == 0) = true ↔ a = b := by rw [beq_iff_eq]; exact cmpO_eq a b
theorem mem_insO (z : S27) : ∀ (l : List S27) (o : S27), z ∈ insO l o ↔ z ∈ l ∨ z = o
  | [], o => by simp [insO]
  | x :: l, o => by
    unfold insO
    have ih := mem_insO z l o
    split
    · rw [List.mem_cons, List.mem_cons, ih, or_assoc]
    · split
      · rename_i h
        have e := same_eq.1 h
        subst e
        constructor
        · exact fun hz => .inl hz
        · rintro (hz | rfl)
          · exact hz
          · simp
      · rw [List.mem_cons]
        constructor
        · rintro (hz | hz)
          · exact .inr hz
          · exact .inl hz
        · rintro (hz | hz)
          · exact .inr hz
          · exact .inl hz
theorem asc_insO : ∀ (l : List S27) (o : S27), AscO l → AscO (insO l o)
  | [], o, _ => by simp [insO, AscO]
  | x :: l, o, h => by
    have h1 := List.pairwise_cons.1 h
    unfold insO
    split
    · rename_i c
      refine List.pairwise_cons.2 ⟨fun z hz => ?_, asc_insO l o h1.2⟩
      rcases (mem_insO z l o).1 hz with hz | rfl
      · exact h1.1 z hz
      · exact c
    · rename_i c
      split
      · exact h
      · rename_i c2
        have hox : lessO o x = true := lessO_tri (by simpa using c) (fun e => c2 (same_eq.2 e))
        refine List.pairwise_cons.2 ⟨fun z hz => ?_, h⟩
        rcases List.mem_cons.1 hz with rfl | hz
        · exact hox
        · exact lessO_trans hox (h1.1 z hz)
theorem len_insO : ∀ (l : List S27) (o : S27), (insO l o).length ≤ l.length + 1
  | [], o => by simp [insO]
  | x :: l, o => by
    have ih := len_insO l o
    unfold insO
    split
    · simp only [List.length_cons]; omega
    · split <;> simp only [List.length_cons] <;> omega
theorem insO_same {l : List S27} {o : S27} (h : AscO l) (ho : o ∈ l) : insO l o = l :=
  ascO_ext _ _ (asc_insO l o h) h (fun z => by
    rw [mem_insO]
    constructor
    · rintro (hz | rfl)
      · exact hz
      · exact ho
    · exact .inl)
def ahead (l : List S27) (o : S27) : Nat := (l.takeWhile (fun x => lessO x o)).length
theorem ahead_le (l : List S27) (o : S27) : ahead l o ≤ l.length := (List.takeWhile_sublist _).length_le
theorem putIx_ahead (l : List S27) (o : S27) : ∀ d i : Nat, i + d = l.length → putIx l o d i = i + ahead (l.drop i) o
  | 0, i, h => by
    unfold putIx ahead
    rw [List.drop_of_length_le (by omega)]
    simp
  | d + 1, i, h => by
    have ih := putIx_ahead l o d (i + 1) (by omega)
    unfold putIx
    rw [drop_at l z27 i (by omega)]
    unfold ahead at ih ⊢
    by_cases c : lessO (l.getD i z27) o = true
    · rw [if_pos c, ih, List.takeWhile_cons, if_pos c, List.length_cons]; omega
    · rw [if_neg c, List.takeWhile_cons, if_neg c]; simp
def putN (l : List S27) (o : S27) (n : Nat) : List S27 := if n < l.length ∧ (cmpO (l.getD n z27) o == 0) = true then l else putIn l n o
theorem putN_ins : ∀ (l : List S27) (o : S27), putN l o (ahead l o) = insO l o
  | [], o => by simp [putN, ahead, insO, putIn]
  | x :: l, o => by
    have ih := putN_ins l o
    unfold insO
    by_cases c : lessO x o = true
    · have e : ahead (x :: l) o = ahead l o + 1 := by unfold ahead; rw [List.takeWhile_cons, if_pos c, List.length_cons]
      rw [if_pos c, e, ← ih]
      unfold putN
      rw [List.getD_cons_succ, List.length_cons]
      by_cases c2 : ahead l o < l.length ∧ (cmpO (l.getD (ahead l o) z27) o == 0) = true
      · rw [if_pos c2, if_pos ⟨by omega, c2.2⟩]
      · rw [if_neg c2, if_neg (fun h => c2 ⟨by omega, h.2⟩)]
        simp [putIn]
    · have e : ahead (x :: l) o = 0 := by unfold ahead; rw [List.takeWhile_cons, if_neg c]; rfl
      rw [if_neg c, e]
      unfold putN
      rw [List.getD_cons_zero]
      by_cases c2 : (cmpO x o == 0) = true
      · rw [if_pos ⟨by simp, c2⟩, if_pos c2]
      · rw [if_neg (fun h => c2 h.2), if_neg c2]
        simp [putIn]
theorem putS_ins (l : List S27) (o : S27) : putS l o = insO l o := by
  rw [← putN_ins]
  unfold putS putN
  rw [putIx_ahead l o l.length 0 (by omega), List.drop_zero, Nat.zero_add]
theorem ahead_is {l : List S27} {o : S27} {n : Nat} (hn : n ≤ l.length) (h1 : ∀ m, m < n → lessO (l.getD m z27) o = true) (h2 : n < l.length → ¬ lessO (l.getD n z27) o = true) : ahead l o = n := by
  induction l generalizing n with
  | nil => simp only [List.length_nil] at hn; simp [ahead]; omega
  | cons x l ih =>
    unfold ahead
    cases n with
    | zero =>
      have := h2 (by simp)
      rw [List.getD_cons_zero] at this
      rw [List.takeWhile_cons, if_neg this]; rfl
    | succ n =>
      have hx := h1 0 (by omega)
      rw [List.getD_cons_zero] at hx
      rw [List.takeWhile_cons, if_pos hx, List.length_cons]
      have := ih (n := n) (by simpa using hn) (fun m hm => by have := h1 (m + 1) (by omega); rwa [List.getD_cons_succ] at this) (fun hlt => by have := h2 (by simpa using hlt); rwa [List.getD_cons_succ] at this)
      unfold ahead at this
      omega
theorem asc_at {l : List S27} (h : AscO l) {i j : Nat} (hij : i < j) (hj : j < l.length) : lessO (l.getD i z27) (l.getD j z27) = true := by
  rw [getD_in (by omega), getD_in hj]
  exact List.pairwise_iff_getElem.1 h i j (by omega) hj hij
theorem u64_small {n : Int} (h0 : 0 ≤ n) (h1 : n ≤ 9223372036854775807) : IntKind.u64.wrap n = n := by
  simp only [IntKind.wrap, IntKind.bits, IntKind.signed]
  simp
  omega
def foundO (l : List S27) (o : S27) : Bool := decide (ahead l o < l.length) && (cmpO (l.getD (ahead l o) z27) o == 0)
section
variable (l : List S27) (hl : l.length < 1099511627776) (hs : Short l) (hA : AscO l) (o : S27) (ho : o.f2.length ≤ 9223372036854775806)
include hs ho in
theorem search_end (i : Nat) (hj : i ≤ l.length) (h1 : ∀ m, m < i → lessO (l.getD m z27) o = true) (h2 : ∀ m, i ≤ m → m < l.length → ¬ lessO (l.getD m z27) o = true) :
    Ev (fun k => impl_Occ_105.l0 k l (l.length : Int) (i : Int) (i : Int) o.f0 o.f1 o.f2) ((ahead l o : Int), foundO l o) := by
  have e : ahead l o = i := ahead_is hj h1 (fun hlt => h2 i (Nat.le_refl _) hlt)
  unfold foundO
  rw [e]
  clear h1 h2 e
  refine Ev.step (fun k => by simp only [impl_Occ_105.l0]; rw [if_neg (Int.lt_irrefl _)]) ?_
  by_cases c : i < l.length
  · refine Ev.pos (by omega) (Ev.pos (by omega) (Ev.pos (by omega) ?_))
    refine Ev.bindS (impl_compare_ev (rd_T27 l (i : Int)) o (hs.at_ i) ho) ?_
    rw [decide_eq_true c, Bool.true_and]
    rfl
  · refine Ev.neg (by omega) (Ev.val (Ev.now _) ?_)
    rw [decide_eq_false c, Bool.false_and]
theorem half_is (i j : Nat) (h : i ≤ j) (hj : j ≤ 1099511627776) : wrap64 ((IntKind.u64.wrap (wrap64 ((i : Int) + (j : Int)))) / 2) = (((i + j) / 2 : Nat) : Int) := by
  rw [w_small (i := (i : Int) + (j : Int)) (by omega) (by omega), u64_small (by omega) (by omega), w_small (by omega) (by omega)]
  omega
include hl hs hA ho in
theorem search_ev : ∀ (d i j : Nat), j - i ≤ d → i ≤ j → j ≤ l.length → (∀ m, m < i → lessO (l.getD m z27) o = true) → (∀ m, j ≤ m → m < l.length → ¬ lessO (l.getD m z27) o = true) →
    Ev (fun k => impl_Occ_105.l0 k l (l.length : Int) (i : Int) (j : Int) o.f0 o.f1 o.f2) ((ahead l o : Int), foundO l o) := by
  intro d
  induction d with
  | zero =>
    intro i j hd hij hj h1 h2
    obtain rfl : i = j := by omega
    exact search_end l hs o ho i hj h1 h2
  | succ d ih =>
    intro i j hd hij hj h1 h2
    by_cases c : i < j
    · obtain ⟨h, hh⟩ : ∃ h, h = (i + j) / 2 := ⟨_, rfl⟩
      have hb1 : i ≤ h := by omega
      have hb2 : h < j := by omega
      have hw := half_is i j hij (by omega)
      rw [← hh] at hw
      clear hh
      have ci : (i : Int) < (j : Int) := by omega
      refine Ev.step (fun k => by simp only [impl_Occ_105.l0]; rw [if_pos ci, hw]) ?_
      have c0 : (0 : Int) ≤ (h : Int) := by omega
      have c1 : (h : Int) < (l.length : Int) := by omega
      refine Ev.pos c0 (Ev.pos c1 ?_)
      refine Ev.bind (impl_compare_ev (rd_T27 l (h : Int)) o (hs.at_ h) ho) ?_
      have er : rd_T27 l (h : Int) = l.getD h z27 := rfl
      rw [er]
      by_cases c2 : cmpO (l.getD h z27) o < 0
      · have hw2 : wrap64 ((h : Int) + 1) = ((h + 1 : Nat) : Int) := by rw [w_small (by omega) (by omega)]; omega
        refine Ev.pos c2 ?_
        rw [hw2]
        have hlo : lessO (l.getD h z27) o = true := decide_eq_true c2
        have g1 : ∀ m, m < h + 1 → lessO (l.getD m z27) o = true := fun m hm => by
          rcases Nat.lt_or_ge m h with hlt | hge
          · exact lessO_trans (asc_at hA hlt (by omega)) hlo
          · obtain rfl : m = h := by omega
            exact hlo
        exact ih (h + 1) j (by omega) (by omega) hj g1 h2
      · refine Ev.neg c2 ?_
        have hlo : ¬ lessO (l.getD h z27) o = true := fun hx => c2 (of_decide_eq_true hx)
        have g2 : ∀ m, h ≤ m → m < l.length → ¬ lessO (l.getD m z27) o = true := fun m hm hml hx => by
          rcases Nat.lt_or_ge h m with hlt | hge
          · exact hlo (lessO_trans (asc_at hA hlt hml) hx)
          · obtain rfl : m = h := by omega
            exact hlo hx
        exact ih i h (by omega) (by omega) (by omega) h1 g2
    · obtain rfl : i = j := by omega
      exact search_end l hs o ho i hj h1 h2
include hl hs hA ho in
theorem impl_put_ev : Ev (fun k => impl_put.f k l o.f0 o.f1 o.f2) (insO l o) := by
  unfold impl_put.f
  have c := hl
  have h := search_ev l hl hs hA o ho l.length 0 l.length (by omega) (by omega) (Nat.le_refl _) (fun m hm => by omega) (fun m hm hml => by omega)
  refine Ev.pos c (Ev.bind h ?_)
  rw [← putN_ins]
  unfold putN
  have ha := ahead_le l o
  by_cases c2 : ahead l o < l.length ∧ (cmpO (l.getD (ahead l o) z27) o == 0) = true
  · rw [if_pos c2]
    refine Ev.pos ?_ (Ev.now _)
    unfold foundO
    rw [decide_eq_true c2.1, c2.2]; rfl
  · rw [if_neg c2]
    refine Ev.neg (fun hx => c2 ?_) (Ev.pos ⟨by omega, by omega⟩ (Ev.val (Ev.now _) ?_))
    · have hx' : foundO l o = true := hx
      unfold foundO at hx'
      rw [Bool.and_eq_true] at hx'
      exact ⟨of_decide_eq_true hx'.1, hx'.2⟩
    · rw [Int.toNat_natCast]
end
end Go.Proofs.Ytiplpckgmikmeaa.M
namespace Go.Proofs.Ytiplpckgmikmeaa.M
open Go.RowKit Go.Proofs.YtiplpckgmikmeaaW.PrintWords Go.Proofs.YtiplpckgmikmeaaW.PrintLast Go.Proofs.YtiplpckgmikmeaaW.PrintMore
attribute [local go_sem] max2_int min2_int max_two min_two max_three min_three max_four min_four
set_option linter.unusedVariables false
set_option linter.unusedSimpArgs false

def spec_OrOf.f (k : Nat) (l0 l1 : List S27) : Option (List S27 × Bool) := (spec_OccsOk.f k l0).bind fun t => if t = true then (spec_OccsOk.f k l1).bind fun u => (if u = true then (spec_l3List.f k l0).bind fun l => (spec_l4Merge.f k l l1).bind fun m => spec_l4Told.f k m else some ([], false)) else some ([], false)
theorem spec_OrOf.mono : ∀ a0 a1 k, LeO (spec_OrOf.f k a0 a1) (spec_OrOf.f (k + 1) a0 a1) := by
 intro a0 a1 k
 unfold spec_OrOf.f
 exact LeO.bind (spec_OccsOk.mono _ k) (fun _ => LeO.ite (LeO.bind (spec_OccsOk.mono _ k) (fun _ => LeO.ite (LeO.bind (spec_l3List.mono _ k) (fun _ => LeO.bind (spec_l4Merge.mono _ _ k) (fun _ => spec_l4Told.mono _ k))) (LeO.refl _))) (LeO.refl _))
set_option maxHeartbeats 4000000 in
set_option maxRecDepth 100000 in
theorem spec_OrOf.calls (k : Nat) (A0 : Option Addr) (c0 : Nat) (l0 : List (S27)) (A1 : Option Addr) (c1 : Nat) (l1 : List (S27)) (r1 : List (S27)) (r2 : Bool) (w : World) (hr0 : Kd.C k27 w A0 l0.length l0) (hc0 : l0.length ≤ c0) (hr1 : Kd.C k27 w A1 l1.length l1) (hc1 : l1.length ≤ c1) (h : spec_OrOf.f k l0 l1 = some (r1, r2)) :
  Calls Try.prog 57 #[.slice A0 l0.length c0, .slice A1 l1.length c1] w fun e w' => ∃ v0_ : Value, e = .returned (.tuple #[v0_, .bool r2]) ∧ Kd.S k27 27 w' w.heap.size (fun _ => True) v0_ r1 ∧ Below w.heap.size w w' := by
 unfold spec_OrOf.f at h
 obtain ⟨t, ht, h⟩ := Option.bind_eq_some_iff.1 h
 have HT := Aside0.mk ht
 have HH := Aside0.mk h
 have HR0 := Aside0.mk hr0
 have HC0 := Aside0.mk hc0
 have HR1 := Aside0.mk hr1
 have HC1 := Aside0.mk hc1
 clear ht h hr0 hc0 hr1 hc1
 go_enter Try.func57, Try.ntmps57
 go_wp2_with (go_at_call 28;fail)
 refine (spec_OccsOk.calls k A0 c0 l0 t _ HR0.out HC0.out HT.out).mono ?_
 rintro e w1 ⟨rfl, hb⟩
 have HB := Aside0.mk hb
 clear hb
 cases t with
 | false =>
  go_wp2_with (first | ((with_reducible refine gate_dst (N := 14) rfl ?_);refine Kd.S_lit k27 _ 27 ?hg (N := 14) ?hd (xs := ([] : List (S27))) (inner := []) (ok := fun _ => True) (okp := fun _ => True) ?hr ?hp (fun _ hk => hk) trivial (Below.refl _ _) (Nat.le_refl _) (by simp) ?_;(case hd => rfl);(case hg => rfl);(case hr => first | (go_simp;done) | (go_simp;rfl));(case hp => exact (Reps.none _ _));intro v13 wl hol hb hg_ hnew_;clear hg_ hnew_;have HS := Aside0.mk (Kd.S_lower hol HB.out.size);have n0_ := Aside0.mk (below_step HB.out hb);clear HB hol hb;have HB := n0_;clear n0_))
  go_ret2
  have h1 : ([], false) = (r1, r2) := Option.some.inj HH.out
  simp only [Prod.mk.injEq] at h1
  obtain ⟨rfl, rfl⟩ := h1
  exact ⟨_, rfl, HS.out, HB.out⟩
 | true =>
  obtain ⟨u, hu, h⟩ := Option.bind_eq_some_iff.1 (show ((spec_OccsOk.f k l1).bind fun u => (if u = true then (spec_l3List.f k l0).bind fun l => (spec_l4Merge.f k l l1).bind fun m => spec_l4Told.f k m else some ([], false))) = some (r1, r2) from by have := HH.out;rw [if_pos rfl] at this;exact this)
  have HU := Aside0.mk hu
  clear HH
  have HH := Aside0.mk h
  clear hu h
  go_wp2_with (go_at_call 28;fail)
  refine (spec_OccsOk.calls k A1 c1 l1 u _ (Kd.C_below HR1.out HB.out) HC1.out HU.out).mono ?_
  rintro e w2 ⟨rfl, hb⟩
  have n0_ := Aside0.mk (below_step HB.out hb)
  clear HB hb
  have HB := n0_
  clear n0_
  cases u with
  | false =>
   go_wp2_with (first | ((with_reducible refine gate_dst (N := 14) rfl ?_);refine Kd.S_lit k27 _ 27 ?hg (N := 14) ?hd (xs := ([] : List (S27))) (inner := []) (ok := fun _ => True) (okp := fun _ => True) ?hr ?hp (fun _ hk => hk) trivial (Below.refl _ _) (Nat.le_refl _) (by simp) ?_;(case hd => rfl);(case hg => rfl);(case hr => first | (go_simp;done) | (go_simp;rfl));(case hp => exact (Reps.none _ _));intro v13 wl hol hb hg_ hnew_;clear hg_ hnew_;have HS := Aside0.mk (Kd.S_lower hol HB.out.size);have n0_ := Aside0.mk (below_step HB.out hb);clear HB hol hb;have HB := n0_;clear n0_))
   go_ret2
   have h1 : ([], false) = (r1, r2) := Option.some.inj HH.out
   simp only [Prod.mk.injEq] at h1
   obtain ⟨rfl, rfl⟩ := h1
   exact ⟨_, rfl, HS.out, HB.out⟩
  | true =>
   obtain ⟨l, hl, h⟩ := Option.bind_eq_some_iff.1 (show ((spec_l3List.f k l0).bind fun l => (spec_l4Merge.f k l l1).bind fun m => spec_l4Told.f k m) = some (r1, r2) from by have := HH.out;rw [if_pos rfl] at this;exact this)
   obtain ⟨m, hm, h⟩ := Option.bind_eq_some_iff.1 h
   have HL := Aside0.mk hl
   have HM := Aside0.mk hm
   have HF := Aside0.mk h
   clear hl hm h
   go_wp2_with (go_at_call 83;fail)
   refine (spec_l3List.calls k A0 c0 l0 l _ (Kd.C_below HR0.out HB.out) HC0.out HL.out).mono ?_
   rintro e w3 ⟨v3, rfl, hs, hb⟩
   have HS := Aside0.mk (Kd.S_lower hs HB.out.size)
   have n0_ := Aside0.mk (below_step HB.out hb)
   clear HB hs hb
   have HB := n0_
   clear n0_
   go_wp2_with (go_at_call 87;fail)
   refine (spec_l4Merge.calls k v3 l A1 c1 l1 m w w3 HB.out HS.out HR1.out HC1.out HM.out).mono ?_
   rintro e w4 ⟨v4, rfl, hs, hb⟩
   clear HS HB
   have HB := Aside0.mk hb
   obtain ⟨A4, c4, e4, hl4, hr4⟩ := Kd.S_reads hs
   subst e4
   have HR4 := Aside0.mk hr4
   have HC4 := Aside0.mk hl4
   clear hs hb hl4 hr4
   go_wp2_with (go_at_call 86;fail)
   refine (spec_l4Told.calls k A4 c4 m r1 r2 w4 HR4.out HC4.out HF.out).mono ?_
   rintro e w5 ⟨v5, rfl, hs, hb⟩
   have HS := Aside0.mk (Kd.S_lower hs HB.out.size)
   have n0_ := Aside0.mk (below_step HB.out hb)
   clear HB hs hb
   have HB := n0_
   clear n0_
   go_wp2
   go_ret2
   exact ⟨_, rfl, HS.out, HB.out⟩

end Go.Proofs.Ytiplpckgmikmeaa.M
namespace Go.Proofs.Ytiplpckgmikmeaa.M
open Go.RowKit Go.Proofs.YtiplpckgmikmeaaW.PrintWords Go.Proofs.YtiplpckgmikmeaaW.PrintLast Go.Proofs.YtiplpckgmikmeaaW.PrintMore
attribute [local go_sem] max2_int min2_int max_two min_two max_three min_three max_four min_four
set_option linter.unusedVariables false
set_option linter.unusedSimpArgs false

def impl_few.f (k : Nat) (l0 : List (S27)) : Option ((List (S27)) × Bool) := if (l0.length : Int) > 40 then (some (([] : List (S27)), false)) else ((impl_cloneOccs.f k l0).bind fun t101 => (some (t101, true)))
theorem impl_few.mono : ∀ a0 k, LeO (impl_few.f k a0) (impl_few.f (k + 1) a0) := by
 intro a0 k
 unfold impl_few.f
 repeat' first
   | (with_reducible exact impl_cloneOccs.mono _ _)
   | (with_reducible exact LeO.refl _)
   | (with_reducible exact LeO.none _)
   | (with_reducible refine LeO.ite ?_ ?_)
   | (with_reducible refine LeO.bind ?_ (fun _ => ?_))
   | exact impl_cloneOccs.mono _ _
   | exact LeO.none _
   | refine LeO.ite ?_ ?_
   | refine LeO.bind ?_ (fun _ => ?_)
set_option maxHeartbeats 8000000 in
set_option maxRecDepth 100000 in
theorem impl_few.calls (k : Nat) (A0 : Option Addr) (c0 : Nat) (l0 : List (S27)) (r1 : List (S27)) (r2 : Bool) (w : World) (hr0 : Kd.C k27 w A0 l0.length l0) (hc0 : l0.length ≤ c0) (h : impl_few.f k l0 = some (r1, r2)) :
  Calls Try.prog 88 #[.slice A0 l0.length c0] w fun e w' => ∃ v0_ : Value, e = .returned (.tuple #[v0_, .bool r2]) ∧ Kd.S k27 27 w' w.heap.size (fun _ => True) v0_ r1 ∧ Below w.heap.size w w' := by
 have HR0 := Aside0.mk hr0
 have HC0 := Aside0.mk hc0
 clear hr0 hc0
 have HB := Aside0.mk (Below.refl w.heap.size w)
 have H : (if (l0.length : Int) > 40 then (some (([] : List (S27)), false)) else ((impl_cloneOccs.f k l0).bind fun t101 => (some (t101, true)))) = some (r1, r2) := h
 clear h
 by_cases c2 : (l0.length : Int) > 40
 ·rw [if_pos c2] at H
  have c2b0 : decide (40 < (l0.length : Int)) = true := decide_eq_true c2
  have c2b1 : decide (40 < l0.length) = true := decide_eq_true (by omega)
  clear c2
  simp only [Option.some.injEq, Prod.mk.injEq] at H
  obtain ⟨rfl, rfl⟩ := H
  go_enter Try.func88, Try.ntmps88
  go_wp2
  go_ret2
  exact ⟨_, by first | rfl | (simp [errW_none, errW_some] <;> rfl) | (simp [*, errW_none, errW_some] <;> rfl), by first | exact Kd.S_nil _ _ _ _ _ | exact Kd.N_nil _ _ _ _ _ | exact Kd.V_nil _ _ _ _ _ | exact Kd.Q_nil _ _ _ _ _ | exact Kd.R_nil _ _ _ _ _, by repeat (first | (with_reducible first | exact HB.out | apply below_alloc | apply pw_below_drewN | apply below_drew1) | exact HB.out)⟩
 ·rw [if_neg c2] at H
  have c2b0 : decide (40 < (l0.length : Int)) = false := decide_eq_false c2
  have c2b1 : decide (40 < l0.length) = false := decide_eq_false (by omega)
  clear c2
  replace H := Option.bind_eq_some_iff.mp H
  obtain ⟨t101, A30, H⟩ := H
  replace H : (some (t101, true)) = some (r1, r2) := H
  have A3 := Aside0.mk A30
  clear A30
  simp only [Option.some.injEq, Prod.mk.injEq] at H
  obtain ⟨rfl, rfl⟩ := H
  go_enter Try.func88, Try.ntmps88
  go_wp2_with (first | ((with_reducible refine gate_callee (f := 84) rfl ?_);refine goesL_ (some 8) rfl rfl Try.func84 (by kernel_rfl) rfl #[.slice A0 l0.length c0] rfl (by (try simp only [List.map_toArray, List.map_cons, List.map_nil]);first | done | rfl | (simp only [List.length_drop, List.length_take];rfl)) ?_;(with_reducible refine (impl_cloneOccs.calls k _ _ l0 t101 _ ?side1 ?side2 A3.out).mono ?_);(case side1 => repeat (first | exact HR0.out | (with_reducible refine Kd.C_alloc ?_ _) | (with_reducible refine Kd.C_drewN ?_ _) | (with_reducible refine Kd.C_drew ?_)));(case side2 => exact HC0.out);rintro e w4 ⟨v102, rfl, ho0, hb⟩;refine ⟨_, rfl, ?_⟩;have HO103 := Aside0.mk (Kd.S_lower ho0 (below_size (by exact HB.out)));replace HB := Aside0.mk (below_step (by exact HB.out) hb);(try clear hb);(try clear hb2);(try clear hk);(try clear hi);(try clear ho0)))
  go_ret2
  exact ⟨_, by first | rfl | (simp [errW_none, errW_some] <;> rfl) | (simp [*, errW_none, errW_some] <;> rfl), by (with_reducible repeat (first | apply Kd.S_alloc | apply Kd.S_drewN | apply Kd.S_drew));exact HO103.out, by repeat (first | (with_reducible first | exact HB.out | apply below_alloc | apply pw_below_drewN | apply below_drew1) | exact HB.out)⟩

end Go.Proofs.Ytiplpckgmikmeaa.M
